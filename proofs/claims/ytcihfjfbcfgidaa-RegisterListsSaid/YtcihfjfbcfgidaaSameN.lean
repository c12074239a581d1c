/- The law's words: buckets, messages, results that are alike. -/
import Derived.Test.YtcihfjfbcfgidaaSameM
namespace Go.Proofs.Ytcihfjfbcfgidaa
open Go.RowKit Go.Proofs.YtcihfjfbcfgidaaW.PrintLast
set_option linter.unusedVariables false

set_option maxRecDepth 100000 in
theorem eql_addr_self (a : Bool) (b : Int) (w : World) : (binOp .eql 58 (.agg #[.bool a, .int .i64 b]) (.agg #[.bool a, .int .i64 b])).run Try.prog w = .ok (.bool true) w := by
  cases a <;> go_simp
set_option maxRecDepth 100000 in
theorem eql_key_self (a b c d : Int) (w : World) : (binOp .eql 51 (.agg #[.int .i64 a, .int .i64 b, .int .i64 c, .int .i64 d]) (.agg #[.int .i64 a, .int .i64 b, .int .i64 c, .int .i64 d])).run Try.prog w = .ok (.bool true) w := by
  go_simp
theorem eql_stamp_self (a b : Int) (w : World) : (binOp .eql 23 (.agg #[.int .i64 a, .int .i64 b]) (.agg #[.int .i64 a, .int .i64 b])).run Try.prog w = .ok (.bool true) w := by
  rw [eql_stamp]; simp
set_option maxRecDepth 100000 in
theorem eql_com_self (c0 c1 c2 : Int) (nm : ByteArray) (c3 c4 c5 c6 c7 : Int) (w : World) : (binOp .eql 60 (.agg #[.int .i64 c0, .int .i64 c1, .int .i64 c2, .string nm, .int .i64 c3, .int .i64 c4, .int .i64 c5, .int .i64 c6, .int .i64 c7]) (.agg #[.int .i64 c0, .int .i64 c1, .int .i64 c2, .string nm, .int .i64 c3, .int .i64 c4, .int .i64 c5, .int .i64 c6, .int .i64 c7])).run Try.prog w = .ok (.bool true) w := by
  go_simp
set_option maxRecDepth 100000 in
theorem eql_ent_self (nm : ByteArray) (a b c : Int) (w : World) : (binOp .eql 43 (.agg #[.string nm, .int .i64 a, .int .i64 b, .int .i64 c]) (.agg #[.string nm, .int .i64 a, .int .i64 b, .int .i64 c])).run Try.prog w = .ok (.bool true) w := by
  go_simp

theorem wpList_load_mid_w {ops : Array Oper} {rest : List Oper} {op : Oper} {a : Act} {w : World} {Q : Exit → Act → World → Prop} (hw : Region.wanted op (yielded ops a.tmps) = true) (ty : TypeId) (x : Operand) (ho : op.op = .load ty x)
    (b o : Nat) (hx : a.eval x = .pointer (some ⟨b, o, Option.none⟩)) (cs : List Value) (d : TypeDesc) (hc : w.rangeAt b o cs)
    (hu : Try.prog.underlying ty = some d) (hd : d.isRow = true) (hi : (Try.prog.info? ty).map (·.size) = some cs.length)
    (h : wpList Try.prog ops Q rest (a.put op.dst (.agg cs.toArray)) w) : wpList Try.prog ops Q (op :: rest) a w :=
  BigFrame.wpList_want hw fun _ hK => wp_load_mid ty x ho b o hx cs d hc hu hd hi (hK _ _ h)
theorem Blk.range {w : World} {g t : Nat} {cs : List Value} (h : Blk w g t cs) (o : Nat) (ds : List Value) (hd : (cs.drop o).take ds.length = ds) : w.rangeAt g o ds := fun j v hv => by
  refine h.cell (o + j) v ?_
  have hj := (List.getElem?_eq_some_iff.1 hv).1
  rw [← hd, List.getElem?_take, if_pos hj, List.getElem?_drop] at hv
  exact hv

set_option maxRecDepth 100000 in
set_option maxHeartbeats 1600000 in
theorem samebucket_any (up : Int) (el : List Ent) (ll : List Las) (E : Option Addr) (ec : Nat) (L : Option Addr) (lc : Nat) (E' : Option Addr) (ec' : Nat) (L' : Option Addr) (lc' : Nat) (w : World) (hE : Ents w E el) (hE' : Ents w E' el) (hL : Lass w L ll) (hL' : Lass w L' ll) (he : el.length ≤ 140737488351232) (hl : ll.length ≤ 140737488351232) :
    Calls Try.prog 62 #[.agg #[.int .i64 up, .slice E el.length ec, .slice L ll.length lc], .agg #[.int .i64 up, .slice E' el.length ec', .slice L' ll.length lc']] w fun e w' => e = .returned (.bool true) ∧ Keeps None w w' := by
  obtain ⟨W1, hW1⟩ : ∃ W, W = w.alloc (.cells #[.int .i64 up, .slice E el.length ec, .slice L ll.length lc] 63) := ⟨_, rfl⟩
  obtain ⟨W, hW⟩ : ∃ W, W = W1.alloc (.cells #[.int .i64 up, .slice E' el.length ec', .slice L' ll.length lc'] 63) := ⟨_, rfl⟩
  have kW1 : Keeps None w W1 := by rw [hW1]; exact (Keeps.refl _ _).alloc _
  have kW2 : Keeps None W1 W := by rw [hW]; exact (Keeps.refl _ _).alloc _
  have kW := kW1.trans kW2
  obtain ⟨x, hx⟩ : ∃ x, x = w.heap.size := ⟨_, rfl⟩
  obtain ⟨y, hy⟩ : ∃ y, y = w.heap.size + 1 := ⟨_, rfl⟩
  have hX : Blk W x 63 [.int .i64 up, .slice E el.length ec, .slice L ll.length lc] := by
    have : Blk W1 x 63 [.int .i64 up, .slice E el.length ec, .slice L ll.length lc] := by rw [hW1, hx]; exact Blk.new _ _ _
    exact this.grew kW2
  have hY : Blk W y 63 [.int .i64 up, .slice E' el.length ec', .slice L' ll.length lc'] := by
    have hs : W1.heap.size = y := by rw [hW1, hy, World.size_alloc]
    rw [hW, ← hs]; exact Blk.new _ _ _
  have x0 := hX.cell 0 _ rfl
  have x1 := hX.cell 1 _ rfl
  have x2 := hX.cell 2 _ rfl
  have y0 := hY.cell 0 _ rfl
  have y1 := hY.cell 1 _ rfl
  have y2 := hY.cell 2 _ rfl
  go_enter Try.func62, Try.ntmps62
  go_upto_region 1 with (fail)
  rw [← hW1, ← hW, ← hy, ← hx]
  clear hW1 hW hx hy
  go_wp2_with fail
  refine (same_Ent E el.length ec E' el.length ec' el W (hE.grew kW) (hE'.grew kW) rfl rfl he).mono ?_
  rintro e w3 ⟨rfl, hk3⟩
  have x2 := hk3.cell x2 id
  have y2 := hk3.cell y2 id
  have k3 := kW.trans hk3
  clear x0 x1 y0 y1
  go_wp2_with fail
  refine (same_Las L ll.length lc L' ll.length lc' ll w3 (hL.grew k3) (hL'.grew k3) rfl rfl hl).mono ?_
  rintro e w4 ⟨rfl, hk4⟩
  go_wp2_with fail
  go_ret
  exact ⟨rfl, k3.trans hk4⟩

set_option maxRecDepth 100000 in
set_option maxHeartbeats 6400000 in
theorem samemsg_any (kind : Int) (fc : Bool) (fi : Int) (tc : Bool) (ti op rd q0 q1 q2 q3 s1 s2 h1 h2 : Int) (zs : List Int) (c0 c1 c2 : Int) (nm : ByteArray) (c3 c4 c5 c6 c7 up : Int) (el : List Ent) (ll : List Las) (dl : List Com) (more : Bool) (A : Option Addr) (cap : Nat) (E : Option Addr) (ec : Nat) (L : Option Addr) (lc : Nat) (D : Option Addr) (dc : Nat) (A' : Option Addr) (cap' : Nat) (E' : Option Addr) (ec' : Nat) (L' : Option Addr) (lc' : Nat) (D' : Option Addr) (dc' : Nat) (w : World) (hA : Nums .u8 w A zs) (hA' : Nums .u8 w A' zs) (hz : zs.length ≤ 140737488351232) (hE : Ents w E el) (hE' : Ents w E' el) (hL : Lass w L ll) (hL' : Lass w L' ll) (he : el.length ≤ 140737488351232) (hl : ll.length ≤ 140737488351232) (hD : Coms w D dl) (hD' : Coms w D' dl) (hd : dl.length ≤ 140737488351232) :
    Calls Try.prog 48 #[.agg #[.int .i64 kind, .bool fc, .int .i64 fi, .bool tc, .int .i64 ti, .int .i64 op, .int .i64 rd, .int .i64 q0, .int .i64 q1, .int .i64 q2, .int .i64 q3, .int .i64 s1, .int .i64 s2, .int .i64 h1, .int .i64 h2, .slice A zs.length cap, .int .i64 c0, .int .i64 c1, .int .i64 c2, .string nm, .int .i64 c3, .int .i64 c4, .int .i64 c5, .int .i64 c6, .int .i64 c7, .int .i64 up, .slice E el.length ec, .slice L ll.length lc, .slice D dl.length dc, .bool more], .agg #[.int .i64 kind, .bool fc, .int .i64 fi, .bool tc, .int .i64 ti, .int .i64 op, .int .i64 rd, .int .i64 q0, .int .i64 q1, .int .i64 q2, .int .i64 q3, .int .i64 s1, .int .i64 s2, .int .i64 h1, .int .i64 h2, .slice A' zs.length cap', .int .i64 c0, .int .i64 c1, .int .i64 c2, .string nm, .int .i64 c3, .int .i64 c4, .int .i64 c5, .int .i64 c6, .int .i64 c7, .int .i64 up, .slice E' el.length ec', .slice L' ll.length lc', .slice D' dl.length dc', .bool more]] w fun e w' => e = .returned (.bool true) ∧ Keeps None w w' := by
  obtain ⟨W1, hW1⟩ : ∃ W, W = w.alloc (.cells #[.int .i64 kind, .bool fc, .int .i64 fi, .bool tc, .int .i64 ti, .int .i64 op, .int .i64 rd, .int .i64 q0, .int .i64 q1, .int .i64 q2, .int .i64 q3, .int .i64 s1, .int .i64 s2, .int .i64 h1, .int .i64 h2, .slice A zs.length cap, .int .i64 c0, .int .i64 c1, .int .i64 c2, .string nm, .int .i64 c3, .int .i64 c4, .int .i64 c5, .int .i64 c6, .int .i64 c7, .int .i64 up, .slice E el.length ec, .slice L ll.length lc, .slice D dl.length dc, .bool more] 66) := ⟨_, rfl⟩
  obtain ⟨W, hW⟩ : ∃ W, W = W1.alloc (.cells #[.int .i64 kind, .bool fc, .int .i64 fi, .bool tc, .int .i64 ti, .int .i64 op, .int .i64 rd, .int .i64 q0, .int .i64 q1, .int .i64 q2, .int .i64 q3, .int .i64 s1, .int .i64 s2, .int .i64 h1, .int .i64 h2, .slice A' zs.length cap', .int .i64 c0, .int .i64 c1, .int .i64 c2, .string nm, .int .i64 c3, .int .i64 c4, .int .i64 c5, .int .i64 c6, .int .i64 c7, .int .i64 up, .slice E' el.length ec', .slice L' ll.length lc', .slice D' dl.length dc', .bool more] 66) := ⟨_, rfl⟩
  have kW1 : Keeps None w W1 := by rw [hW1]; exact (Keeps.refl _ _).alloc _
  have kW2 : Keeps None W1 W := by rw [hW]; exact (Keeps.refl _ _).alloc _
  have kW := kW1.trans kW2
  obtain ⟨x, hx⟩ : ∃ x, x = w.heap.size := ⟨_, rfl⟩
  obtain ⟨y, hy⟩ : ∃ y, y = w.heap.size + 1 := ⟨_, rfl⟩
  have hX : Blk W x 66 [.int .i64 kind, .bool fc, .int .i64 fi, .bool tc, .int .i64 ti, .int .i64 op, .int .i64 rd, .int .i64 q0, .int .i64 q1, .int .i64 q2, .int .i64 q3, .int .i64 s1, .int .i64 s2, .int .i64 h1, .int .i64 h2, .slice A zs.length cap, .int .i64 c0, .int .i64 c1, .int .i64 c2, .string nm, .int .i64 c3, .int .i64 c4, .int .i64 c5, .int .i64 c6, .int .i64 c7, .int .i64 up, .slice E el.length ec, .slice L ll.length lc, .slice D dl.length dc, .bool more] := by
    have : Blk W1 x 66 [.int .i64 kind, .bool fc, .int .i64 fi, .bool tc, .int .i64 ti, .int .i64 op, .int .i64 rd, .int .i64 q0, .int .i64 q1, .int .i64 q2, .int .i64 q3, .int .i64 s1, .int .i64 s2, .int .i64 h1, .int .i64 h2, .slice A zs.length cap, .int .i64 c0, .int .i64 c1, .int .i64 c2, .string nm, .int .i64 c3, .int .i64 c4, .int .i64 c5, .int .i64 c6, .int .i64 c7, .int .i64 up, .slice E el.length ec, .slice L ll.length lc, .slice D dl.length dc, .bool more] := by rw [hW1, hx]; exact Blk.new _ _ _
    exact this.grew kW2
  have hY : Blk W y 66 [.int .i64 kind, .bool fc, .int .i64 fi, .bool tc, .int .i64 ti, .int .i64 op, .int .i64 rd, .int .i64 q0, .int .i64 q1, .int .i64 q2, .int .i64 q3, .int .i64 s1, .int .i64 s2, .int .i64 h1, .int .i64 h2, .slice A' zs.length cap', .int .i64 c0, .int .i64 c1, .int .i64 c2, .string nm, .int .i64 c3, .int .i64 c4, .int .i64 c5, .int .i64 c6, .int .i64 c7, .int .i64 up, .slice E' el.length ec', .slice L' ll.length lc', .slice D' dl.length dc', .bool more] := by
    have hs : W1.heap.size = y := by rw [hW1, hy, World.size_alloc]
    rw [hW, ← hs]; exact Blk.new _ _ _
  have x0 := hX.cell 0 _ rfl
  have y0 := hY.cell 0 _ rfl
  have x1 := hX.cell 1 _ rfl
  have y1 := hY.cell 1 _ rfl
  have x2 := hX.cell 2 _ rfl
  have y2 := hY.cell 2 _ rfl
  have x3 := hX.cell 3 _ rfl
  have y3 := hY.cell 3 _ rfl
  have x4 := hX.cell 4 _ rfl
  have y4 := hY.cell 4 _ rfl
  have x5 := hX.cell 5 _ rfl
  have y5 := hY.cell 5 _ rfl
  have x6 := hX.cell 6 _ rfl
  have y6 := hY.cell 6 _ rfl
  have x7 := hX.cell 7 _ rfl
  have y7 := hY.cell 7 _ rfl
  have x8 := hX.cell 8 _ rfl
  have y8 := hY.cell 8 _ rfl
  have x9 := hX.cell 9 _ rfl
  have y9 := hY.cell 9 _ rfl
  have x10 := hX.cell 10 _ rfl
  have y10 := hY.cell 10 _ rfl
  have x11 := hX.cell 11 _ rfl
  have y11 := hY.cell 11 _ rfl
  have x12 := hX.cell 12 _ rfl
  have y12 := hY.cell 12 _ rfl
  have x13 := hX.cell 13 _ rfl
  have y13 := hY.cell 13 _ rfl
  have x14 := hX.cell 14 _ rfl
  have y14 := hY.cell 14 _ rfl
  have x15 := hX.cell 15 _ rfl
  have y15 := hY.cell 15 _ rfl
  have x25 := hX.cell 25 _ rfl
  have y25 := hY.cell 25 _ rfl
  have x26 := hX.cell 26 _ rfl
  have y26 := hY.cell 26 _ rfl
  have x27 := hX.cell 27 _ rfl
  have y27 := hY.cell 27 _ rfl
  have x28 := hX.cell 28 _ rfl
  have y28 := hY.cell 28 _ rfl
  have x29 := hX.cell 29 _ rfl
  have y29 := hY.cell 29 _ rfl
  have rx := hX.range 16 [.int .i64 c0, .int .i64 c1, .int .i64 c2, .string nm, .int .i64 c3, .int .i64 c4, .int .i64 c5, .int .i64 c6, .int .i64 c7] rfl
  have ry := hY.range 16 [.int .i64 c0, .int .i64 c1, .int .i64 c2, .string nm, .int .i64 c3, .int .i64 c4, .int .i64 c5, .int .i64 c6, .int .i64 c7] rfl
  have e1 := eql_addr_self fc fi
  have e2 := eql_addr_self tc ti
  have e3 := eql_key_self q0 q1 q2 q3
  have e4 := eql_stamp_self s1 s2
  have e5 := eql_stamp_self h1 h2
  have e6 := eql_com_self c0 c1 c2 nm c3 c4 c5 c6 c7
  go_enter Try.func48, Try.ntmps48
  go_upto_region 1 with (fail)
  rw [← hW1, ← hW, ← hy, ← hx]
  clear hW1 hW hx hy
  simp only [List.append]
  go_wp2_with (first | (refine wpList_load_mid_w (by rfl) 60 (.tmp 60) rfl x 16 rfl [.int .i64 c0, .int .i64 c1, .int .i64 c2, .string nm, .int .i64 c3, .int .i64 c4, .int .i64 c5, .int .i64 c6, .int .i64 c7] _ rx Try.underlying60 rfl (by kernel_rfl) ?_) | (refine wpList_load_mid_w (by rfl) 60 (.tmp 62) rfl y 16 rfl [.int .i64 c0, .int .i64 c1, .int .i64 c2, .string nm, .int .i64 c3, .int .i64 c4, .int .i64 c5, .int .i64 c6, .int .i64 c7] _ ry Try.underlying60 rfl (by kernel_rfl) ?_))
  refine (same_any A zs.length cap zs A' zs.length cap' zs W (hA.grew kW) rfl (hA'.grew kW) rfl hz).mono ?_
  rintro e w3 ⟨rfl, hk3⟩
  have hk3 := hk3.keeps None
  rw [show SameB zs zs = true from by simp [SameB]]
  clear x0 y0 x1 y1 x2 y2 x3 y3 x4 y4 x5 y5 x6 y6 x7 y7 x8 y8 x9 y9 x10 y10 x11 y11 x12 y12 x13 y13 x14 y14 x15 y15 rx ry e1 e2 e3 e4 e5 e6
  have x25 := hk3.cell x25 id
  have y25 := hk3.cell y25 id
  have x26 := hk3.cell x26 id
  have y26 := hk3.cell y26 id
  have x27 := hk3.cell x27 id
  have y27 := hk3.cell y27 id
  have x28 := hk3.cell x28 id
  have y28 := hk3.cell y28 id
  have x29 := hk3.cell x29 id
  have y29 := hk3.cell y29 id
  have k3 := kW.trans hk3
  clear hk3 hX hY
  go_wp2_with fail
  refine (samebucket_any up el ll E ec L lc E' ec' L' lc' w3 (hE.grew k3) (hE'.grew k3) (hL.grew k3) (hL'.grew k3) he hl).mono ?_
  rintro e w4 ⟨rfl, hk4⟩
  have x28 := hk4.cell x28 id
  have y28 := hk4.cell y28 id
  have k4 := k3.trans hk4
  clear x25 y25 x26 y26 x27 y27 x29 y29 hk4
  go_wp2_with fail
  refine (same_Com D dl.length dc D' dl.length dc' dl w4 (hD.grew k4) (hD'.grew k4) rfl rfl hd).mono ?_
  rintro e w5 ⟨rfl, hk5⟩
  go_wp2_with fail
  go_ret
  exact ⟨rfl, k4.trans hk5⟩

set_option maxRecDepth 100000 in
set_option maxHeartbeats 6400000 in
theorem sameresult_any (err t1 t2 : Int) (zs : List Int) (A : Option Addr) (cap : Nat) (A' : Option Addr) (cap' : Nat) (w : World) (hA : Nums .u8 w A zs) (hA' : Nums .u8 w A' zs) (hz : zs.length ≤ 140737488351232) :
    Calls Try.prog 42 #[.agg (resCells err (t1, t2) (.slice A zs.length cap)).toArray, .agg (resCells err (t1, t2) (.slice A' zs.length cap')).toArray] w fun e w' => e = .returned (.bool true) ∧ Keeps None w w' := by
  simp only [resCells]
  obtain ⟨W1, hW1⟩ : ∃ W, W = w.alloc (.cells #[.int .i64 err, .string ⟨#[]⟩, .int .i64 0, .int .i64 0, .int .i64 0, .slice Option.none 0 0, .slice A zs.length cap, .int .i64 0, .int .i64 t1, .int .i64 t2, .int .i64 0] 46) := ⟨_, rfl⟩
  obtain ⟨W, hW⟩ : ∃ W, W = W1.alloc (.cells #[.int .i64 err, .string ⟨#[]⟩, .int .i64 0, .int .i64 0, .int .i64 0, .slice Option.none 0 0, .slice A' zs.length cap', .int .i64 0, .int .i64 t1, .int .i64 t2, .int .i64 0] 46) := ⟨_, rfl⟩
  have kW1 : Keeps None w W1 := by rw [hW1]; exact (Keeps.refl _ _).alloc _
  have kW2 : Keeps None W1 W := by rw [hW]; exact (Keeps.refl _ _).alloc _
  have kW := kW1.trans kW2
  obtain ⟨x, hx⟩ : ∃ x, x = w.heap.size := ⟨_, rfl⟩
  obtain ⟨y, hy⟩ : ∃ y, y = w.heap.size + 1 := ⟨_, rfl⟩
  have hX : Blk W x 46 [.int .i64 err, .string ⟨#[]⟩, .int .i64 0, .int .i64 0, .int .i64 0, .slice Option.none 0 0, .slice A zs.length cap, .int .i64 0, .int .i64 t1, .int .i64 t2, .int .i64 0] := by
    have : Blk W1 x 46 [.int .i64 err, .string ⟨#[]⟩, .int .i64 0, .int .i64 0, .int .i64 0, .slice Option.none 0 0, .slice A zs.length cap, .int .i64 0, .int .i64 t1, .int .i64 t2, .int .i64 0] := by rw [hW1, hx]; exact Blk.new _ _ _
    exact this.grew kW2
  have hY : Blk W y 46 [.int .i64 err, .string ⟨#[]⟩, .int .i64 0, .int .i64 0, .int .i64 0, .slice Option.none 0 0, .slice A' zs.length cap', .int .i64 0, .int .i64 t1, .int .i64 t2, .int .i64 0] := by
    have hs : W1.heap.size = y := by rw [hW1, hy, World.size_alloc]
    rw [hW, ← hs]; exact Blk.new _ _ _
  have x0 := hX.cell 0 _ rfl
  have y0 := hY.cell 0 _ rfl
  have x1 := hX.cell 1 _ rfl
  have y1 := hY.cell 1 _ rfl
  have x2 := hX.cell 2 _ rfl
  have y2 := hY.cell 2 _ rfl
  have x3 := hX.cell 3 _ rfl
  have y3 := hY.cell 3 _ rfl
  have x4 := hX.cell 4 _ rfl
  have y4 := hY.cell 4 _ rfl
  have x5 := hX.cell 5 _ rfl
  have y5 := hY.cell 5 _ rfl
  have x6 := hX.cell 6 _ rfl
  have y6 := hY.cell 6 _ rfl
  have x7 := hX.cell 7 _ rfl
  have y7 := hY.cell 7 _ rfl
  have x8 := hX.cell 8 _ rfl
  have y8 := hY.cell 8 _ rfl
  have x9 := hX.cell 9 _ rfl
  have y9 := hY.cell 9 _ rfl
  have x10 := hX.cell 10 _ rfl
  have y10 := hY.cell 10 _ rfl
  have rx := hX.range 1 [.string ⟨#[]⟩, .int .i64 0, .int .i64 0, .int .i64 0] rfl
  have ry := hY.range 1 [.string ⟨#[]⟩, .int .i64 0, .int .i64 0, .int .i64 0] rfl
  have e1 := eql_ent_self ⟨#[]⟩ 0 0 0
  have e2 := eql_stamp_self t1 t2
  go_enter Try.func42, Try.ntmps42
  go_upto_region 1 with (fail)
  rw [← hW1, ← hW, ← hy, ← hx]
  clear hW1 hW hx hy
  go_wp2_with (first | (refine wpList_load_mid_w (by rfl) 43 (.tmp 11) rfl x 1 rfl [.string ⟨#[]⟩, .int .i64 0, .int .i64 0, .int .i64 0] _ rx Try.underlying43 rfl (by kernel_rfl) ?_) | (refine wpList_load_mid_w (by rfl) 43 (.tmp 13) rfl y 1 rfl [.string ⟨#[]⟩, .int .i64 0, .int .i64 0, .int .i64 0] _ ry Try.underlying43 rfl (by kernel_rfl) ?_))
  refine (same_Ent Option.none 0 0 Option.none 0 0 [] W (Ents.nil _ _) (Ents.nil _ _) rfl rfl (by omega)).mono ?_
  rintro e w3 ⟨rfl, hk3⟩
  have x6 := hk3.cell x6 id
  have y6 := hk3.cell y6 id
  have x7 := hk3.cell x7 id
  have y7 := hk3.cell y7 id
  have x8 := hk3.cell x8 id
  have y8 := hk3.cell y8 id
  have x9 := hk3.cell x9 id
  have y9 := hk3.cell y9 id
  have x10 := hk3.cell x10 id
  have y10 := hk3.cell y10 id
  have k3 := kW.trans hk3
  clear hk3 hX hY x0 y0 x1 y1 x2 y2 x3 y3 x4 y4 x5 y5 rx ry e1
  go_wp2_with fail
  refine (same_any A zs.length cap zs A' zs.length cap' zs w3 (hA.grew k3) rfl (hA'.grew k3) rfl hz).mono ?_
  rintro e w4 ⟨rfl, hk4⟩
  have hk4 := hk4.keeps None
  rw [show SameB zs zs = true from by simp [SameB]]
  have x7 := hk4.cell x7 id
  have y7 := hk4.cell y7 id
  have x8 := hk4.cell x8 id
  have y8 := hk4.cell y8 id
  have x9 := hk4.cell x9 id
  have y9 := hk4.cell y9 id
  have x10 := hk4.cell x10 id
  have y10 := hk4.cell y10 id
  have k4 := k3.trans hk4
  clear hk4 x6 y6
  go_wp2_with fail
  go_ret
  exact ⟨rfl, k4⟩
end Go.Proofs.Ytcihfjfbcfgidaa
