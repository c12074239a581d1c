/- The machine's Begin. -/
import Derived.Test.YtcihfjfbcfgidaaMach
namespace Go.Proofs.Ytcihfjfbcfgidaa
open Go.RowKit Go.Maps Go.Proofs.YtcihfjfbcfgidaaW.PrintLast

set_option maxRecDepth 100000 in
set_option maxHeartbeats 1600000 in
theorem ask1_any (tg : Nat) (g : Nat) (client op round need k0 k1 k2 k3 : Int) (v : Value) (wr : Bool) (bl : Value) (size : Int) (st : Value) (A : Option Addr) (cap : Nat) (l : List Int) (w : World)
    (hB : Blk w g 109 (mcells client op round need k0 k1 k2 k3 v wr bl size st)) (hA : Nums .i64 w A l) (hl : l.length ≤ 1000) :
    Calls Try.prog 98 #[.agg #[.pointer (some ⟨tg, 0, Option.none⟩)], .pointer (some ⟨g, 0, Option.none⟩), .slice A l.length cap] w fun e w' =>
      ∃ u ms, e = .returned u ∧ MsgRow w' w.heap.size 1 client op round k0 k1 k2 k3 0 0 u l [] ms ∧ Keeps None w w' := by
  have kX := (Keeps.refl None w).alloc (.cells #[.pointer (some ⟨tg, 0, Option.none⟩)] 162)
  have hs := kX.size
  go_enter Try.func98, Try.ntmps98
  go_wp2_with fail
  refine (tell_any g client op round need k0 k1 k2 k3 v wr bl size st 1 A cap l 0 0 Option.none 0 [] _ (hB.grew kX) (hA.grew kX) hl (Nums.nil _ _ _) (by simp)).mono ?_
  rintro e w2 ⟨u, ms, rfl, hM, hk⟩
  go_wp2_with fail
  go_ret
  exact ⟨_, ms, rfl, hM.down hs, kX.trans hk⟩

set_option maxRecDepth 100000 in
set_option maxHeartbeats 1600000 in
theorem ask2_any (tg : Nat) (t1 t2 : Int) (B : Option Addr) (capB : Nat) (zs : List Int) (g : Nat) (client op round need k0 k1 k2 k3 : Int) (v : Value) (wr : Bool) (bl : Value) (size : Int) (st : Value) (A : Option Addr) (cap : Nat) (l : List Int) (w : World)
    (hB : Blk w g 109 (mcells client op round need k0 k1 k2 k3 v wr bl size st)) (hA : Nums .i64 w A l) (hl : l.length ≤ 1000) (hZ : Nums .u8 w B zs) (hz : zs.length ≤ 140737488351232) :
    Calls Try.prog 114 #[.agg #[.pointer (some ⟨tg, 0, Option.none⟩), .int .i64 t1, .int .i64 t2, .slice B zs.length capB], .pointer (some ⟨g, 0, Option.none⟩), .slice A l.length cap] w fun e w' =>
      ∃ u ms, e = .returned u ∧ MsgRow w' w.heap.size 2 client op round k0 k1 k2 k3 t1 t2 u l zs ms ∧ Keeps None w w' := by
  have kX := (Keeps.refl None w).alloc (.cells #[.pointer (some ⟨tg, 0, Option.none⟩), .int .i64 t1, .int .i64 t2, .slice B zs.length capB] 183)
  have hs := kX.size
  go_enter Try.func114, Try.ntmps114
  go_wp2_with fail
  refine (tell_any g client op round need k0 k1 k2 k3 v wr bl size st 2 A cap l t1 t2 B capB zs _ (hB.grew kX) (hA.grew kX) hl (hZ.grew kX) hz).mono ?_
  rintro e w2 ⟨u, ms, rfl, hM, hk⟩
  go_wp2_with fail
  go_ret
  exact ⟨_, ms, rfl, hM.down hs, kX.trans hk⟩

set_option maxRecDepth 100000 in
set_option maxHeartbeats 1600000 in
theorem begin_fresh (g base : Nat) (X : Nat → Prop) (h : Hd) (round : Int) (w : World) (hM : Mach w base X g h round .fresh) (h1 : 1 ≤ round) (h2 : round ≤ 1099511627776) :
    Calls Try.prog 84 #[.pointer (some ⟨g, 0, Option.none⟩)] w (StepEnd w base X g h round (.asking []) (.msgs 1 round (0, 0) [] h.grp)) := by
  obtain ⟨v, bl, st, hB, hR, hv, hbl, hx, hst⟩ := hM.out
  obtain rfl : st = freshV := hst
  obtain ⟨Ag, cg, rfl, -, hNg, -⟩ := hR.open_
  have c2 := hB.cell 2 _ rfl
  have c12 := hB.cell 12 _ rfl
  have hta : ∀ w, (Instr.typeAssert freshV 107 128 true).run Try.prog w = .ok (.tuple #[.agg #[], .bool true]) w := fun w => by kernel_rfl
  have hB1 := hB.alloc (.cells #[] 128)
  have kX := (Keeps.refl None w).alloc (.cells #[] 128)
  have d2 := hB1.cell 2 _ rfl
  have d3 := hB1.cell 3 _ rfl
  have d5 := hB1.cell 8 _ rfl
  obtain ⟨tl1, tl2⟩ : (decide (round < 1) = false) ∧ (decide (round > 1099511627776) = false) := by constructor <;> (apply decide_eq_false; omega)
  simp only [freshV] at *
  go_enter Try.func84, Try.ntmps84
  go_wp2_with fail
  obtain ⟨W, hW⟩ : ∃ W, W = w.alloc (.cells #[] 128) := ⟨_, rfl⟩
  simp only [← hW] at *
  clear hW
  refine start_ (ds := [14]) (S := (fun w' => Keeps None W w')) #[false, false, false, false, false, false, false, false, false, false, false, false, false, false, false] (by kernel_rfl) rfl rfl ((Keeps.refl _ _).drew) (fun hS0 => ?_)
  refine pure_ (i := 0) (N := some 30) (v := .pointer (some ⟨g, 0, Option.none⟩)) #[true, false, false, false, false, false, false, false, false, false, false, false, false, false, false] rfl rfl (by kernel_rfl) (fun _ _ _ h => h) (Or.inl ⟨wanted_none rfl, fun w => by rfl⟩) rfl ?_
  try simp only [Act.put, List.setIfInBounds_toArray, List.set_cons_zero, List.set_cons_succ]
  refine pure_ (i := 1) (N := some 31) (v := .pointer (some ⟨g, 0, Option.none⟩)) #[true, true, false, false, false, false, false, false, false, false, false, false, false, false, false] rfl rfl (by kernel_rfl) (fun _ _ _ h => h) (Or.inl ⟨wanted_none rfl, fun w => by rfl⟩) rfl ?_
  try simp only [Act.put, List.setIfInBounds_toArray, List.set_cons_zero, List.set_cons_succ]
  refine pure_ (i := 2) (N := some 32) (v := .pointer (some ⟨g, 0, Option.none⟩)) #[true, true, true, false, false, false, false, false, false, false, false, false, false, false, false] rfl rfl (by kernel_rfl) (fun _ _ _ h => h) (Or.inl ⟨wanted_none rfl, fun w => by go_simp⟩) rfl ?_
  try simp only [Act.put, List.setIfInBounds_toArray, List.set_cons_zero, List.set_cons_succ]
  refine pure_ (i := 3) (N := some 33) (v := .pointer (some ⟨g, 8, Option.none⟩)) #[true, true, true, true, false, false, false, false, false, false, false, false, false, false, false] rfl rfl (by kernel_rfl) (fun _ _ _ h => h) (Or.inl ⟨wanted_none rfl, fun w => by go_simp⟩) rfl ?_
  try simp only [Act.put, List.setIfInBounds_toArray, List.set_cons_zero, List.set_cons_succ]
  refine take_ (i := 4) (N := some 34) (v := .slice Ag h.grp.length cg) #[true, true, true, true, true, false, false, false, false, false, false, false, false, false, false] rfl rfl (by kernel_rfl) (fun _ _ _ h => h) (Or.inl ⟨wanted_none rfl, by intro w' hSw; have q := hSw.cell d5 id; go_simp⟩) hS0 rfl ?_
  try simp only [Act.put, List.setIfInBounds_toArray, List.set_cons_zero, List.set_cons_succ]
  refine pure_ (i := 5) (N := some 35) (v := .pointer (some ⟨g, 0, Option.none⟩)) #[true, true, true, true, true, true, false, false, false, false, false, false, false, false, false] rfl rfl (by kernel_rfl) (fun _ _ _ h => h) (Or.inl ⟨wanted_none rfl, fun w => by rfl⟩) rfl ?_
  try simp only [Act.put, List.setIfInBounds_toArray, List.set_cons_zero, List.set_cons_succ]
  refine pure_ (i := 6) (N := some 36) (v := .pointer (some ⟨g, 0, Option.none⟩)) #[true, true, true, true, true, true, true, false, false, false, false, false, false, false, false] rfl rfl (by kernel_rfl) (fun _ _ _ h => h) (Or.inl ⟨wanted_none rfl, fun w => by go_simp⟩) rfl ?_
  try simp only [Act.put, List.setIfInBounds_toArray, List.set_cons_zero, List.set_cons_succ]
  refine pure_ (i := 7) (N := some 37) (v := .pointer (some ⟨g, 3, Option.none⟩)) #[true, true, true, true, true, true, true, true, false, false, false, false, false, false, false] rfl rfl (by kernel_rfl) (fun _ _ _ h => h) (Or.inl ⟨wanted_none rfl, fun w => by go_simp⟩) rfl ?_
  try simp only [Act.put, List.setIfInBounds_toArray, List.set_cons_zero, List.set_cons_succ]
  refine take_ (i := 8) (N := some 38) (v := .int .i64 h.need) #[true, true, true, true, true, true, true, true, true, false, false, false, false, false, false] rfl rfl (by kernel_rfl) (fun _ _ _ h => h) (Or.inl ⟨wanted_none rfl, by intro w' hSw; have q := hSw.cell d3 id; go_simp⟩) hS0 rfl ?_
  try simp only [Act.put, List.setIfInBounds_toArray, List.set_cons_zero, List.set_cons_succ]
  refine one_ (i := 9) (oi := ({ dst := some 39, op := Op.call { callee := Callee.value (Operand.func 90), args := #[Operand.tmp 34, Operand.tmp 38], argTypes := #[52, 3] }, type := 159, pos := "register.go:105", after := #[{ on := 4, ground := Ground.data }, { on := 8, ground := Ground.data }], guard := Option.none } : Oper)) (N := some 39) #[true, true, true, true, true, true, true, true, true, true, false, false, false, false, false] rfl rfl (by kernel_rfl) (by decide) ?_
  intro KK hKK
  refine goes_ Try.func90 (by kernel_rfl) rfl #[.slice Ag h.grp.length cg, .int .i64 h.need] (wanted_none rfl) rfl rfl (by simp [Act.eval]) ?_
  refine (TB.new_any Ag h.grp.length cg h.grp h.need _ ((hNg.grew kX).grew hS0) rfl (by have := hM.ok.grp; omega)).mono ?_
  rintro e w2 ⟨vg, rfl, hT, hk2⟩
  have hB2 := hB1.grew (hS0.trans hk2)
  have kW2 := kX.trans (hS0.trans hk2)
  have hsz := (kX.trans hS0).size
  obtain ⟨tg, htg⟩ : ∃ tg, tg = W.drew.heap.size + 1 := ⟨_, rfl⟩
  obtain ⟨bm, hbm⟩ : ∃ bm, bm = W.drew.heap.size := ⟨_, rfl⟩
  rw [← htg, ← hbm] at hT
  rw [← htg]
  refine ⟨_, rfl, hKK.out _ _ (hS0.trans hk2) (fun hS1 => ?_)⟩
  try simp only [Act.put, List.setIfInBounds_toArray, List.set_cons_zero, List.set_cons_succ]
  refine pure_ (i := 10) (N := some 40) (v := .agg #[.pointer (some ⟨tg, 0, Option.none⟩)]) #[true, true, true, true, true, true, true, true, true, true, true, false, false, false, false] rfl rfl (by kernel_rfl) (fun _ _ _ h => h) (Or.inl ⟨wanted_none rfl, fun w => by go_simp⟩) rfl ?_
  try simp only [Act.put, List.setIfInBounds_toArray, List.set_cons_zero, List.set_cons_succ]
  refine pure_ (i := 11) (N := some 41) (v := .iface 162 (.agg #[.pointer (some ⟨tg, 0, Option.none⟩)])) #[true, true, true, true, true, true, true, true, true, true, true, true, false, false, false] rfl rfl (by kernel_rfl) (fun _ _ _ h => h) (Or.inl ⟨wanted_none rfl, fun w => by go_simp⟩) rfl ?_
  try simp only [Act.put, List.setIfInBounds_toArray, List.set_cons_zero, List.set_cons_succ]
  refine pure_ (i := 12) (N := some 42) (v := .pointer (some ⟨g, 0, Option.none⟩)) #[true, true, true, true, true, true, true, true, true, true, true, true, true, false, false] rfl rfl (by kernel_rfl) (fun _ _ _ h => h) (Or.inl ⟨wanted_none rfl, fun w => by go_simp⟩) rfl ?_
  try simp only [Act.put, List.setIfInBounds_toArray, List.set_cons_zero, List.set_cons_succ]
  refine pure_ (i := 13) (N := some 43) (v := .pointer (some ⟨g, 12, Option.none⟩)) #[true, true, true, true, true, true, true, true, true, true, true, true, true, true, false] rfl rfl (by kernel_rfl) (fun _ _ _ h => h) (Or.inl ⟨wanted_none rfl, fun w => by go_simp⟩) rfl ?_
  try simp only [Act.put, List.setIfInBounds_toArray, List.set_cons_zero, List.set_cons_succ]
  have g12 := hB2.cell 12 _ rfl
  have f12 := hB2.free 12
  refine last_ (i := 14) (oi := ({ dst := Option.none, op := Op.store 107 (Operand.tmp 43) (Operand.tmp 41), type := 0, pos := "register.go:105", after := #[{ on := 13, ground := Ground.data }, { on := 11, ground := Ground.data }, { on := 9, ground := Ground.chain }, { on := 0, ground := Ground.phase }, { on := 1, ground := Ground.phase }, { on := 2, ground := Ground.phase }, { on := 3, ground := Ground.phase }, { on := 4, ground := Ground.phase }, { on := 5, ground := Ground.phase }, { on := 6, ground := Ground.phase }, { on := 7, ground := Ground.phase }, { on := 8, ground := Ground.phase }, { on := 9, ground := Ground.phase }, { on := 10, ground := Ground.phase }, { on := 11, ground := Ground.phase }], guard := Option.none } : Oper)) (N := Option.none) #[true, true, true, true, true, true, true, true, true, true, true, true, true, true, true] rfl rfl (by kernel_rfl) (by decide) ?_
  intro KK hKK
  refine skip_ (wanted_none rfl) rfl (w1 := w2.setCell ⟨g, 12, Option.none⟩ (.iface 162 (.agg #[.pointer (some ⟨tg, 0, Option.none⟩)]))) (by go_simp) (hKK.out _ _ ?_)
  try simp only [Act.put, List.setIfInBounds_toArray, List.set_cons_zero, List.set_cons_succ]
  refine done_ (by kernel_rfl) ?_
  have hB3 := hB2.set 12 (.iface 162 (.agg #[.pointer (some ⟨tg, 0, Option.none⟩)]))
  simp only [mcells, List.set] at hB3
  have hgl := hM.lt
  have hg := hM.g
  have hne : ∀ b, w.heap.size ≤ b → b ≠ g := fun b hb e => by omega
  have ks : Keeps (One g) w2 (w2.setCell ⟨g, 12, Option.none⟩ (.iface 162 (.agg #[.pointer (some ⟨tg, 0, Option.none⟩)]))) := (Keeps.refl _ _).setCell _ _ (fun _ => rfl)
  have hvl := fun b (e : vg.ownBlock = some b) => hT.row.lt b e
  have hT3 := hT.keeps ks (hne tg (by omega)) (hne bm (by omega)) (fun b e => hne b (by have := (hvl b e).1; omega))
  obtain ⟨w3, hw3⟩ : ∃ w3, w3 = w2.setCell ⟨g, 12, Option.none⟩ (.iface 162 (.agg #[.pointer (some ⟨tg, 0, Option.none⟩)])) := ⟨_, rfl⟩
  rw [← hw3] at hB3 ks hT3 ⊢
  clear hw3
  have m12 := hB3.cell 12 _ rfl
  have m8 := hB3.cell 8 _ rfl
  clear c2 c12 d2 d3 d5 g12 f12 hB2 hB1
  have HT3 := Lib.hid hT3
  have HBM := Lib.hid hbm
  have HTG := Lib.hid htg
  clear hT3 hT hbm htg
  go_wp2_with fail
  go_still_tail 11, (by kernel_rfl)
  change wpList _ _ _ _ _ w3.drew
  have kd : Keeps None w3 w3.drew := (Keeps.refl None w3).drew
  have hB4 := hB3.grew kd
  have hT4 := Lib.hid (HT3.out.grew kd)
  obtain ⟨wq, hwq⟩ : ∃ wq, wq = w3.drew := ⟨_, rfl⟩
  rw [← hwq] at kd hB4 hT4 ⊢
  clear hwq m12 m8
  have kwq := ((kW2.of_none (S := One g)).trans ks).trans (kd.of_none (S := One g))
  have hNq : Nums .i64 wq Ag h.grp := ((hR.keeps kwq (fun b e f => by simp only [One] at f; subst f; exact hg.1 (hv _ e))).open_).elim (fun A1 q => by obtain ⟨c1, e1, -, q2, -⟩ := q; cases e1; exact q2)
  go_wp2_with fail
  refine (ask1_any tg g h.client h.op round h.need h.k0 h.k1 h.k2 h.k3 (.slice Ag h.grp.length cg) h.wr bl h.size (.iface 162 (.agg #[.pointer (some ⟨tg, 0, Option.none⟩)])) Ag cg h.grp wq hB4 hNq hM.ok.grp).mono ?_
  rintro e w5 ⟨u, ms, rfl, hMR, hk5⟩
  go_wp2_with fail
  go_ret
  have hbm := HBM.out
  have htg := HTG.out
  have hT5 := (hT4.out.grew hk5).down (base' := base) (by omega)
  have k5 := kwq.trans hk5.of_none
  have hvX : ∀ b, X b → b ≠ g := fun b hb e => hg.1 (e ▸ hb)
  have lt5 := hT4.out.lt
  have hk2s := hk2.size
  have hss := ks.size
  have hds := kd.size
  have hwl := kwq.size
  rw [hM.ok.nd] at hT5
  have vlt := fun b (e : vg.ownBlock = some b) => hT4.out.row.lt b e
  refine ⟨fun b => X b ∨ (w.heap.size ≤ b ∧ b < wq.heap.size), wq.heap.size, u, rfl, ⟨⟨_, _, _, hB4.grew hk5, (hR.keeps k5 (fun b e f => hvX _ (hv b e) f)), hv.mono (fun _ => .inl), (hbl.keeps k5 (fun b e f => hvX _ (hx b e) f)), hx.mono (fun _ => .inl), ⟨tg, vg, bm, [], rfl, rfl, hT5, (fun r hr => by cases hr), .inr (by omega), .inr (by omega), (fun b e => .inr (by have := vlt b e; omega)), h1, h2, by unfold Hd.need; show ((0 : Nat) : Int) ≤ _; omega⟩⟩, ⟨?_, hg.2⟩, ?_, hM.ok⟩, ⟨ms, hMR⟩, fun _ => .inl, ?_, ?_, by omega, ?_⟩
  · rintro (h | h)
    · exact hg.1 h
    · omega
  · have := hk5.size
    rintro b (h | h)
    · have := hM.X b h; omega
    · omega
  · rintro b (h | h)
    · exact .inl h
    · exact .inr h.1
  · rintro b (h | h)
    · have := hM.X b h; omega
    · exact h.2
  · exact k5.mono (fun k _ e => .inr e)
end Go.Proofs.Ytcihfjfbcfgidaa
