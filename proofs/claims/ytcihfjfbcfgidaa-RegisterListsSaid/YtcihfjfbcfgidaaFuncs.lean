/- ContainsFunc with the machine's closure; read of nothing written; Done at the end. -/
import Derived.Test.YtcihfjfbcfgidaaStampC
import Derived.Test.YtcihfjfbcfgidaaStampEq
import Derived.Test.YtcihfjfbcfgidaaRead
import Derived.Laws.Tables
import Derived.Laws.Rows
namespace Go.Proofs.Ytcihfjfbcfgidaa
open Go.RowKit Go.Maps

set_option maxRecDepth 100000 in
set_option maxHeartbeats 1600000 in
theorem unlike_clo (a b t1 t2 : Int) (k : Nat) (w : World) (hB : Blk w k 23 [.int .i64 t1, .int .i64 t2]) :
    Calls Try.prog 104 #[.agg #[.int .i64 a, .int .i64 b], .pointer (some ⟨k, 0, Option.none⟩)] w fun e w' => e = .returned (.bool (!decide (a = t1 ∧ b = t2))) ∧ Keeps None w w' := by
  have kX := (Keeps.refl None w).alloc (.cells #[.int .i64 a, .int .i64 b] 23)
  have hB1 := hB.grew kX
  have y0 := hB1.cell 0 _ rfl
  have y1 := hB1.cell 1 _ rfl
  obtain ⟨T, hT⟩ : ∃ T, T = !decide (a = t1 ∧ b = t2) := ⟨_, rfl⟩
  have hcmp : ∀ w, (binOp .neq 23 (.agg #[.int .i64 a, .int .i64 b]) (.agg #[.int .i64 t1, .int .i64 t2])).run Try.prog w = .ok (.bool T) w := fun w => by rw [hT]; exact neq_stamp a b t1 t2 w
  rw [← hT]
  clear hT
  go_enter Try.func104, Try.ntmps104
  go_wp2_with fail
  go_ret
  exact ⟨rfl, kX⟩

/-- Is one of them another? -/
def anyUnlike (l : List (Int × Int)) (t : Int × Int) : Bool := l.any fun x => !decide (x.1 = t.1 ∧ x.2 = t.2)
theorem anyUnlike_snoc (l : List (Int × Int)) (x t : Int × Int) : anyUnlike (l ++ [x]) t = (anyUnlike l t || !decide (x.1 = t.1 ∧ x.2 = t.2)) := by simp [anyUnlike, List.any_append]

set_option maxRecDepth 100000 in
set_option maxHeartbeats 1600000 in
theorem indexfunc_any (A : Option Addr) (n cap : Nat) (l : List (Int × Int)) (t1 t2 : Int) (k : Nat) (w : World) (hA : St w A l) (hB : Blk w k 23 [.int .i64 t1, .int .i64 t2]) (hn : l.length = n) (hr : n ≤ 140737488351232) :
    Calls Try.prog 109 #[.slice A n cap, .func (.func 104) #[] #[.pointer (some ⟨k, 0, Option.none⟩)]] w fun e w' => ∃ i : Int, e = .returned (.int .i64 i) ∧ Hid (decide (i ≥ 0) = anyUnlike l (t1, t2)) ∧ Keeps None w w' := by
  subst hn
  go_enter Try.func109, Try.ntmps109
  go_wp2
  go_loopw [8] (fun i wr => ∃ j : Nat, j ≤ l.length ∧ i = .int .i64 j ∧ Hid (anyUnlike (l.take j) (t1, t2) = false) ∧ Keeps None w wr) (fun i _ => l.length - (intOf i).toNat)
  case atStart => exact ⟨0, Nat.zero_le _, rfl, Lib.hid rfl, Keeps.refl _ _⟩
  case round =>
    obtain ⟨j, hj, rfl, hN, hK⟩ := hrel
    by_cases hlt : j < l.length
    · obtain ⟨x, hx⟩ : ∃ x, l[j]? = some x := ⟨_, List.getElem?_eq_getElem hlt⟩
      obtain ⟨b, o, rfl, c0, c1⟩ := (hA.grew hK) j _ hx
      obtain ⟨x1, x2⟩ := x
      simp only at c0 c1
      have HT := Lib.hid (take_succ_of hx)
      have HX := Lib.hid hx
      clear hx
      go_wp2_with fail
      refine (unlike_clo x1 x2 t1 t2 k wr (hB.grew hK)).mono ?_
      rintro e w2 ⟨rfl, hk2⟩
      by_cases hm : x1 = t1 ∧ x2 = t2
      · rw [show (!decide (x1 = t1 ∧ x2 = t2)) = false from by simp [hm]]
        have HM := Lib.hid hm
        clear hm
        go_wp2_with fail
        go_roundw
        case rel => exact ⟨j + 1, by omega, by go_num, Lib.hid (by rw [HT.out, anyUnlike_snoc, hN.out]; simp [HM.out]), hK.trans hk2⟩
        case measure => simp [intOf]; omega
      · rw [show (!decide (x1 = t1 ∧ x2 = t2)) = true from by simp [hm]]
        have HM := Lib.hid hm
        clear hm
        go_wp2_with fail
        go_ret
        refine ⟨j, rfl, Lib.hid ?_, hK.trans hk2⟩
        rw [show decide ((j : Int) ≥ 0) = true from by simp]
        symm
        unfold anyUnlike
        rw [List.any_eq_true]
        exact ⟨(x1, x2), List.mem_of_getElem? HX.out, by have := HM.out; simp [this]⟩
    · obtain rfl : j = l.length := by omega
      go_wp2_with fail
      go_ret
      refine ⟨-1, rfl, Lib.hid ?_, hK⟩
      have := hN.out
      rw [List.take_of_length_le (Nat.le_refl _)] at this
      rw [this]
      rfl

set_option maxRecDepth 100000 in
set_option maxHeartbeats 1600000 in
theorem containsfunc_any (A : Option Addr) (n cap : Nat) (l : List (Int × Int)) (t1 t2 : Int) (k : Nat) (w : World) (hA : St w A l) (hB : Blk w k 23 [.int .i64 t1, .int .i64 t2]) (hn : l.length = n) (hr : n ≤ 140737488351232) :
    Calls Try.prog 103 #[.slice A n cap, .func (.func 104) #[] #[.pointer (some ⟨k, 0, Option.none⟩)]] w fun e w' => e = .returned (.bool (anyUnlike l (t1, t2))) ∧ Keeps None w w' := by
  go_enter Try.func103, Try.ntmps103
  go_wp2_with fail
  refine (indexfunc_any A n cap l t1 t2 k w hA hB hn hr).mono ?_
  rintro e w2 ⟨i, rfl, hi, hk2⟩
  go_wp2_with fail
  go_ret
  exact ⟨ret_bool hi.out, hk2⟩

set_option maxRecDepth 100000 in
set_option maxHeartbeats 1600000 in
theorem read_zero (g : Nat) (client op round need k0 k1 k2 k3 : Int) (v : Value) (wr : Bool) (bl : Value) (n : Nat) (st : Value) (tp : Value) (w : World)
    (hB : Blk w g 109 (mcells client op round need k0 k1 k2 k3 v wr bl (n : Int) st)) (hn : n ≤ 4096) :
    Calls Try.prog 102 #[.pointer (some ⟨g, 0, Option.none⟩), tp, .agg #[.int .i64 0, .int .i64 0]] w fun e w' => ∃ u, e = .returned u ∧ Row .u8 5 w' w.heap.size u (List.replicate n 0) ∧ Keeps None w w' := by
  obtain ⟨i0, hi, hz0, hz1, hz2⟩ := info_parts Try.infoU8
  have k0' := ((Keeps.refl None w).alloc (.cells #[.int .i64 0, .int .i64 0] 23)).alloc (.cells #[.slice Option.none 0 0] 24)
  have hb1 : Blk ((w.alloc (.cells #[.int .i64 0, .int .i64 0] 23)).alloc (.cells #[.slice Option.none 0 0] 24)) (w.heap.size + 1) 24 [.slice Option.none 0 0] := by
    have := Blk.new (w.alloc (.cells #[.int .i64 0, .int .i64 0] 23)) 24 [.slice Option.none 0 0]
    rwa [World.size_alloc] at this
  have hB1 := hB.grew k0'
  have m11 := hB1.cell 11 _ rfl
  have hsz : ((w.alloc (.cells #[.int .i64 0, .int .i64 0] 23)).alloc (.cells #[.slice Option.none 0 0] 24)).heap.size = w.heap.size + 2 := by simp only [World.size_alloc]
  go_enter Try.func102, Try.ntmps102
  go_wp2_with (at_make; refine wpList_make_full _ rfl _ _ 24 rfl (w.heap.size + 2) 5 i0 (.int .u8 0) 1 Try.underlying24 hi hz0 hz1 _ _ _ _ n rfl rfl (by omega) (by omega) (by rw [hz2]; omega) (by unfold maxLen; omega) (by rw [hsz]; omega) ?_; intro w1 hown hgrow; have hb2 := hb1.grew ((Keeps.refl None _).grown hgrow (fun k e => by cases e)); have hkw1 : Keeps None w w1 := k0'.grown hgrow (fun k e => by cases e); have z0 := hb2.cell 0 _ rfl; have f0 := hb2.free 0; rw [hsz] at hown; clear hgrow)
  have ks : Keeps (One (w.heap.size + 1)) w1 (w1.setCell ⟨w.heap.size + 1, 0, Option.none⟩ (.slice (some ⟨w.heap.size + 2, 0, Option.none⟩) n n)) := (Keeps.refl _ _).setCell _ _ (fun _ => rfl)
  have hr := hb2.set 0 (.slice (some ⟨w.heap.size + 2, 0, Option.none⟩) n n)
  rw [Nat.mul_one, show (Value.int IntKind.u8 0).cells = #[Value.int IntKind.u8 0] from rfl, zeros_u8] at hown
  have hR : Row .u8 5 w1 (w.heap.size + 2) (.slice (some ⟨w.heap.size + 2, 0, Option.none⟩) n n) (List.replicate n 0) := by
    unfold Row
    rw [List.length_replicate, List.map_replicate]
    exact hown
  refine bodyPost_ret (results_read _ _ (w.heap.size + 1) _ rfl (hr.cell 0 _ rfl)) rfl ⟨_, rfl, (hR.keeps ks (fun b e f => ?_)).down (by omega), hkw1.andThen ks (fun i hi e => by simp only [One] at e; omega)⟩
  have := (hR.lt b e).1
  simp only [One] at f
  omega

set_option maxRecDepth 100000 in
theorem results_de (tmps : Array Value) (w : World) (k : Nat) (b : Bool) (err t1 t2 : Int) (dv : Value) (hp : tmps.getD 2 undef = .pointer (some ⟨k, 0, Option.none⟩)) (hb : tmps.getD 3 undef = .bool b) (hc : Blk w k 46 (resCells err (t1, t2) dv)) :
    (results Try.f85 tmps).run Try.prog w = .ok (.tuple #[.agg (resCells err (t1, t2) dv).toArray, .bool b]) w := by
  have hp' : tmps[2]?.getD undef = .pointer (some ⟨k, 0, Option.none⟩) := by simpa using hp
  have hb' : tmps[3]?.getD undef = .bool b := by simpa using hb
  have c0 := hc.cell 0 _ rfl
  have c1 := hc.cell 1 _ rfl
  have c2 := hc.cell 2 _ rfl
  have c3 := hc.cell 3 _ rfl
  have c4 := hc.cell 4 _ rfl
  have c5 := hc.cell 5 _ rfl
  have c6 := hc.cell 6 _ rfl
  have c7 := hc.cell 7 _ rfl
  have c8 := hc.cell 8 _ rfl
  have c9 := hc.cell 9 _ rfl
  have c10 := hc.cell 10 _ rfl
  simp [results, Try.results85, go_sem, hp', hb', c0, c1, c2, c3, c4, c5, c6, c7, c8, c9, c10, asAddr, resCells]

theorem sizeRes {cs : Array Value} (h : cs.size = 11) : (Try.prog.info? 46).map (·.size) = some cs.size := by rw [h]; kernel_rfl

set_option maxRecDepth 100000 in
set_option maxHeartbeats 1600000 in
theorem done_ended (g : Nat) (client op round need k0 k1 k2 k3 : Int) (v : Value) (wr : Bool) (bl : Value) (size : Int) (err t1 t2 : Int) (A : Option Addr) (cap : Nat) (zs : List Int) (w : World)
    (hB : Blk w g 109 (mcells client op round need k0 k1 k2 k3 v wr bl size (endV err (t1, t2) (.slice A zs.length cap)))) (hA : Nums .u8 w A zs) (hz : zs.length ≤ 140737488351232) :
    Calls Try.prog 85 #[.pointer (some ⟨g, 0, Option.none⟩)] w fun e w' => ∃ u, e = .returned (.tuple #[.agg (resCells err (t1, t2) u).toArray, .bool true]) ∧ Row .u8 5 w' w.heap.size u zs ∧ Keeps None w w' := by
  have hZ := Blk.new w 46 [.int .i64 0, .string ⟨#[]⟩, .int .i64 0, .int .i64 0, .int .i64 0, .slice Option.none 0 0, .slice Option.none 0 0, .int .i64 0, .int .i64 0, .int .i64 0, .int .i64 0]
  have hB1 := hB.alloc (.cells #[.int .i64 0, .string ⟨#[]⟩, .int .i64 0, .int .i64 0, .int .i64 0, .slice Option.none 0 0, .slice Option.none 0 0, .int .i64 0, .int .i64 0, .int .i64 0, .int .i64 0] 46)
  have c12 := hB1.cell 12 _ rfl
  simp only [endV, resCells] at c12 ⊢
  have hta : ∀ w, (Instr.typeAssert (.iface 165 (.agg #[.int .i64 err, .string ⟨#[]⟩, .int .i64 0, .int .i64 0, .int .i64 0, .slice Option.none 0 0, .slice A zs.length cap, .int .i64 0, .int .i64 t1, .int .i64 t2, .int .i64 0])) 107 165 true).run Try.prog w = .ok (.tuple #[.agg #[.int .i64 err, .string ⟨#[]⟩, .int .i64 0, .int .i64 0, .int .i64 0, .slice Option.none 0 0, .slice A zs.length cap, .int .i64 0, .int .i64 t1, .int .i64 t2, .int .i64 0], .bool true]) w := fun w => by kernel_rfl
  go_enter Try.func85, Try.ntmps85
  go_wp2_with fail
  obtain ⟨W, hW⟩ : ∃ W, W = (((w.alloc (.cells #[.int .i64 0, .string ⟨#[]⟩, .int .i64 0, .int .i64 0, .int .i64 0, .slice Option.none 0 0, .slice Option.none 0 0, .int .i64 0, .int .i64 0, .int .i64 0, .int .i64 0] 46)).alloc (.cells #[.int .i64 err, .string ⟨#[]⟩, .int .i64 0, .int .i64 0, .int .i64 0, .slice Option.none 0 0, .slice A zs.length cap, .int .i64 0, .int .i64 t1, .int .i64 t2, .int .i64 0] 165)).alloc (.cells #[.int .i64 err, .string ⟨#[]⟩, .int .i64 0, .int .i64 0, .int .i64 0, .slice Option.none 0 0, .slice A zs.length cap, .int .i64 0, .int .i64 t1, .int .i64 t2, .int .i64 0] 46)) := ⟨_, rfl⟩
  rw [← hW]
  have kW : Keeps None w W := by rw [hW]; exact (((Keeps.refl None w).alloc _).alloc _).alloc _
  have hWs : W.heap.size = w.heap.size + 3 := by rw [hW]; simp only [World.size_alloc]
  have hR : Blk W (w.heap.size + 1 + 1) 46 [.int .i64 err, .string ⟨#[]⟩, .int .i64 0, .int .i64 0, .int .i64 0, .slice Option.none 0 0, .slice A zs.length cap, .int .i64 0, .int .i64 t1, .int .i64 t2, .int .i64 0] := by
    have := Blk.new ((w.alloc (.cells #[.int .i64 0, .string ⟨#[]⟩, .int .i64 0, .int .i64 0, .int .i64 0, .slice Option.none 0 0, .slice Option.none 0 0, .int .i64 0, .int .i64 0, .int .i64 0, .int .i64 0] 46)).alloc (.cells #[.int .i64 err, .string ⟨#[]⟩, .int .i64 0, .int .i64 0, .int .i64 0, .slice Option.none 0 0, .slice A zs.length cap, .int .i64 0, .int .i64 t1, .int .i64 t2, .int .i64 0] 165)) 46 [.int .i64 err, .string ⟨#[]⟩, .int .i64 0, .int .i64 0, .int .i64 0, .slice Option.none 0 0, .slice A zs.length cap, .int .i64 0, .int .i64 t1, .int .i64 t2, .int .i64 0]
    rw [← hW] at this
    simpa only [World.size_alloc] using this
  have hZW : Blk W w.heap.size 46 [.int .i64 0, .string ⟨#[]⟩, .int .i64 0, .int .i64 0, .int .i64 0, .slice Option.none 0 0, .slice Option.none 0 0, .int .i64 0, .int .i64 0, .int .i64 0, .int .i64 0] := by
    rw [hW]; exact (hZ.alloc _).alloc _
  clear hW hta c12 hB1 hZ
  refine (clone_any A zs.length cap zs W (hA.grew kW) rfl hz).mono ?_
  rintro e w2 ⟨u, rfl, hU, hk2⟩
  have hR2 := hR.grew hk2
  have hZ2 := hZW.grew hk2
  obtain ⟨Au, cu, rfl⟩ := hU.slice
  have r6 := hR2.cell 6 _ rfl
  have rf := hR2.free 6
  have hUl := fun b (e : (Value.slice Au zs.length cu).ownBlock = some b) => (hU.lt b e).1
  have HUL := Lib.hid hUl
  clear hUl
  have ks : Keeps (One (w.heap.size + 1 + 1)) w2 (w2.setCell ⟨w.heap.size + 1 + 1, 6, Option.none⟩ (.slice Au zs.length cu)) := (Keeps.refl _ _).setCell _ _ (fun _ => rfl)
  have hR3 := hR2.set 6 (.slice Au zs.length cu)
  simp only [List.set] at hR3
  have hZ3 := hZ2.keeps ks (fun e => by simp only [One] at e; omega)
  have hU3 := hU.keeps ks (fun b e f => by simp only [One] at f; have := HUL.out b e; omega)
  have hK3 := (kW.trans hk2).andThen ks (fun i hi e => by simp only [One] at e; omega)
  have hq1 : (Try.prog.info? 46).map (·.size) = some (#[.int .i64 err, .string ⟨#[]⟩, .int .i64 0, .int .i64 0, .int .i64 0, .slice Option.none 0 0, .slice Au zs.length cu, .int .i64 0, .int .i64 t1, .int .i64 t2, .int .i64 0] : Array Value).size := sizeRes rfl
  have hq2 : ([.int .i64 0, .string ⟨#[]⟩, .int .i64 0, .int .i64 0, .int .i64 0, .slice Option.none 0 0, .slice Option.none 0 0, .int .i64 0, .int .i64 0, .int .i64 0, .int .i64 0] : List Value).toArray.size = (#[.int .i64 err, .string ⟨#[]⟩, .int .i64 0, .int .i64 0, .int .i64 0, .slice Option.none 0 0, .slice Au zs.length cu, .int .i64 0, .int .i64 t1, .int .i64 t2, .int .i64 0] : Array Value).size := rfl
  have hq3 : (#[.int .i64 err, .string ⟨#[]⟩, .int .i64 0, .int .i64 0, .int .i64 0, .slice Option.none 0 0, .slice Au zs.length cu, .int .i64 0, .int .i64 t1, .int .i64 t2, .int .i64 0] : Array Value).all (·.oneCell') = true := by simp [Value.oneCell']
  have hq4 : (Try.prog.info? 46).map (·.size) = some ([.int .i64 err, .string ⟨#[]⟩, .int .i64 0, .int .i64 0, .int .i64 0, .slice Option.none 0 0, .slice Au zs.length cu, .int .i64 0, .int .i64 t1, .int .i64 t2, .int .i64 0] : List Value).toArray.size := sizeRes rfl
  go_wp2_with (first
    | (with_reducible refine wpList_load_row rfl _ (.tmp 6) rfl (w.heap.size + 1 + 1) rfl _ _ _ _ hR3.raw Try.underlying46 rfl hq4 ?_)
    | (with_reducible refine wpList_store_row rfl _ (.tmp 2) (.tmp 24) rfl w.heap.size #[.int .i64 err, .string ⟨#[]⟩, .int .i64 0, .int .i64 0, .int .i64 0, .slice Option.none 0 0, .slice Au zs.length cu, .int .i64 0, .int .i64 t1, .int .i64 t2, .int .i64 0] rfl rfl _ _ hZ3.raw hq1 hq2 hq3 ?_))
  have ks2 : Keeps (One w.heap.size) (w2.setCell ⟨w.heap.size + 1 + 1, 6, Option.none⟩ (.slice Au zs.length cu)) ((w2.setCell ⟨w.heap.size + 1 + 1, 6, Option.none⟩ (.slice Au zs.length cu)).setRow w.heap.size #[.int .i64 err, .string ⟨#[]⟩, .int .i64 0, .int .i64 0, .int .i64 0, .slice Option.none 0 0, .slice Au zs.length cu, .int .i64 0, .int .i64 t1, .int .i64 t2, .int .i64 0]) := (Keeps.refl _ _).setRow _ _ (fun _ => rfl)
  refine bodyPost_ret (results_de _ _ w.heap.size true err t1 t2 (.slice Au zs.length cu) rfl rfl (hZ3.setRow _)) rfl ⟨_, rfl, (hU3.keeps ks2 (fun b e f => ?_)).down (by omega), hK3.andThen ks2 (fun i hi e => by simp only [One] at e; omega)⟩
  have := (hU3.lt b e).1
  simp only [One] at f
  omega
end Go.Proofs.Ytcihfjfbcfgidaa
