/- The document's machine: need, fresh, end, told. -/
import Derived.Test.YtcihfjfbcfgidaaRefM2
import Derived.Test.YtcihfjfbcfgidaaToldPlain
namespace Go.Proofs.Ytcihfjfbcfgidaa
open Go.RowKit Go.Maps Go.Proofs.YtcihfjfbcfgidaaW.PrintLast
set_option linter.unusedVariables false

set_option maxRecDepth 100000 in
set_option maxHeartbeats 1600000 in
theorem refneed_any (r : Nat) (h : Hd) (rsz round : Int) (gv bv : Value) (p : Int) (av vv : Value) (t1 t2 err : Int) (w : World) (hB : Blk w r 86 (rcells h rsz gv round bv p av vv t1 t2 err)) (base : Nat) (hG : Row .i64 3 w base gv h.grp) (hl : h.grp.length ≤ 1000) :
    Calls Try.prog 50 #[.pointer (some ⟨r, 0, Option.none⟩)] w fun e w' => e = .returned (.int .i64 h.need) ∧ w' = w := by
  obtain ⟨Ag, cg, rfl⟩ := hG.slice
  have m7 := hB.cell 7 _ rfl
  go_enter Try.func50, Try.ntmps50
  go_wp2_with fail
  go_ret
  exact ⟨ret_int (by unfold Hd.need; omega), rfl⟩

def msgZs : Array Value := #[.int .i64 0, .bool false, .int .i64 0, .bool false, .int .i64 0, .int .i64 0, .int .i64 0, .int .i64 0, .int .i64 0, .int .i64 0, .int .i64 0, .int .i64 0, .int .i64 0, .int .i64 0, .int .i64 0, .slice none 0 0, .int .i64 0, .int .i64 0, .int .i64 0, .string ⟨#[]⟩, .int .i64 0, .int .i64 0, .int .i64 0, .int .i64 0, .int .i64 0, .int .i64 0, .slice none 0 0, .slice none 0 0, .slice none 0 0, .bool false]
theorem Try.infoBool : (Try.prog.info? 4).map (fun i => (i.zero, i.size, i.bytes)) = some (some (.bool false), 1, 1) := by kernel_rfl
theorem there_new (w : World) (t : TypeId) (cs : Array Value) : (w.alloc (.cells cs t)).there w.heap.size 0 cs.size := fun j hj => by
  have hb : (w.alloc (.cells cs t)).heap[w.heap.size]? = some (.cells cs t (0, 0)) := heap_alloc_new w _
  refine ⟨?_, frozen_of_row _ _ _ cs t hb⟩
  rw [cell_of_row _ _ _ cs t (0, 0) hb, Nat.zero_add]
  simp [hj]
theorem zeros_bool (n : Nat) : (madeCells #[Value.bool false] n).toList = List.replicate n (Value.bool false) := by
  apply List.ext_getElem
  · simp [madeCells]
  · intro i h1 h2
    simp [madeCells, Nat.mod_one]

/-- A round without answers. -/
def FreshEnd (r : Nat) (h : Hd) (rsz round : Int) (gv bv : Value) (p t1 t2 err : Int) (w : World) (e : Ending) (w' : World) : Prop :=
  e = .returned (.tuple #[]) ∧ Blk w' r 86 (rcells h rsz gv round bv p (.slice (some ⟨w.heap.size, 0, Option.none⟩) h.grp.length h.grp.length) (.slice (some ⟨w.heap.size + 1, 0, Option.none⟩) h.grp.length h.grp.length) t1 t2 err) ∧
    Blk w' w.heap.size 4 (List.replicate h.grp.length (.bool false)) ∧ w'.there (w.heap.size + 1) 0 (h.grp.length * 30) ∧ w.heap.size + 1 < w'.heap.size ∧ Keeps (One r) w w'
set_option maxRecDepth 100000 in
set_option maxHeartbeats 1600000 in
theorem reffresh_any (r : Nat) (h : Hd) (rsz round : Int) (gv bv : Value) (p : Int) (av vv : Value) (t1 t2 err : Int) (w : World) (hB : Blk w r 86 (rcells h rsz gv round bv p av vv t1 t2 err)) (base : Nat) (hG : Row .i64 3 w base gv h.grp) (hl : h.grp.length ≤ 1000) :
    Calls Try.prog 46 #[.pointer (some ⟨r, 0, Option.none⟩)] w (FreshEnd r h rsz round gv bv p t1 t2 err w) := by
  obtain ⟨Ag, cg, rfl⟩ := hG.slice
  have hrl := hB.lt
  obtain ⟨C0, hC0⟩ : ∃ C, C = madeCells #[Value.bool false] h.grp.length := ⟨_, rfl⟩
  obtain ⟨C1, hC1⟩ : ∃ C, C = madeCells msgZ (h.grp.length * 30) := ⟨_, rfl⟩
  have hm0 : ∀ w : World, (Instr.makeSlice 84 (.int .i64 (h.grp.length : Int)) (.int .i64 (h.grp.length : Int))).run Try.prog w = .ok (.slice (some ⟨w.heap.size, 0, Option.none⟩) h.grp.length h.grp.length) (w.alloc (.cells C0 4)) := fun w => by
    rw [hC0]
    exact run_make_row' 84 4 (.bool false) 1 Try.underlying84 Try.infoBool rfl .i64 .i64 h.grp.length (by omega) (by omega) w
  have hm1 : ∀ w : World, (Instr.makeSlice 55 (.int .i64 (h.grp.length : Int)) (.int .i64 (h.grp.length : Int))).run Try.prog w = .ok (.slice (some ⟨w.heap.size, 0, Option.none⟩) h.grp.length h.grp.length) (w.alloc (.cells C1 66)) := fun w => by
    obtain ⟨iM, hiM, hzM0, hzM1, hzM2⟩ := info_parts infoMsg
    have hr := run_make (P := Try.prog) w 55 66 iM _ Try.underlying55 hiM hzM0 .i64 .i64 h.grp.length h.grp.length (by omega) (Int.le_refl _) (by rw [hzM2]; omega) (by omega)
    rw [hzM1, Int.toNat_natCast] at hr
    rw [hr, hC1]
    rfl
  have hs1 : C1.size = h.grp.length * 30 := by rw [hC1, size_madeCells]
  have HC0 := Lib.hid hC0
  have HS1 := Lib.hid hs1
  clear hC0 hC1 hs1
  have m7 := hB.cell 7 _ rfl
  have m12 := hB.cell 12 _ rfl
  have m13 := hB.cell 13 _ rfl
  have f12 := hB.free 12
  have f13 := hB.free 13
  go_enter Try.func46, Try.ntmps46
  go_wp2_with fail
  refine bodyPost_end (results_none rfl _ _ _) rfl ?_
  have kS : Keeps (One r) w ((w.setCell ⟨r, 12, Option.none⟩ (.slice (some ⟨w.heap.size, 0, Option.none⟩) h.grp.length h.grp.length)).setCell ⟨r, 13, Option.none⟩ (.slice (some ⟨w.heap.size + 1, 0, Option.none⟩) h.grp.length h.grp.length)) := ((Keeps.refl (One r) w).setCell ⟨r, 12, Option.none⟩ _ (fun _ => rfl)).setCell ⟨r, 13, Option.none⟩ _ (fun _ => rfl)
  have hB2 := (hB.set 12 (.slice (some ⟨w.heap.size, 0, Option.none⟩) h.grp.length h.grp.length)).set 13 (.slice (some ⟨w.heap.size + 1, 0, Option.none⟩) h.grp.length h.grp.length)
  obtain ⟨W2, hW2⟩ : ∃ W, W = ((w.setCell ⟨r, 12, Option.none⟩ (.slice (some ⟨w.heap.size, 0, Option.none⟩) h.grp.length h.grp.length)).setCell ⟨r, 13, Option.none⟩ (.slice (some ⟨w.heap.size + 1, 0, Option.none⟩) h.grp.length h.grp.length)) := ⟨_, rfl⟩
  have hsz : W2.heap.size = w.heap.size := by rw [hW2]; simp
  rw [← hW2] at kS hB2 ⊢
  have ea : ((W2.alloc (.cells C0 4))).heap.size = w.heap.size + 1 := by rw [World.size_alloc, hsz]
  refine ⟨rfl, (hB2.alloc _).alloc _, ?_, ?_, by rw [World.size_alloc, ea]; omega, (kS.alloc _).alloc _⟩
  · have h0 := Blk.new W2 4 C0.toList
    rw [Array.toArray_toList, hsz] at h0
    have := h0.alloc (.cells C1 66)
    rw [HC0.out, zeros_bool] at this
    rw [HC0.out]
    exact this
  · have := there_new (W2.alloc (.cells C0 4)) 66 C1
    rw [ea, HS1.out] at this
    exact this

set_option maxRecDepth 100000 in
set_option maxHeartbeats 1600000 in
theorem refend_any (r : Nat) (h : Hd) (rsz round : Int) (gv bv : Value) (p : Int) (av vv : Value) (t1 t2 err : Int) (x : Int) (w : World) (hB : Blk w r 86 (rcells h rsz gv round bv p av vv t1 t2 err)) :
    Calls Try.prog 45 #[.pointer (some ⟨r, 0, Option.none⟩), .int .i64 x] w fun e w' => e = .returned (.slice Option.none 0 0) ∧ Blk w' r 86 (rcells h rsz gv round bv 3 av vv t1 t2 x) ∧ Keeps (One r) w w' := by
  have m11 := hB.cell 11 _ rfl
  have m16 := hB.cell 16 _ rfl
  have f11 := hB.free 11
  have f16 := hB.free 16
  go_enter Try.func45, Try.ntmps45
  go_wp2_with fail
  go_ret
  exact ⟨rfl, (hB.set 11 (.int .i64 3)).set 16 (.int .i64 x), ((Keeps.refl (One r) w).setCell ⟨r, 11, Option.none⟩ _ (fun _ => rfl)).setCell ⟨r, 16, Option.none⟩ _ (fun _ => rfl)⟩

theorem wpList_load_msg {ops : Array Oper} {rest : List Oper} {o : Oper} {a : Act} {w : World} {Q : Exit → Act → World → Prop} (hgd : o.guard = Option.none) (x : Operand) (ho : o.op = .load 66 x) (g : Nat) (hx : a.eval x = .pointer (some ⟨g, 0, Option.none⟩)) (cs : List Value) (hB : Blk w g 66 cs) (hl : cs.length = 30)
    (h : wpList Try.prog ops Q rest (a.put o.dst (.agg cs.toArray)) w) : wpList Try.prog ops Q (o :: rest) a w := by
  refine wpList_plain hgd fun K hK => ?_
  unfold Oper.wp
  rw [exec_load_msg x ho g hx cs hB hl]
  exact hK _ _ h

/-- A row of messages whose bytes lie wherever: its cells. -/
theorem own_cells {w : World} {base : Nat} {kind client op round k0 k1 k2 k3 s1 s2 : Int} {v : Value} {ms : List (Int × Value)} (hown : w.ownsRow base 66 30 v ms.length (tellsCells kind client op round k0 k1 k2 k3 s1 s2 ms)) :
    ∃ A c, v = .slice A ms.length c ∧ ∀ j m, ms[j]? = some m → ∃ b, A = some ⟨b, 0, Option.none⟩ ∧ base ≤ b ∧ ∀ i y, (tellCells kind client op round k0 k1 k2 k3 s1 s2 m)[i]? = some y → w.cell? ⟨b, j * 30 + i, Option.none⟩ = some y := by
  obtain ⟨A, c, ev⟩ := owns_slice hown
  subst ev
  refine ⟨A, c, rfl, fun j m hm => ?_⟩
  obtain ⟨hj, -⟩ := List.getElem?_eq_some_iff.1 hm
  rcases hown.2 with ⟨e, h0⟩ | ⟨g, cap, cur, e, hb, hg, hn, hc, hs, ht⟩
  · omega
  · cases e
    refine ⟨g, rfl, hb, fun i y hy => ?_⟩
    rw [cell_of_row w g _ cur 66 (0, 0) hg]
    obtain ⟨hi, -⟩ := List.getElem?_eq_some_iff.1 hy
    have hi30 : i < 30 := by simpa [tellCells] using hi
    have e1 : (cur.toList.take (ms.length * 30))[j * 30 + i]? = (tellsCells kind client op round k0 k1 k2 k3 s1 s2 ms)[j * 30 + i]? := by rw [ht]
    have hjm : j * 30 + i < ms.length * 30 := by omega
    rw [List.getElem?_take, if_pos hjm, Array.getElem?_toList] at e1
    rw [e1]
    have e2 : ∀ (ms : List (Int × Value)) (j : Nat) (m : Int × Value), ms[j]? = some m → (tellsCells kind client op round k0 k1 k2 k3 s1 s2 ms)[j * 30 + i]? = (tellCells kind client op round k0 k1 k2 k3 s1 s2 m)[i]? := by
      intro ms
      induction ms with
      | nil => intro j m hm; simp at hm
      | cons m0 ms ih =>
        intro j m hm
        unfold tellsCells at ih ⊢
        rw [List.flatMap_cons]
        have hl0 : (tellCells kind client op round k0 k1 k2 k3 s1 s2 m0).length = 30 := rfl
        cases j with
        | zero =>
          simp at hm
          subst hm
          rw [Nat.zero_mul, Nat.zero_add, List.getElem?_append_left (by omega)]
        | succ j =>
          rw [List.getElem?_append_right (by omega), hl0]
          have e3 : (j + 1) * 30 + i - 30 = j * 30 + i := by omega
          rw [e3]
          exact ih j m (by simpa using hm)
    rw [e2 ms j m hm]
    exact hy

set_option maxRecDepth 100000 in
set_option maxHeartbeats 3200000 in
theorem reftold_any (r : Nat) (h : Hd) (rsz round : Int) (gv bv : Value) (p : Int) (vv : Value) (t1 t2 err : Int) (ab : Nat) (F : Int → Bool) (kind s1 s2 : Int) (D : Option Addr) (dn dc : Nat) (w : World)
    (hB : Blk w r 86 (rcells h rsz gv round bv p (.slice (some ⟨ab, 0, Option.none⟩) h.grp.length h.grp.length) vv t1 t2 err)) (base : Nat) (hG : Row .i64 3 w base gv h.grp) (hl : h.grp.length ≤ 1000)
    (hab : Blk w ab 4 (h.grp.map fun s => .bool (F s)))
    (hk : (p = 1 ∧ kind = 1 ∧ s1 = 0 ∧ s2 = 0 ∧ (Value.slice D dn dc) = .slice Option.none 0 0) ∨ (p = 2 ∧ kind = 2 ∧ s1 = t1 ∧ s2 = t2 ∧ bv = .slice D dn dc)) :
    Calls Try.prog 47 #[.pointer (some ⟨r, 0, Option.none⟩)] w fun e w' => ∃ u, e = .returned u ∧
      w'.ownsRow w.heap.size 66 30 u (h.grp.filter fun s => !F s).length (tellsCells kind h.client h.op round h.k0 h.k1 h.k2 h.k3 s1 s2 ((h.grp.filter fun s => !F s).map fun x => (x, .slice D dn dc))) ∧ Keeps None w w' := by
  obtain ⟨iM, hiM, hzM0, hzM1, hzM2⟩ := info_parts infoMsg
  obtain ⟨Ag, cg, rfl⟩ := hG.slice
  have HK := Lib.hid hk
  clear hk
  go_enter Try.func47, Try.ntmps47
  go_wp2_with fail
  go_loopw [3, 4] (fun al i wr => ∃ (k : Nat) (l : List Int), k ≤ h.grp.length ∧ i = .int .i64 k ∧ Hid (l = (h.grp.take k).filter fun s => !F s) ∧ l.length ≤ k ∧ wr.ownsRow w.heap.size 66 30 al l.length (tellsCells kind h.client h.op round h.k0 h.k1 h.k2 h.k3 s1 s2 (l.map fun x => (x, .slice D dn dc))) ∧ Keeps None w wr) (fun _ i _ => h.grp.length - (intOf i).toNat)
  case atStart => exact ⟨0, [], Nat.zero_le _, rfl, Lib.hid (by simp), Nat.zero_le _, World.ownsRow_nil _ _ _ _, Keeps.refl _ _⟩
  case round =>
    obtain ⟨k, l, hkl, rfl, HL, hll, hO, hK⟩ := hrel
    have hBr := hB.grew hK
    have m7 := hBr.cell 7 _ rfl
    by_cases hlt : k < h.grp.length
    · obtain ⟨x, bg, og, rfl, hc, hs⟩ := ((Nums.row hG).1.grew hK).get k hlt
      have HT := Lib.hid (take_succ_of hs.out)
      have m12 := hBr.cell 12 _ rfl
      have c12 : wr.cell? ⟨ab, k, Option.none⟩ = some (.bool (F x)) := (hab.grew hK).cell k _ (by rw [List.getElem?_map, hs.out]; rfl)
      obtain ⟨b, hb⟩ : ∃ b, b = F x := ⟨_, rfl⟩
      rw [← hb] at c12
      cases b with
      | true =>
        have HL2 : Hid (l = (h.grp.take (k + 1)).filter fun s => !F s) := Lib.hid (by rw [HT.out, List.filter_append, ← HL.out]; simp [← hb])
        clear hb
        go_wp2_with fail
        go_roundw
        case rel => exact ⟨k + 1, l, by omega, by go_num, HL2, by omega, hO, hK⟩
        case measure => simp [intOf]; omega
      | false =>
        have HL2 : Hid (l ++ [x] = (h.grp.take (k + 1)).filter fun s => !F s) := Lib.hid (by rw [HT.out, List.filter_append, ← HL.out]; simp [← hb])
        clear hb
        have m1 := hBr.cell 1 _ rfl
        have m2 := hBr.cell 2 _ rfl
        have m3 := hBr.cell 3 _ rfl
        have m4 := hBr.cell 4 _ rfl
        have m5 := hBr.cell 5 _ rfl
        have m6 := hBr.cell 6 _ rfl
        have m8 := hBr.cell 8 _ rfl
        go_upto_region 6 with (fail)
        refine start_ (ds := []) (S := (fun w' => Keeps None wr w')) #[false, false, false, false, false, false, false, false, false, false, false, false, false, false, false, false, false, false, false, false, false, false, false, false, false, false, false, false] (by kernel_rfl) rfl rfl ((Keeps.refl _ _).drew) (fun hS0 => ?_)
        refine pure_ (i := 0) (N := some 22) (v := .pointer (some ⟨r, 0, Option.none⟩)) #[true, false, false, false, false, false, false, false, false, false, false, false, false, false, false, false, false, false, false, false, false, false, false, false, false, false, false, false] rfl rfl (by kernel_rfl) (fun _ _ _ h => h) (Or.inl ⟨wanted_none rfl, fun w => by rfl⟩) rfl ?_
        try simp only [Act.put, List.setIfInBounds_toArray, List.set_cons_zero, List.set_cons_succ]
        refine pure_ (i := 1) (N := some 23) (v := .pointer (some ⟨r, 0, Option.none⟩)) #[true, true, false, false, false, false, false, false, false, false, false, false, false, false, false, false, false, false, false, false, false, false, false, false, false, false, false, false] rfl rfl (by kernel_rfl) (fun _ _ _ h => h) (Or.inl ⟨wanted_none rfl, fun w => by go_simp⟩) rfl ?_
        try simp only [Act.put, List.setIfInBounds_toArray, List.set_cons_zero, List.set_cons_succ]
        refine pure_ (i := 2) (N := some 24) (v := .pointer (some ⟨r, 1, Option.none⟩)) #[true, true, true, false, false, false, false, false, false, false, false, false, false, false, false, false, false, false, false, false, false, false, false, false, false, false, false, false] rfl rfl (by kernel_rfl) (fun _ _ _ h => h) (Or.inl ⟨wanted_none rfl, fun w => by go_simp⟩) rfl ?_
        try simp only [Act.put, List.setIfInBounds_toArray, List.set_cons_zero, List.set_cons_succ]
        refine take_ (i := 3) (N := some 25) (v := .int .i64 h.client) #[true, true, true, true, false, false, false, false, false, false, false, false, false, false, false, false, false, false, false, false, false, false, false, false, false, false, false, false] rfl rfl (by kernel_rfl) (fun _ _ _ h => h) (Or.inl ⟨wanted_none rfl, by intro w' hSw; have q := hSw.cell m1 id; go_simp⟩) hS0 rfl ?_
        try simp only [Act.put, List.setIfInBounds_toArray, List.set_cons_zero, List.set_cons_succ]
        refine pure_ (i := 4) (N := some 26) (v := .agg #[.bool true, .int .i64 h.client]) #[true, true, true, true, true, false, false, false, false, false, false, false, false, false, false, false, false, false, false, false, false, false, false, false, false, false, false, false] rfl rfl (by kernel_rfl) (fun _ _ _ h => h) (Or.inl ⟨wanted_none rfl, fun w => by go_simp⟩) rfl ?_
        try simp only [Act.put, List.setIfInBounds_toArray, List.set_cons_zero, List.set_cons_succ]
        refine pure_ (i := 5) (N := some 27) (v := .pointer (some ⟨r, 0, Option.none⟩)) #[true, true, true, true, true, true, false, false, false, false, false, false, false, false, false, false, false, false, false, false, false, false, false, false, false, false, false, false] rfl rfl (by kernel_rfl) (fun _ _ _ h => h) (Or.inl ⟨wanted_none rfl, fun w => by rfl⟩) rfl ?_
        try simp only [Act.put, List.setIfInBounds_toArray, List.set_cons_zero, List.set_cons_succ]
        refine pure_ (i := 6) (N := some 28) (v := .pointer (some ⟨r, 0, Option.none⟩)) #[true, true, true, true, true, true, true, false, false, false, false, false, false, false, false, false, false, false, false, false, false, false, false, false, false, false, false, false] rfl rfl (by kernel_rfl) (fun _ _ _ h => h) (Or.inl ⟨wanted_none rfl, fun w => by go_simp⟩) rfl ?_
        try simp only [Act.put, List.setIfInBounds_toArray, List.set_cons_zero, List.set_cons_succ]
        refine pure_ (i := 7) (N := some 29) (v := .pointer (some ⟨r, 7, Option.none⟩)) #[true, true, true, true, true, true, true, true, false, false, false, false, false, false, false, false, false, false, false, false, false, false, false, false, false, false, false, false] rfl rfl (by kernel_rfl) (fun _ _ _ h => h) (Or.inl ⟨wanted_none rfl, fun w => by go_simp⟩) rfl ?_
        try simp only [Act.put, List.setIfInBounds_toArray, List.set_cons_zero, List.set_cons_succ]
        refine take_ (i := 8) (N := some 30) (v := .slice (some ⟨bg, og, Option.none⟩) h.grp.length cg) #[true, true, true, true, true, true, true, true, true, false, false, false, false, false, false, false, false, false, false, false, false, false, false, false, false, false, false, false] rfl rfl (by kernel_rfl) (fun _ _ _ h => h) (Or.inl ⟨wanted_none rfl, by intro w' hSw; have q := hSw.cell m7 id; go_simp⟩) hS0 rfl ?_
        try simp only [Act.put, List.setIfInBounds_toArray, List.set_cons_zero, List.set_cons_succ]
        refine pure_ (i := 9) (N := some 31) (v := .int .i64 (k : Int)) #[true, true, true, true, true, true, true, true, true, true, false, false, false, false, false, false, false, false, false, false, false, false, false, false, false, false, false, false] rfl rfl (by kernel_rfl) (fun _ _ _ h => h) (Or.inl ⟨wanted_none rfl, fun w => by rfl⟩) rfl ?_
        try simp only [Act.put, List.setIfInBounds_toArray, List.set_cons_zero, List.set_cons_succ]
        refine pure_ (i := 10) (N := some 32) (v := .pointer (some ⟨bg, og + k, Option.none⟩)) #[true, true, true, true, true, true, true, true, true, true, true, false, false, false, false, false, false, false, false, false, false, false, false, false, false, false, false, false] rfl rfl (by kernel_rfl) (fun _ _ _ h => h) (Or.inl ⟨wanted_none rfl, fun w => by go_simp⟩) rfl ?_
        try simp only [Act.put, List.setIfInBounds_toArray, List.set_cons_zero, List.set_cons_succ]
        refine take_ (i := 11) (N := some 33) (v := .int .i64 x) #[true, true, true, true, true, true, true, true, true, true, true, true, false, false, false, false, false, false, false, false, false, false, false, false, false, false, false, false] rfl rfl (by kernel_rfl) (fun _ _ _ h => h) (Or.inl ⟨wanted_none rfl, by intro w' hSw; have q := hSw.cell hc id; go_simp⟩) hS0 rfl ?_
        try simp only [Act.put, List.setIfInBounds_toArray, List.set_cons_zero, List.set_cons_succ]
        refine pure_ (i := 12) (N := some 34) (v := .agg #[.bool false, .int .i64 x]) #[true, true, true, true, true, true, true, true, true, true, true, true, true, false, false, false, false, false, false, false, false, false, false, false, false, false, false, false] rfl rfl (by kernel_rfl) (fun _ _ _ h => h) (Or.inl ⟨wanted_none rfl, fun w => by go_simp⟩) rfl ?_
        try simp only [Act.put, List.setIfInBounds_toArray, List.set_cons_zero, List.set_cons_succ]
        refine pure_ (i := 13) (N := some 35) (v := .pointer (some ⟨r, 0, Option.none⟩)) #[true, true, true, true, true, true, true, true, true, true, true, true, true, true, false, false, false, false, false, false, false, false, false, false, false, false, false, false] rfl rfl (by kernel_rfl) (fun _ _ _ h => h) (Or.inl ⟨wanted_none rfl, fun w => by rfl⟩) rfl ?_
        try simp only [Act.put, List.setIfInBounds_toArray, List.set_cons_zero, List.set_cons_succ]
        refine pure_ (i := 14) (N := some 36) (v := .pointer (some ⟨r, 0, Option.none⟩)) #[true, true, true, true, true, true, true, true, true, true, true, true, true, true, true, false, false, false, false, false, false, false, false, false, false, false, false, false] rfl rfl (by kernel_rfl) (fun _ _ _ h => h) (Or.inl ⟨wanted_none rfl, fun w => by go_simp⟩) rfl ?_
        try simp only [Act.put, List.setIfInBounds_toArray, List.set_cons_zero, List.set_cons_succ]
        refine pure_ (i := 15) (N := some 37) (v := .pointer (some ⟨r, 2, Option.none⟩)) #[true, true, true, true, true, true, true, true, true, true, true, true, true, true, true, true, false, false, false, false, false, false, false, false, false, false, false, false] rfl rfl (by kernel_rfl) (fun _ _ _ h => h) (Or.inl ⟨wanted_none rfl, fun w => by go_simp⟩) rfl ?_
        try simp only [Act.put, List.setIfInBounds_toArray, List.set_cons_zero, List.set_cons_succ]
        refine take_ (i := 16) (N := some 38) (v := .int .i64 h.op) #[true, true, true, true, true, true, true, true, true, true, true, true, true, true, true, true, true, false, false, false, false, false, false, false, false, false, false, false] rfl rfl (by kernel_rfl) (fun _ _ _ h => h) (Or.inl ⟨wanted_none rfl, by intro w' hSw; have q := hSw.cell m2 id; go_simp⟩) hS0 rfl ?_
        try simp only [Act.put, List.setIfInBounds_toArray, List.set_cons_zero, List.set_cons_succ]
        refine pure_ (i := 17) (N := some 39) (v := .pointer (some ⟨r, 0, Option.none⟩)) #[true, true, true, true, true, true, true, true, true, true, true, true, true, true, true, true, true, true, false, false, false, false, false, false, false, false, false, false] rfl rfl (by kernel_rfl) (fun _ _ _ h => h) (Or.inl ⟨wanted_none rfl, fun w => by rfl⟩) rfl ?_
        try simp only [Act.put, List.setIfInBounds_toArray, List.set_cons_zero, List.set_cons_succ]
        refine pure_ (i := 18) (N := some 40) (v := .pointer (some ⟨r, 0, Option.none⟩)) #[true, true, true, true, true, true, true, true, true, true, true, true, true, true, true, true, true, true, true, false, false, false, false, false, false, false, false, false] rfl rfl (by kernel_rfl) (fun _ _ _ h => h) (Or.inl ⟨wanted_none rfl, fun w => by go_simp⟩) rfl ?_
        try simp only [Act.put, List.setIfInBounds_toArray, List.set_cons_zero, List.set_cons_succ]
        refine pure_ (i := 19) (N := some 41) (v := .pointer (some ⟨r, 8, Option.none⟩)) #[true, true, true, true, true, true, true, true, true, true, true, true, true, true, true, true, true, true, true, true, false, false, false, false, false, false, false, false] rfl rfl (by kernel_rfl) (fun _ _ _ h => h) (Or.inl ⟨wanted_none rfl, fun w => by go_simp⟩) rfl ?_
        try simp only [Act.put, List.setIfInBounds_toArray, List.set_cons_zero, List.set_cons_succ]
        refine take_ (i := 20) (N := some 42) (v := .int .i64 round) #[true, true, true, true, true, true, true, true, true, true, true, true, true, true, true, true, true, true, true, true, true, false, false, false, false, false, false, false] rfl rfl (by kernel_rfl) (fun _ _ _ h => h) (Or.inl ⟨wanted_none rfl, by intro w' hSw; have q := hSw.cell m8 id; go_simp⟩) hS0 rfl ?_
        try simp only [Act.put, List.setIfInBounds_toArray, List.set_cons_zero, List.set_cons_succ]
        refine pure_ (i := 21) (N := some 43) (v := .pointer (some ⟨r, 0, Option.none⟩)) #[true, true, true, true, true, true, true, true, true, true, true, true, true, true, true, true, true, true, true, true, true, true, false, false, false, false, false, false] rfl rfl (by kernel_rfl) (fun _ _ _ h => h) (Or.inl ⟨wanted_none rfl, fun w => by rfl⟩) rfl ?_
        try simp only [Act.put, List.setIfInBounds_toArray, List.set_cons_zero, List.set_cons_succ]
        refine pure_ (i := 22) (N := some 44) (v := .pointer (some ⟨r, 0, Option.none⟩)) #[true, true, true, true, true, true, true, true, true, true, true, true, true, true, true, true, true, true, true, true, true, true, true, false, false, false, false, false] rfl rfl (by kernel_rfl) (fun _ _ _ h => h) (Or.inl ⟨wanted_none rfl, fun w => by go_simp⟩) rfl ?_
        try simp only [Act.put, List.setIfInBounds_toArray, List.set_cons_zero, List.set_cons_succ]
        refine pure_ (i := 23) (N := some 45) (v := .pointer (some ⟨r, 3, Option.none⟩)) #[true, true, true, true, true, true, true, true, true, true, true, true, true, true, true, true, true, true, true, true, true, true, true, true, false, false, false, false] rfl rfl (by kernel_rfl) (fun _ _ _ h => h) (Or.inl ⟨wanted_none rfl, fun w => by go_simp⟩) rfl ?_
        try simp only [Act.put, List.setIfInBounds_toArray, List.set_cons_zero, List.set_cons_succ]
        refine take_ (i := 24) (N := some 46) (v := .agg #[.int .i64 h.k0, .int .i64 h.k1, .int .i64 h.k2, .int .i64 h.k3]) #[true, true, true, true, true, true, true, true, true, true, true, true, true, true, true, true, true, true, true, true, true, true, true, true, true, false, false, false] rfl rfl (by kernel_rfl) (fun _ _ _ h => h) (Or.inl ⟨wanted_none rfl, by intro w' hSw; have q3 := hSw.cell m3 id; have q4 := hSw.cell m4 id; have q5 := hSw.cell m5 id; have q6 := hSw.cell m6 id; go_simp⟩) hS0 rfl ?_
        try simp only [Act.put, List.setIfInBounds_toArray, List.set_cons_zero, List.set_cons_succ]
        refine pure_ (i := 25) (N := some 47) (v := .agg #[.int .i64 1, .bool true, .int .i64 h.client, .bool false, .int .i64 x, .int .i64 h.op, .int .i64 round, .int .i64 h.k0, .int .i64 h.k1, .int .i64 h.k2, .int .i64 h.k3, .int .i64 0, .int .i64 0, .int .i64 0, .int .i64 0, .slice Option.none 0 0, .int .i64 0, .int .i64 0, .int .i64 0, .string ⟨#[]⟩, .int .i64 0, .int .i64 0, .int .i64 0, .int .i64 0, .int .i64 0, .int .i64 0, .slice Option.none 0 0, .slice Option.none 0 0, .slice Option.none 0 0, .bool false]) #[true, true, true, true, true, true, true, true, true, true, true, true, true, true, true, true, true, true, true, true, true, true, true, true, true, true, false, false] rfl rfl (by kernel_rfl) (fun _ _ _ h => h) (Or.inl ⟨wanted_none rfl, fun w => by go_simp⟩) rfl ?_
        try simp only [Act.put, List.setIfInBounds_toArray, List.set_cons_zero, List.set_cons_succ]
        refine one_ (i := 26) (oi := ({ dst := some 5, op := Op.alloc 66, type := 0, pos := "ref.go:91", after := #[], guard := Option.none } : Oper)) (N := some 5) #[true, true, true, true, true, true, true, true, true, true, true, true, true, true, true, true, true, true, true, true, true, true, true, true, true, true, true, false] rfl rfl (by kernel_rfl) (by decide) ?_
        intro KK hKK
        obtain ⟨mb, hmb⟩ : ∃ x, x = wr.drew.heap.size := ⟨_, rfl⟩
        obtain ⟨WM, hWM⟩ : ∃ x, x = wr.drew.alloc (.cells (msgL 0 false 0 false 0 0 0 0 0 0 0 0 0 (.slice Option.none 0 0)).toArray 66) := ⟨_, rfl⟩
        have kM : Keeps None wr.drew WM := by rw [hWM]; exact (Keeps.refl _ _).alloc _
        have hM : Blk WM mb 66 (msgL 0 false 0 false 0 0 0 0 0 0 0 0 0 (.slice Option.none 0 0)) := by rw [hWM, hmb]; exact Blk.new _ _ _
        have hMge : wr.heap.size ≤ mb := by have := hS0.size; omega
        refine value_ (wanted_none rfl) rfl (w1 := WM) (v := .pointer (some ⟨mb, 0, Option.none⟩)) (by rw [hWM, hmb]; exact exec_alloc_msg rfl) (hKK.out _ _ (hS0.trans kM) (fun hS1 => ?_))
        try simp only [Act.put, List.setIfInBounds_toArray, List.set_cons_zero, List.set_cons_succ]
        refine one_ (i := 27) (oi := ({ dst := Option.none, op := Op.store 66 (Operand.tmp 5) (Operand.tmp 47), type := 0, pos := "ref.go:91", after := #[{ on := 26, ground := Ground.data }, { on := 25, ground := Ground.data }, { on := 0, ground := Ground.phase }, { on := 1, ground := Ground.phase }, { on := 2, ground := Ground.phase }, { on := 3, ground := Ground.phase }, { on := 4, ground := Ground.phase }, { on := 5, ground := Ground.phase }, { on := 6, ground := Ground.phase }, { on := 7, ground := Ground.phase }, { on := 8, ground := Ground.phase }, { on := 9, ground := Ground.phase }, { on := 10, ground := Ground.phase }, { on := 11, ground := Ground.phase }, { on := 12, ground := Ground.phase }, { on := 13, ground := Ground.phase }, { on := 14, ground := Ground.phase }, { on := 15, ground := Ground.phase }, { on := 16, ground := Ground.phase }, { on := 17, ground := Ground.phase }, { on := 18, ground := Ground.phase }, { on := 19, ground := Ground.phase }, { on := 20, ground := Ground.phase }, { on := 21, ground := Ground.phase }, { on := 22, ground := Ground.phase }, { on := 23, ground := Ground.phase }, { on := 24, ground := Ground.phase }, { on := 25, ground := Ground.phase }, { on := 26, ground := Ground.phase }], guard := Option.none } : Oper)) (N := Option.none) #[true, true, true, true, true, true, true, true, true, true, true, true, true, true, true, true, true, true, true, true, true, true, true, true, true, true, true, true] rfl rfl (by kernel_rfl) (by decide) ?_
        intro KK hKK
        refine skip_ (wanted_none rfl) rfl (w1 := WM.setRow mb ([.int .i64 1, .bool true, .int .i64 h.client, .bool false, .int .i64 x, .int .i64 h.op, .int .i64 round, .int .i64 h.k0, .int .i64 h.k1, .int .i64 h.k2, .int .i64 h.k3, .int .i64 0, .int .i64 0, .int .i64 0, .int .i64 0, .slice Option.none 0 0, .int .i64 0, .int .i64 0, .int .i64 0, .string ⟨#[]⟩, .int .i64 0, .int .i64 0, .int .i64 0, .int .i64 0, .int .i64 0, .int .i64 0, .slice Option.none 0 0, .slice Option.none 0 0, .slice Option.none 0 0, .bool false] : List Value).toArray) (exec_store_msg (.tmp 5) (.tmp 47) rfl mb rfl [.int .i64 1, .bool true, .int .i64 h.client, .bool false, .int .i64 x, .int .i64 h.op, .int .i64 round, .int .i64 h.k0, .int .i64 h.k1, .int .i64 h.k2, .int .i64 h.k3, .int .i64 0, .int .i64 0, .int .i64 0, .int .i64 0, .slice Option.none 0 0, .int .i64 0, .int .i64 0, .int .i64 0, .string ⟨#[]⟩, .int .i64 0, .int .i64 0, .int .i64 0, .int .i64 0, .int .i64 0, .int .i64 0, .slice Option.none 0 0, .slice Option.none 0 0, .slice Option.none 0 0, .bool false] (msgL 0 false 0 false 0 0 0 0 0 0 0 0 0 (.slice Option.none 0 0)) rfl hM rfl rfl (by simp [Value.oneCell'])) (hKK.out _ _ (hS1.andThen ((Keeps.refl (One mb) _).setRow _ _ (fun _ => rfl)) (fun i hi e => by simp only [One] at e; omega)) (fun hS2 => ?_))
        try simp only [Act.put, List.setIfInBounds_toArray, List.set_cons_zero, List.set_cons_succ]
        refine done_ (by kernel_rfl) ?_
        have hM6 := hM.setRow [.int .i64 1, .bool true, .int .i64 h.client, .bool false, .int .i64 x, .int .i64 h.op, .int .i64 round, .int .i64 h.k0, .int .i64 h.k1, .int .i64 h.k2, .int .i64 h.k3, .int .i64 0, .int .i64 0, .int .i64 0, .int .i64 0, .slice Option.none 0 0, .int .i64 0, .int .i64 0, .int .i64 0, .string ⟨#[]⟩, .int .i64 0, .int .i64 0, .int .i64 0, .int .i64 0, .int .i64 0, .int .i64 0, .slice Option.none 0 0, .slice Option.none 0 0, .slice Option.none 0 0, .bool false]
        obtain ⟨W6, hW6⟩ : ∃ W, W = WM.setRow mb ([.int .i64 1, .bool true, .int .i64 h.client, .bool false, .int .i64 x, .int .i64 h.op, .int .i64 round, .int .i64 h.k0, .int .i64 h.k1, .int .i64 h.k2, .int .i64 h.k3, .int .i64 0, .int .i64 0, .int .i64 0, .int .i64 0, .slice Option.none 0 0, .int .i64 0, .int .i64 0, .int .i64 0, .string ⟨#[]⟩, .int .i64 0, .int .i64 0, .int .i64 0, .int .i64 0, .int .i64 0, .int .i64 0, .slice Option.none 0 0, .slice Option.none 0 0, .slice Option.none 0 0, .bool false] : List Value).toArray := ⟨_, rfl⟩
        rw [← hW6] at hM6 hS2 ⊢
        clear hS0 hKK hM hWM hmb kM hS1 hW6 c12 m12 hc
        have hB6 := hBr.grew hS2
        have m11 := hB6.cell 11 _ rfl
        have m14 := hB6.cell 14 _ rfl
        have m15 := hB6.cell 15 _ rfl
        have m10 := hB6.cell 10 _ rfl
        have x0 := hM6.cell 0 _ rfl
        have x11 := hM6.cell 11 _ rfl
        have x12 := hM6.cell 12 _ rfl
        have x15 := hM6.cell 15 _ rfl
        have g0 := hM6.free 0
        have g11 := hM6.free 11
        have g12 := hM6.free 12
        have g15 := hM6.free 15
        have hrm : r < wr.heap.size := hBr.lt
        clear m1 m2 m3 m4 m5 m6 m7 m8 hB6
        have hkk := HK.out
        have HHL := Lib.hid HL
        clear HK HL
        by_cases hp : p = 1
        case' pos =>
          rcases hkk with ⟨h1, h2, h3, h4, h5⟩ | ⟨h1, -⟩
          case' inr => exact absurd (hp.symm.trans h1) (by decide)
          obtain ⟨ta, tb⟩ := test_ne (show ¬ p = 2 by omega)
          have hM7 : Blk W6 mb 66 [.int .i64 kind, .bool true, .int .i64 h.client, .bool false, .int .i64 x, .int .i64 h.op, .int .i64 round, .int .i64 h.k0, .int .i64 h.k1, .int .i64 h.k2, .int .i64 h.k3, .int .i64 s1, .int .i64 s2, .int .i64 0, .int .i64 0, .slice D dn dc, .int .i64 0, .int .i64 0, .int .i64 0, .string ⟨#[]⟩, .int .i64 0, .int .i64 0, .int .i64 0, .int .i64 0, .int .i64 0, .int .i64 0, .slice Option.none 0 0, .slice Option.none 0 0, .slice Option.none 0 0, .bool false] := by rw [h2, h3, h4, h5]; exact hM6
          clear h1 h2 h3 h4 h5 hp
          go_upto_region 11 with (fail)
          obtain ⟨W7, hW7⟩ : ∃ W, W = W6 := ⟨_, rfl⟩
          have hS7 := hS2
          rw [← hW7] at hM7 hS7 ⊢
          clear hW7 ta tb
        case' neg =>
          rcases hkk with ⟨h1, -⟩ | ⟨h1, h2, h3, h4, h5⟩
          case' inl => exact absurd h1 hp
          obtain ⟨ta, tb⟩ := test_eq h1
          rw [h5] at m10
          clear hp
          have H1 := Lib.hid h1
          have H2 := Lib.hid h2
          have H3 := Lib.hid h3
          have H4 := Lib.hid h4
          have H5 := Lib.hid h5
          clear h1 h2 h3 h4 h5
          go_upto_region 11 with (fail)
          have hM8 : Blk ((((W6.setCell ⟨mb, 0, Option.none⟩ (.int .i64 2)).setCell ⟨mb, 11, Option.none⟩ (.int .i64 t1)).setCell ⟨mb, 12, Option.none⟩ (.int .i64 t2)).setCell ⟨mb, 15, Option.none⟩ (.slice D dn dc)) mb 66 [.int .i64 2, .bool true, .int .i64 h.client, .bool false, .int .i64 x, .int .i64 h.op, .int .i64 round, .int .i64 h.k0, .int .i64 h.k1, .int .i64 h.k2, .int .i64 h.k3, .int .i64 t1, .int .i64 t2, .int .i64 0, .int .i64 0, .slice D dn dc, .int .i64 0, .int .i64 0, .int .i64 0, .string ⟨#[]⟩, .int .i64 0, .int .i64 0, .int .i64 0, .int .i64 0, .int .i64 0, .int .i64 0, .slice Option.none 0 0, .slice Option.none 0 0, .slice Option.none 0 0, .bool false] := (((hM6.set 0 (.int .i64 2)).set 11 (.int .i64 t1)).set 12 (.int .i64 t2)).set 15 (.slice D dn dc)
          have hS7 : Keeps None wr ((((W6.setCell ⟨mb, 0, Option.none⟩ (.int .i64 2)).setCell ⟨mb, 11, Option.none⟩ (.int .i64 t1)).setCell ⟨mb, 12, Option.none⟩ (.int .i64 t2)).setCell ⟨mb, 15, Option.none⟩ (.slice D dn dc)) :=
            (((hS2.setCell ⟨mb, 0, Option.none⟩ _ (fun f => by simp only at f; omega)).setCell ⟨mb, 11, Option.none⟩ _ (fun f => by simp only at f; omega)).setCell ⟨mb, 12, Option.none⟩ _ (fun f => by simp only at f; omega)).setCell ⟨mb, 15, Option.none⟩ _ (fun f => by simp only at f; omega)
          obtain ⟨W7, hW7⟩ : ∃ W, W = ((((W6.setCell ⟨mb, 0, Option.none⟩ (.int .i64 2)).setCell ⟨mb, 11, Option.none⟩ (.int .i64 t1)).setCell ⟨mb, 12, Option.none⟩ (.int .i64 t2)).setCell ⟨mb, 15, Option.none⟩ (.slice D dn dc)) := ⟨_, rfl⟩
          rw [← hW7] at hM8 hS7
          rw [← hW7]
          have hM7 : Blk W7 mb 66 [.int .i64 kind, .bool true, .int .i64 h.client, .bool false, .int .i64 x, .int .i64 h.op, .int .i64 round, .int .i64 h.k0, .int .i64 h.k1, .int .i64 h.k2, .int .i64 h.k3, .int .i64 s1, .int .i64 s2, .int .i64 0, .int .i64 0, .slice D dn dc, .int .i64 0, .int .i64 0, .int .i64 0, .string ⟨#[]⟩, .int .i64 0, .int .i64 0, .int .i64 0, .int .i64 0, .int .i64 0, .int .i64 0, .slice Option.none 0 0, .slice Option.none 0 0, .slice Option.none 0 0, .bool false] := by rw [H2.out, H3.out, H4.out]; exact hM8
          clear hW7 ta tb hM8 H1 H2 H3 H4 H5
        all_goals
          clear hM6 hS2 x0 x11 x12 x15 g0 g11 g12 g15 m10 m11 m14 m15
          have h7s := hS7.size
          have hKs := hK.size
          go_wp2_with (first | (refine wpList_load_msg rfl (.tmp 5) rfl mb rfl [.int .i64 kind, .bool true, .int .i64 h.client, .bool false, .int .i64 x, .int .i64 h.op, .int .i64 round, .int .i64 h.k0, .int .i64 h.k1, .int .i64 h.k2, .int .i64 h.k3, .int .i64 s1, .int .i64 s2, .int .i64 0, .int .i64 0, .slice D dn dc, .int .i64 0, .int .i64 0, .int .i64 0, .string ⟨#[]⟩, .int .i64 0, .int .i64 0, .int .i64 0, .int .i64 0, .int .i64 0, .int .i64 0, .slice Option.none 0 0, .slice Option.none 0 0, .slice Option.none 0 0, .bool false] hM7 rfl ?_) | (at_builtin; refine wpList_append_row _ rfl (.tmp 64) (.tmp 66) 55 rfl w.heap.size 66 iM _ 30 312 Try.underlying55 hiM hzM0 hzM1 hzM2 rfl (by decide) u3 l.length _ rfl (owns_grew hO (hS7.alloc _)) (some ⟨W7.heap.size, 0, Option.none⟩) 1 1 [.int .i64 kind, .bool true, .int .i64 h.client, .bool false, .int .i64 x, .int .i64 h.op, .int .i64 round, .int .i64 h.k0, .int .i64 h.k1, .int .i64 h.k2, .int .i64 h.k3, .int .i64 s1, .int .i64 s2, .int .i64 0, .int .i64 0, .slice D dn dc, .int .i64 0, .int .i64 0, .int .i64 0, .string ⟨#[]⟩, .int .i64 0, .int .i64 0, .int .i64 0, .int .i64 0, .int .i64 0, .int .i64 0, .slice Option.none 0 0, .slice Option.none 0 0, .slice Option.none 0 0, .bool false] rfl rfl (fun e => by cases e) (src_new _ 66 _ _ rfl) (by intro u hu; simp at hu; rcases hu with rfl | rfl | rfl | rfl | rfl | rfl | rfl | rfl | rfl | rfl | rfl | rfl | rfl | rfl | rfl | rfl | rfl | rfl | rfl | rfl | rfl | rfl | rfl | rfl | rfl | rfl | rfl | rfl | rfl | rfl <;> rfl) (by unfold maxLen; omega) (by omega) (by simp only [World.size_alloc]; omega) ?_; intro al' w8 hown hk8 hloc8))
          have hK8 : Keeps None w w8 := (hK.trans (hS7.alloc _)).andThen hk8 (fun i hi e => by have := (World.ownsRow.lt hO i e).1; omega)
          have hO8 : w8.ownsRow w.heap.size 66 30 al' (l ++ [x]).length (tellsCells kind h.client h.op round h.k0 h.k1 h.k2 h.k3 s1 s2 ((l ++ [x]).map fun x => (x, .slice D dn dc))) := by
            rw [List.length_append, List.map_append, show [x].map (fun x => (x, Value.slice D dn dc)) = [(x, Value.slice D dn dc)] from rfl, tellsCells_snoc]
            exact hown
          clear hown hk8 hloc8 hM7 hS7
          go_roundw
          case rel => exact ⟨k + 1, l ++ [x], by omega, by go_num, HL2, by simp; omega, hO8, hK8⟩
          case measure => simp [intOf]; omega
    · obtain rfl : k = h.grp.length := by omega
      have HE := HL.out
      rw [List.take_of_length_le (Nat.le_refl _)] at HE
      go_wp2_with fail
      go_ret
      exact ⟨_, rfl, by rw [← HE]; exact hO, hK⟩
end Go.Proofs.Ytcihfjfbcfgidaa
