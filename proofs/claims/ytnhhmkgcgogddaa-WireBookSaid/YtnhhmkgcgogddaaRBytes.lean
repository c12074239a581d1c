/- The closure that reads bytes. -/
import Derived.Test.YtnhhmkgcgogddaaRIntEnd
namespace Go.Proofs.Ytnhhmkgcgogddaa
open Go.RowKit Go.Proofs.YtnhhmkgcgogddaaW.PrintLast
set_option linter.unusedVariables false

/-- What bytes with their number ahead are read as. -/
inductive BDec where
  | ok (bs : List Int) (m : Nat)
  | err (k : Int)
def bytD (zs : List Int) (p : Nat) : BDec := match numD (decF 0 0 (zs.drop p)) with
  | .ok u m => if u ≤ zs.length - (p + m) then .ok ((zs.drop (p + m)).take u) (m + u) else .err 10
  | .err k => .err k

def BytOne (g base : Nat) (v : Value) (zs : List Int) (p : Nat) (place : Int) (nc : Nat) (w : World) (e : Ending) (w' : World) : Prop :=
  (∃ bs m v2, bytD zs p = .ok bs m ∧ e = .returned (.tuple #[]) ∧ Rd w' g base v zs (p + m) 0 place ∧ Blk w' nc 23 [v2] ∧ Row .u8 5 w' w.heap.size v2 bs ∧ Keeps (Two2 g nc) w w') ∨
  (∃ k p', bytD zs p = .err k ∧ e = .panicked (faultV k) ∧ Rd w' g base v zs p' 0 place ∧ Keeps (Two2 g nc) w w')

set_option maxRecDepth 100000 in
set_option maxHeartbeats 1600000 in
theorem byt1_any (g base : Nat) (v : Value) (zs : List Int) (p : Nat) (place : Int) (x : Value) (rc nc : Nat) (w : World) (h : Rd w g base v zs p 0 place) (hr : zs.length ≤ 140737488351232) (hb : Bytes zs)
    (hrc : w.cell? ⟨rc, 0, Option.none⟩ = some (.pointer (some ⟨g, 0, Option.none⟩))) (hn : Blk w nc 23 [x]) (hne : g ≠ nc) (hvn : ∀ b, v.ownBlock = some b → b ≠ nc) (hrg : rc ≠ g) (hrn : rc ≠ nc) :
    Calls Try.prog 69 #[.pointer (some ⟨rc, 0, Option.none⟩), .pointer (some ⟨nc, 0, Option.none⟩)] w (BytOne g base v zs p place nc w) := by
  obtain ⟨R, hR⟩ : ∃ R, R = BytOne g base v zs p place nc w := ⟨_, rfl⟩
  rw [← hR]
  have HR := Lib.hid hR
  clear hR
  go_enter Try.func69, Try.ntmps69
  go_wp2_with fail
  refine (rnum_any g base v zs p 0 place w h hr hb).mono ?_
  rintro e w2 (⟨u, m, hd, hu, rfl, hR2, hk2⟩ | ⟨k, p', hd, rfl, hR2, hk2⟩)
  · have hle := hR2.le
    have hz0 : 0 < zs.length := by
      rcases Nat.eq_zero_or_pos zs.length with e | e
      · have e0 := List.eq_nil_of_length_eq_zero e
        subst e0
        simp [decF, numD] at hd
      · exact e
    obtain ⟨a, cv, rfl, hcv, -, -⟩ := hR2.row.pos hz0
    have hN := (Nums.row hR2.row).1
    obtain ⟨q, hq⟩ : ∃ q, q = p + m := ⟨_, rfl⟩
    rw [← hq] at hle hR2
    have c0 := hR2.blk.cell 0 _ rfl
    have c1 := hR2.blk.cell 1 _ rfl
    have f1 := hR2.blk.free 1
    have hrc2 := hk2.cell hrc (fun e => hrg e)
    have hn2 := hn.keeps hk2 (fun e => hne e.symm)
    by_cases hu2 : u ≤ zs.length - q
    · have hi1 : ¬ ((zs.length : Int) - (q : Int) < (u : Int)) := by omega
      have hD : Hid (bytD zs p = .ok ((zs.drop (p + m)).take u) (m + u)) := Lib.hid (by unfold bytD; rw [hd]; exact if_pos (by omega))
      have HQ := Lib.hid hq
      clear hd hq
      go_wp2_with fail
      go_quiet (fail)
      go_wp2_with fail
      have hq1 : (0 : Int) ≤ (q : Int) := by omega
      have hq2 : (q : Int) ≤ (q : Int) + (u : Int) := by omega
      have hq3 : (q : Int) + (u : Int) ≤ (cv : Int) := by omega
      have hwr : IntKind.i64.wrap ((q : Int) + (u : Int)) = (q : Int) + (u : Int) := by rw [IntKind.wrap_i64]; omega
      have k5 : Keeps None w2 (w2.drewN nq) := (Keeps.refl None w2).drewN nq
      have hR5 := hR2.grew k5
      have hn5 := hn2.grew k5
      have hrc5 := k5.cell hrc2 id
      have hN5 : Nums .u8 (w2.drewN nq) (some ⟨a, q, Option.none⟩) ((zs.drop q).take u) := by
        have := ((hN.grew k5).drop q).take u
        simpa using this
      have hlu : ((zs.drop q).take u).length = u := by rw [List.length_take, List.length_drop]; omega
      obtain ⟨w5, hw5⟩ : ∃ w5, w5 = w2.drewN nq := ⟨_, rfl⟩
      rw [← hw5] at k5 hR5 hn5 hrc5 hN5 ⊢
      clear hw5
      have d0 := hR5.blk.cell 0 _ rfl
      have d1 := hR5.blk.cell 1 _ rfl
      have held : ∀ w', Keeps (One nc) w5 w' → (w'.cell? ⟨rc, 0, Option.none⟩ = some (.pointer (some ⟨g, 0, Option.none⟩)) ∧ w'.cell? ⟨g, 0, Option.none⟩ = some (.slice (some ⟨a, 0, Option.none⟩) zs.length cv) ∧ w'.cell? ⟨g, 1, Option.none⟩ = some (.int .i64 q)) := fun w' h => ⟨h.cell hrc5 (fun e => hrn e), h.cell d0 (fun e => hne e), h.cell d1 (fun e => hne e)⟩
      have HELD := Lib.hid held
      clear held hrc2 c0 c1 f1
      have htn : ((q : Int) + (u : Int)).toNat - q = u := by omega
      have hqn : q ≤ ((q : Int) + (u : Int)).toNat := by omega
      have hq0 : (0 : Int) ≤ (q : Int) + (u : Int) := by omega
      have HL := Lib.hid hlu
      by_cases hcq : cv = q
      · have hN5 : Nums .u8 w5 (some ⟨a, 0, Option.none⟩) ((zs.drop q).take u) := by
          have e0 : (zs.drop q).take u = [] := List.eq_nil_of_length_eq_zero (by omega)
          rw [e0]; exact Nums.nil _ _ _
        have hqq : (q : Int) + (u : Int) ≤ (q : Int) := by omega
        refine start_ (ds := []) (S := (fun w' => w'.cell? ⟨rc, 0, Option.none⟩ = some (.pointer (some ⟨g, 0, Option.none⟩)) ∧ w'.cell? ⟨g, 0, Option.none⟩ = some (.slice (some ⟨a, 0, Option.none⟩) zs.length cv) ∧ w'.cell? ⟨g, 1, Option.none⟩ = some (.int .i64 q))) #[false, false, false, false, false, false, false, false, false, false, false, false, false, false, false, false, false] (by kernel_rfl) rfl rfl (HELD.out _ (Keeps.refl _ _).drew) (fun hS0 => ?_)
        refine take_ (i := 0) (N := some 19) (v := .pointer (some ⟨g, 0, Option.none⟩)) #[true, false, false, false, false, false, false, false, false, false, false, false, false, false, false, false, false] rfl rfl (by kernel_rfl) (fun _ _ _ h => h) (Or.inl ⟨wanted_none rfl, by intro w' hSw; go_split_ands; go_simp⟩) hS0 rfl ?_
        try simp only [Act.put, List.setIfInBounds_toArray, List.set_cons_zero, List.set_cons_succ]
        refine pure_ (i := 1) (N := some 20) (v := .pointer (some ⟨g, 0, Option.none⟩)) #[true, true, false, false, false, false, false, false, false, false, false, false, false, false, false, false, false] rfl rfl (by kernel_rfl) (fun _ _ _ h => h) (Or.inl ⟨wanted_none rfl, fun w => by go_simp⟩) rfl ?_
        try simp only [Act.put, List.setIfInBounds_toArray, List.set_cons_zero, List.set_cons_succ]
        refine pure_ (i := 2) (N := some 21) (v := .pointer (some ⟨g, 0, Option.none⟩)) #[true, true, true, false, false, false, false, false, false, false, false, false, false, false, false, false, false] rfl rfl (by kernel_rfl) (fun _ _ _ h => h) (Or.inl ⟨wanted_none rfl, fun w => by go_simp⟩) rfl ?_
        try simp only [Act.put, List.setIfInBounds_toArray, List.set_cons_zero, List.set_cons_succ]
        refine take_ (i := 3) (N := some 22) (v := .slice (some ⟨a, 0, Option.none⟩) zs.length cv) #[true, true, true, true, false, false, false, false, false, false, false, false, false, false, false, false, false] rfl rfl (by kernel_rfl) (fun _ _ _ h => h) (Or.inl ⟨wanted_none rfl, by intro w' hSw; go_split_ands; go_simp⟩) hS0 rfl ?_
        try simp only [Act.put, List.setIfInBounds_toArray, List.set_cons_zero, List.set_cons_succ]
        refine take_ (i := 4) (N := some 23) (v := .pointer (some ⟨g, 0, Option.none⟩)) #[true, true, true, true, true, false, false, false, false, false, false, false, false, false, false, false, false] rfl rfl (by kernel_rfl) (fun _ _ _ h => h) (Or.inl ⟨wanted_none rfl, by intro w' hSw; go_split_ands; go_simp⟩) hS0 rfl ?_
        try simp only [Act.put, List.setIfInBounds_toArray, List.set_cons_zero, List.set_cons_succ]
        refine pure_ (i := 5) (N := some 24) (v := .pointer (some ⟨g, 0, Option.none⟩)) #[true, true, true, true, true, true, false, false, false, false, false, false, false, false, false, false, false] rfl rfl (by kernel_rfl) (fun _ _ _ h => h) (Or.inl ⟨wanted_none rfl, fun w => by go_simp⟩) rfl ?_
        try simp only [Act.put, List.setIfInBounds_toArray, List.set_cons_zero, List.set_cons_succ]
        refine pure_ (i := 6) (N := some 25) (v := .pointer (some ⟨g, 1, Option.none⟩)) #[true, true, true, true, true, true, true, false, false, false, false, false, false, false, false, false, false] rfl rfl (by kernel_rfl) (fun _ _ _ h => h) (Or.inl ⟨wanted_none rfl, fun w => by go_simp⟩) rfl ?_
        try simp only [Act.put, List.setIfInBounds_toArray, List.set_cons_zero, List.set_cons_succ]
        refine take_ (i := 7) (N := some 26) (v := .int .i64 q) #[true, true, true, true, true, true, true, true, false, false, false, false, false, false, false, false, false] rfl rfl (by kernel_rfl) (fun _ _ _ h => h) (Or.inl ⟨wanted_none rfl, by intro w' hSw; go_split_ands; go_simp⟩) hS0 rfl ?_
        try simp only [Act.put, List.setIfInBounds_toArray, List.set_cons_zero, List.set_cons_succ]
        refine take_ (i := 8) (N := some 27) (v := .pointer (some ⟨g, 0, Option.none⟩)) #[true, true, true, true, true, true, true, true, true, false, false, false, false, false, false, false, false] rfl rfl (by kernel_rfl) (fun _ _ _ h => h) (Or.inl ⟨wanted_none rfl, by intro w' hSw; go_split_ands; go_simp⟩) hS0 rfl ?_
        try simp only [Act.put, List.setIfInBounds_toArray, List.set_cons_zero, List.set_cons_succ]
        refine pure_ (i := 9) (N := some 28) (v := .pointer (some ⟨g, 0, Option.none⟩)) #[true, true, true, true, true, true, true, true, true, true, false, false, false, false, false, false, false] rfl rfl (by kernel_rfl) (fun _ _ _ h => h) (Or.inl ⟨wanted_none rfl, fun w => by go_simp⟩) rfl ?_
        try simp only [Act.put, List.setIfInBounds_toArray, List.set_cons_zero, List.set_cons_succ]
        refine pure_ (i := 10) (N := some 29) (v := .pointer (some ⟨g, 1, Option.none⟩)) #[true, true, true, true, true, true, true, true, true, true, true, false, false, false, false, false, false] rfl rfl (by kernel_rfl) (fun _ _ _ h => h) (Or.inl ⟨wanted_none rfl, fun w => by go_simp⟩) rfl ?_
        try simp only [Act.put, List.setIfInBounds_toArray, List.set_cons_zero, List.set_cons_succ]
        refine take_ (i := 11) (N := some 30) (v := .int .i64 q) #[true, true, true, true, true, true, true, true, true, true, true, true, false, false, false, false, false] rfl rfl (by kernel_rfl) (fun _ _ _ h => h) (Or.inl ⟨wanted_none rfl, by intro w' hSw; go_split_ands; go_simp⟩) hS0 rfl ?_
        try simp only [Act.put, List.setIfInBounds_toArray, List.set_cons_zero, List.set_cons_succ]
        refine pure_ (i := 12) (N := some 31) (v := .int .i64 u) #[true, true, true, true, true, true, true, true, true, true, true, true, true, false, false, false, false] rfl rfl (by kernel_rfl) (fun _ _ _ h => h) (Or.inl ⟨wanted_none rfl, fun w => by rfl⟩) rfl ?_
        try simp only [Act.put, List.setIfInBounds_toArray, List.set_cons_zero, List.set_cons_succ]
        refine pure_ (i := 13) (N := some 32) (v := .int .i64 ((q : Int) + (u : Int))) #[true, true, true, true, true, true, true, true, true, true, true, true, true, true, false, false, false] rfl rfl (by kernel_rfl) (fun _ _ _ h => h) (Or.inl ⟨wanted_none rfl, fun w => by go_simp⟩) rfl ?_
        try simp only [Act.put, List.setIfInBounds_toArray, List.set_cons_zero, List.set_cons_succ]
        refine pure_ (i := 14) (N := some 33) (v := .slice (some ⟨a, 0, Option.none⟩) u (cv - q)) #[true, true, true, true, true, true, true, true, true, true, true, true, true, true, true, false, false] rfl rfl (by kernel_rfl) (fun _ _ _ h => h) (Or.inl ⟨wanted_none rfl, fun w => by go_simp⟩) rfl ?_
        try simp only [Act.put, List.setIfInBounds_toArray, List.set_cons_zero, List.set_cons_succ]
        refine one_ (i := 15) (oi := ({ dst := some 34, op := Op.call { callee := Callee.value (Operand.func 50), args := #[Operand.tmp 33], argTypes := #[23] }, type := 23, pos := "wire.go:149", after := #[{ on := 14, ground := Ground.data }], guard := Option.none } : Oper)) (N := some 34) #[true, true, true, true, true, true, true, true, true, true, true, true, true, true, true, true, false] rfl rfl (by kernel_rfl) (by simp) ?_
        intro KK hKK
        refine goes_ Try.func50 (by kernel_rfl) rfl #[.slice (some ⟨a, 0, Option.none⟩) u (cv - q)] (wanted_none rfl) rfl rfl (by simp [Act.eval]) ?_
        refine (clone_any (some ⟨a, 0, Option.none⟩) u (cv - q) ((zs.drop q).take u) _ (hN5.grew (Keeps.refl None _).drew) hlu (by omega)).mono ?_
        rintro e w6 ⟨v2, rfl, hv2, hk6⟩
        obtain ⟨A2, c2, ev2⟩ := hv2.slice
        rw [hlu] at ev2
        subst ev2
        have hk56 : Keeps None w5 w6 := (Keeps.refl None w5).drew.trans hk6
        have hn6 := hn5.grew hk56
        have fn6 := hn6.free 0
        have gn6 := hn6.cell 0 _ rfl
        refine ⟨_, rfl, hKK.out _ _ (HELD.out _ hk56.of_none) (fun hS1 => ?_)⟩
        try simp only [Act.put, List.setIfInBounds_toArray, List.set_cons_zero, List.set_cons_succ]
        refine one_ (i := 16) (oi := ({ dst := Option.none, op := Op.store 23 (Operand.tmp 1) (Operand.tmp 34), type := 0, pos := "wire.go:149", after := #[{ on := 15, ground := Ground.data }, { on := 15, ground := Ground.chain }, { on := 0, ground := Ground.phase }, { on := 1, ground := Ground.phase }, { on := 2, ground := Ground.phase }, { on := 3, ground := Ground.phase }, { on := 4, ground := Ground.phase }, { on := 5, ground := Ground.phase }, { on := 6, ground := Ground.phase }, { on := 7, ground := Ground.phase }, { on := 8, ground := Ground.phase }, { on := 9, ground := Ground.phase }, { on := 10, ground := Ground.phase }, { on := 11, ground := Ground.phase }, { on := 12, ground := Ground.phase }, { on := 13, ground := Ground.phase }, { on := 14, ground := Ground.phase }, { on := 15, ground := Ground.phase }], guard := Option.none } : Oper)) (N := Option.none) #[true, true, true, true, true, true, true, true, true, true, true, true, true, true, true, true, true] rfl rfl (by kernel_rfl) (by simp) ?_
        intro KK hKK
        refine skip_ (wanted_none rfl) rfl (w1 := w6.setCell ⟨nc, 0, Option.none⟩ (.slice A2 u c2)) (by go_simp) (hKK.out _ _ (HELD.out _ (hk56.of_none.setCell _ _ (fun _ => rfl))) (fun hT1 => ?_))
        try simp only [Act.put, List.setIfInBounds_toArray, List.set_cons_zero, List.set_cons_succ]
        refine done_ (by kernel_rfl) ?_
        have hR6 := hR5.grew hk56
        have k67 : Keeps (One nc) w6 (w6.setCell ⟨nc, 0, Option.none⟩ (.slice A2 u c2)) := (Keeps.refl _ _).setCell _ _ (fun _ => rfl)
        have hR7 := hR6.keeps k67 (fun e => hne e) (fun b e f => hvn b e f)
        have hn7 : Blk (w6.setCell ⟨nc, 0, Option.none⟩ (.slice A2 u c2)) nc 23 [.slice A2 u c2] := hn6.set 0 _
        have hv7 := hv2.keeps k67 (fun b e f => by have : b = nc := f; have := (hv2.lt b e).1; have := hn5.lt; simp at *; omega)
        have hrc7 := k67.cell (hk56.cell hrc5 id) (fun e => hrn e)
        have k57 : Keeps (Two2 g nc) w (w6.setCell ⟨nc, 0, Option.none⟩ (.slice A2 u c2)) := (((hk2.mono (fun k _ e => .inl e)).trans k5.of_none).trans hk56.of_none).trans (k67.mono (fun k _ e => .inr e))
        have hsz : w.heap.size ≤ w5.drew.heap.size := Nat.le_trans hk2.size k5.size
        obtain ⟨w7, hw7⟩ : ∃ w7, w7 = (w6.setCell ⟨nc, 0, Option.none⟩ (.slice A2 u c2)) := ⟨_, rfl⟩
        rw [← hw7] at hR7 hn7 hv7 hrc7 k57 ⊢
        clear hw7 k67
        have e0 := hR7.blk.cell 0 _ rfl
        have e1 := hR7.blk.cell 1 _ rfl
        have e2 := hR7.blk.free 1
        go_wp2_with fail
        have eq1 : (q : Int) + (u : Int) = ((p + (m + u) : Nat) : Int) := by have := HQ.out; omega
        have k78 : Keeps (One g) w7 (w7.setCell ⟨g, 1, Option.none⟩ (.int .i64 ((q : Int) + (u : Int)))) := (Keeps.refl _ _).setCell _ _ (fun _ => rfl)
        have hn8 := hn7.keeps k78 (fun e => hne e.symm)
        have hv8 := (hv7.keeps k78 (fun b e f => by have : b = g := f; have := (hv2.lt b e).1; have := hR5.blk.lt; simp at *; omega)).down hsz
        have hR8 : Rd (w7.setCell ⟨g, 1, Option.none⟩ (.int .i64 ((q : Int) + (u : Int)))) g base (.slice (some ⟨a, 0, Option.none⟩) zs.length cv) zs (p + (m + u)) 0 place :=
          ⟨by have := hR7.blk.set 1 (.int .i64 ((q : Int) + (u : Int))); rw [eq1] at this ⊢; exact this, hR7.row.keeps k78 (fun b e f => hR7.ne b e f), hR7.hb, hR7.ne, by have := HQ.out; omega⟩
        have k8 := k57.trans (k78.mono (fun k _ e => .inl e))
        rw [show (zs.drop q).take u = (zs.drop (p + m)).take u by rw [HQ.out]] at hv8
        go_end0
        rw [HR.out]
        exact .inl ⟨_, m + u, _, hD.out, rfl, hR8, hn8, hv8, k8⟩
      · skip
        refine start_ (ds := []) (S := (fun w' => w'.cell? ⟨rc, 0, Option.none⟩ = some (.pointer (some ⟨g, 0, Option.none⟩)) ∧ w'.cell? ⟨g, 0, Option.none⟩ = some (.slice (some ⟨a, 0, Option.none⟩) zs.length cv) ∧ w'.cell? ⟨g, 1, Option.none⟩ = some (.int .i64 q))) #[false, false, false, false, false, false, false, false, false, false, false, false, false, false, false, false, false] (by kernel_rfl) rfl rfl (HELD.out _ (Keeps.refl _ _).drew) (fun hS0 => ?_)
        refine take_ (i := 0) (N := some 19) (v := .pointer (some ⟨g, 0, Option.none⟩)) #[true, false, false, false, false, false, false, false, false, false, false, false, false, false, false, false, false] rfl rfl (by kernel_rfl) (fun _ _ _ h => h) (Or.inl ⟨wanted_none rfl, by intro w' hSw; go_split_ands; go_simp⟩) hS0 rfl ?_
        try simp only [Act.put, List.setIfInBounds_toArray, List.set_cons_zero, List.set_cons_succ]
        refine pure_ (i := 1) (N := some 20) (v := .pointer (some ⟨g, 0, Option.none⟩)) #[true, true, false, false, false, false, false, false, false, false, false, false, false, false, false, false, false] rfl rfl (by kernel_rfl) (fun _ _ _ h => h) (Or.inl ⟨wanted_none rfl, fun w => by go_simp⟩) rfl ?_
        try simp only [Act.put, List.setIfInBounds_toArray, List.set_cons_zero, List.set_cons_succ]
        refine pure_ (i := 2) (N := some 21) (v := .pointer (some ⟨g, 0, Option.none⟩)) #[true, true, true, false, false, false, false, false, false, false, false, false, false, false, false, false, false] rfl rfl (by kernel_rfl) (fun _ _ _ h => h) (Or.inl ⟨wanted_none rfl, fun w => by go_simp⟩) rfl ?_
        try simp only [Act.put, List.setIfInBounds_toArray, List.set_cons_zero, List.set_cons_succ]
        refine take_ (i := 3) (N := some 22) (v := .slice (some ⟨a, 0, Option.none⟩) zs.length cv) #[true, true, true, true, false, false, false, false, false, false, false, false, false, false, false, false, false] rfl rfl (by kernel_rfl) (fun _ _ _ h => h) (Or.inl ⟨wanted_none rfl, by intro w' hSw; go_split_ands; go_simp⟩) hS0 rfl ?_
        try simp only [Act.put, List.setIfInBounds_toArray, List.set_cons_zero, List.set_cons_succ]
        refine take_ (i := 4) (N := some 23) (v := .pointer (some ⟨g, 0, Option.none⟩)) #[true, true, true, true, true, false, false, false, false, false, false, false, false, false, false, false, false] rfl rfl (by kernel_rfl) (fun _ _ _ h => h) (Or.inl ⟨wanted_none rfl, by intro w' hSw; go_split_ands; go_simp⟩) hS0 rfl ?_
        try simp only [Act.put, List.setIfInBounds_toArray, List.set_cons_zero, List.set_cons_succ]
        refine pure_ (i := 5) (N := some 24) (v := .pointer (some ⟨g, 0, Option.none⟩)) #[true, true, true, true, true, true, false, false, false, false, false, false, false, false, false, false, false] rfl rfl (by kernel_rfl) (fun _ _ _ h => h) (Or.inl ⟨wanted_none rfl, fun w => by go_simp⟩) rfl ?_
        try simp only [Act.put, List.setIfInBounds_toArray, List.set_cons_zero, List.set_cons_succ]
        refine pure_ (i := 6) (N := some 25) (v := .pointer (some ⟨g, 1, Option.none⟩)) #[true, true, true, true, true, true, true, false, false, false, false, false, false, false, false, false, false] rfl rfl (by kernel_rfl) (fun _ _ _ h => h) (Or.inl ⟨wanted_none rfl, fun w => by go_simp⟩) rfl ?_
        try simp only [Act.put, List.setIfInBounds_toArray, List.set_cons_zero, List.set_cons_succ]
        refine take_ (i := 7) (N := some 26) (v := .int .i64 q) #[true, true, true, true, true, true, true, true, false, false, false, false, false, false, false, false, false] rfl rfl (by kernel_rfl) (fun _ _ _ h => h) (Or.inl ⟨wanted_none rfl, by intro w' hSw; go_split_ands; go_simp⟩) hS0 rfl ?_
        try simp only [Act.put, List.setIfInBounds_toArray, List.set_cons_zero, List.set_cons_succ]
        refine take_ (i := 8) (N := some 27) (v := .pointer (some ⟨g, 0, Option.none⟩)) #[true, true, true, true, true, true, true, true, true, false, false, false, false, false, false, false, false] rfl rfl (by kernel_rfl) (fun _ _ _ h => h) (Or.inl ⟨wanted_none rfl, by intro w' hSw; go_split_ands; go_simp⟩) hS0 rfl ?_
        try simp only [Act.put, List.setIfInBounds_toArray, List.set_cons_zero, List.set_cons_succ]
        refine pure_ (i := 9) (N := some 28) (v := .pointer (some ⟨g, 0, Option.none⟩)) #[true, true, true, true, true, true, true, true, true, true, false, false, false, false, false, false, false] rfl rfl (by kernel_rfl) (fun _ _ _ h => h) (Or.inl ⟨wanted_none rfl, fun w => by go_simp⟩) rfl ?_
        try simp only [Act.put, List.setIfInBounds_toArray, List.set_cons_zero, List.set_cons_succ]
        refine pure_ (i := 10) (N := some 29) (v := .pointer (some ⟨g, 1, Option.none⟩)) #[true, true, true, true, true, true, true, true, true, true, true, false, false, false, false, false, false] rfl rfl (by kernel_rfl) (fun _ _ _ h => h) (Or.inl ⟨wanted_none rfl, fun w => by go_simp⟩) rfl ?_
        try simp only [Act.put, List.setIfInBounds_toArray, List.set_cons_zero, List.set_cons_succ]
        refine take_ (i := 11) (N := some 30) (v := .int .i64 q) #[true, true, true, true, true, true, true, true, true, true, true, true, false, false, false, false, false] rfl rfl (by kernel_rfl) (fun _ _ _ h => h) (Or.inl ⟨wanted_none rfl, by intro w' hSw; go_split_ands; go_simp⟩) hS0 rfl ?_
        try simp only [Act.put, List.setIfInBounds_toArray, List.set_cons_zero, List.set_cons_succ]
        refine pure_ (i := 12) (N := some 31) (v := .int .i64 u) #[true, true, true, true, true, true, true, true, true, true, true, true, true, false, false, false, false] rfl rfl (by kernel_rfl) (fun _ _ _ h => h) (Or.inl ⟨wanted_none rfl, fun w => by rfl⟩) rfl ?_
        try simp only [Act.put, List.setIfInBounds_toArray, List.set_cons_zero, List.set_cons_succ]
        refine pure_ (i := 13) (N := some 32) (v := .int .i64 ((q : Int) + (u : Int))) #[true, true, true, true, true, true, true, true, true, true, true, true, true, true, false, false, false] rfl rfl (by kernel_rfl) (fun _ _ _ h => h) (Or.inl ⟨wanted_none rfl, fun w => by go_simp⟩) rfl ?_
        try simp only [Act.put, List.setIfInBounds_toArray, List.set_cons_zero, List.set_cons_succ]
        refine pure_ (i := 14) (N := some 33) (v := .slice (some ⟨a, q, Option.none⟩) u (cv - q)) #[true, true, true, true, true, true, true, true, true, true, true, true, true, true, true, false, false] rfl rfl (by kernel_rfl) (fun _ _ _ h => h) (Or.inl ⟨wanted_none rfl, fun w => by go_simp⟩) rfl ?_
        try simp only [Act.put, List.setIfInBounds_toArray, List.set_cons_zero, List.set_cons_succ]
        refine one_ (i := 15) (oi := ({ dst := some 34, op := Op.call { callee := Callee.value (Operand.func 50), args := #[Operand.tmp 33], argTypes := #[23] }, type := 23, pos := "wire.go:149", after := #[{ on := 14, ground := Ground.data }], guard := Option.none } : Oper)) (N := some 34) #[true, true, true, true, true, true, true, true, true, true, true, true, true, true, true, true, false] rfl rfl (by kernel_rfl) (by simp) ?_
        intro KK hKK
        refine goes_ Try.func50 (by kernel_rfl) rfl #[.slice (some ⟨a, q, Option.none⟩) u (cv - q)] (wanted_none rfl) rfl rfl (by simp [Act.eval]) ?_
        refine (clone_any (some ⟨a, q, Option.none⟩) u (cv - q) ((zs.drop q).take u) _ (hN5.grew (Keeps.refl None _).drew) hlu (by omega)).mono ?_
        rintro e w6 ⟨v2, rfl, hv2, hk6⟩
        obtain ⟨A2, c2, ev2⟩ := hv2.slice
        rw [hlu] at ev2
        subst ev2
        have hk56 : Keeps None w5 w6 := (Keeps.refl None w5).drew.trans hk6
        have hn6 := hn5.grew hk56
        have fn6 := hn6.free 0
        have gn6 := hn6.cell 0 _ rfl
        refine ⟨_, rfl, hKK.out _ _ (HELD.out _ hk56.of_none) (fun hS1 => ?_)⟩
        try simp only [Act.put, List.setIfInBounds_toArray, List.set_cons_zero, List.set_cons_succ]
        refine one_ (i := 16) (oi := ({ dst := Option.none, op := Op.store 23 (Operand.tmp 1) (Operand.tmp 34), type := 0, pos := "wire.go:149", after := #[{ on := 15, ground := Ground.data }, { on := 15, ground := Ground.chain }, { on := 0, ground := Ground.phase }, { on := 1, ground := Ground.phase }, { on := 2, ground := Ground.phase }, { on := 3, ground := Ground.phase }, { on := 4, ground := Ground.phase }, { on := 5, ground := Ground.phase }, { on := 6, ground := Ground.phase }, { on := 7, ground := Ground.phase }, { on := 8, ground := Ground.phase }, { on := 9, ground := Ground.phase }, { on := 10, ground := Ground.phase }, { on := 11, ground := Ground.phase }, { on := 12, ground := Ground.phase }, { on := 13, ground := Ground.phase }, { on := 14, ground := Ground.phase }, { on := 15, ground := Ground.phase }], guard := Option.none } : Oper)) (N := Option.none) #[true, true, true, true, true, true, true, true, true, true, true, true, true, true, true, true, true] rfl rfl (by kernel_rfl) (by simp) ?_
        intro KK hKK
        refine skip_ (wanted_none rfl) rfl (w1 := w6.setCell ⟨nc, 0, Option.none⟩ (.slice A2 u c2)) (by go_simp) (hKK.out _ _ (HELD.out _ (hk56.of_none.setCell _ _ (fun _ => rfl))) (fun hT1 => ?_))
        try simp only [Act.put, List.setIfInBounds_toArray, List.set_cons_zero, List.set_cons_succ]
        refine done_ (by kernel_rfl) ?_
        have hR6 := hR5.grew hk56
        have k67 : Keeps (One nc) w6 (w6.setCell ⟨nc, 0, Option.none⟩ (.slice A2 u c2)) := (Keeps.refl _ _).setCell _ _ (fun _ => rfl)
        have hR7 := hR6.keeps k67 (fun e => hne e) (fun b e f => hvn b e f)
        have hn7 : Blk (w6.setCell ⟨nc, 0, Option.none⟩ (.slice A2 u c2)) nc 23 [.slice A2 u c2] := hn6.set 0 _
        have hv7 := hv2.keeps k67 (fun b e f => by have : b = nc := f; have := (hv2.lt b e).1; have := hn5.lt; simp at *; omega)
        have hrc7 := k67.cell (hk56.cell hrc5 id) (fun e => hrn e)
        have k57 : Keeps (Two2 g nc) w (w6.setCell ⟨nc, 0, Option.none⟩ (.slice A2 u c2)) := (((hk2.mono (fun k _ e => .inl e)).trans k5.of_none).trans hk56.of_none).trans (k67.mono (fun k _ e => .inr e))
        have hsz : w.heap.size ≤ w5.drew.heap.size := Nat.le_trans hk2.size k5.size
        obtain ⟨w7, hw7⟩ : ∃ w7, w7 = (w6.setCell ⟨nc, 0, Option.none⟩ (.slice A2 u c2)) := ⟨_, rfl⟩
        rw [← hw7] at hR7 hn7 hv7 hrc7 k57 ⊢
        clear hw7 k67
        have e0 := hR7.blk.cell 0 _ rfl
        have e1 := hR7.blk.cell 1 _ rfl
        have e2 := hR7.blk.free 1
        go_wp2_with fail
        have eq1 : (q : Int) + (u : Int) = ((p + (m + u) : Nat) : Int) := by have := HQ.out; omega
        have k78 : Keeps (One g) w7 (w7.setCell ⟨g, 1, Option.none⟩ (.int .i64 ((q : Int) + (u : Int)))) := (Keeps.refl _ _).setCell _ _ (fun _ => rfl)
        have hn8 := hn7.keeps k78 (fun e => hne e.symm)
        have hv8 := (hv7.keeps k78 (fun b e f => by have : b = g := f; have := (hv2.lt b e).1; have := hR5.blk.lt; simp at *; omega)).down hsz
        have hR8 : Rd (w7.setCell ⟨g, 1, Option.none⟩ (.int .i64 ((q : Int) + (u : Int)))) g base (.slice (some ⟨a, 0, Option.none⟩) zs.length cv) zs (p + (m + u)) 0 place :=
          ⟨by have := hR7.blk.set 1 (.int .i64 ((q : Int) + (u : Int))); rw [eq1] at this ⊢; exact this, hR7.row.keeps k78 (fun b e f => hR7.ne b e f), hR7.hb, hR7.ne, by have := HQ.out; omega⟩
        have k8 := k57.trans (k78.mono (fun k _ e => .inl e))
        rw [show (zs.drop q).take u = (zs.drop (p + m)).take u by rw [HQ.out]] at hv8
        go_end0
        rw [HR.out]
        exact .inl ⟨_, m + u, _, hD.out, rfl, hR8, hn8, hv8, k8⟩
    · have hi1 : (zs.length : Int) - (q : Int) < (u : Int) := by omega
      have hD : Hid (bytD zs p = .err 10) := Lib.hid (by unfold bytD; rw [hd]; exact if_neg (by omega))
      have HQ := Lib.hid hq
      clear hd hq
      go_wp2_with fail
      go_quiet (fail)
      go_wp2_with fail
      exact ⟨rfl, by rw [HR.out]; exact .inr ⟨10, q, hD.out, rfl, hR2.drewN _, (hk2.mono (fun k _ e => .inl e)).drewN _⟩⟩
  · have HD := Lib.hid (show BytOne g base v zs p place nc w (.panicked (faultV k)) w2 from .inr ⟨k, p', by unfold bytD; rw [hd], rfl, hR2, hk2.mono (fun k _ e => .inl e)⟩)
    clear hd
    go_wp2_with fail
    exact ⟨rfl, by rw [HR.out]; exact HD.out⟩
end Go.Proofs.Ytnhhmkgcgogddaa
