/- The reader's deferred closure: it recovers a fault, or finds nothing. -/
import Derived.Test.YtnhhmkgcgogddaaRNum
import Derived.Test.YtnhhmkgcgogddaaWLast
import Derived.Defers
import Derived.Recover
namespace Go.Proofs.Ytnhhmkgcgogddaa
open Go.RowKit Go.Proofs.YtnhhmkgcgogddaaW.PrintLast
set_option linter.unusedVariables false

theorem wanted_none {o : Oper} {y : Nat → Option Bool} (h : o.guard = Option.none) : Region.wanted o y = true := by simp [Region.wanted, h]

set_option maxRecDepth 100000 in
set_option maxHeartbeats 1600000 in
theorem catch_idle (a b c : Addr) (w : World) :
    CallsD Try.prog 72 #[.pointer (some a), .pointer (some b), .pointer (some c)] .returning w fun e u' w' => e = .returned (.tuple #[]) ∧ u' = .returning ∧ w' = w := by
  refine callsD_of_wpS Try.func72 rfl fun c₀ cs hu => ?_
  apply wpS_seq
  apply wpS_region
  simp [wpOpsS, go_sem, recoverD, hu, Try.ntmps72, Exit.thenS]
  refine wpS_of_wp ?_
  simp only [show Array.replicate 22 undef = #[undef, undef, undef, undef, undef, undef, undef, undef, undef, undef, undef, undef, undef, undef, undef, undef, undef, undef, undef, undef, undef, undef] from rfl, List.setIfInBounds_toArray, List.set_cons_succ, List.set_cons_zero, List.append_toArray, List.cons_append, List.nil_append]
  go_wp2_with fail
  cases c₀
  simp_all [bodyPostS, results, Try.results72]

set_option maxRecDepth 100000 in
set_option maxHeartbeats 1600000 in
theorem catch_fault (bc rc kc g t : Nat) (p k at0 e0 pl : Int) (kb : Bool) (v : Value) (w : World) (hbc : w.cell? ⟨bc, 0, Option.none⟩ = some (.int .i64 p)) (hrc : w.cell? ⟨rc, 0, Option.none⟩ = some (.pointer (some ⟨g, 0, Option.none⟩)))
    (hg : Blk w g 87 [v, .int .i64 at0, .int .i64 e0, .int .i64 pl]) (hkc : Blk w kc t [.bool kb]) (hn1 : bc ≠ g) (hn2 : rc ≠ g) (hn3 : kc ≠ g) :
    CallsD Try.prog 72 #[.pointer (some ⟨bc, 0, Option.none⟩), .pointer (some ⟨rc, 0, Option.none⟩), .pointer (some ⟨kc, 0, Option.none⟩)] (.panicking (faultV k)) w fun e u' w' =>
      e = .returned (.tuple #[]) ∧ u' = .panicking [{ v := .iface 98 (.agg #[.int .i64 k]), recovered := true }] ∧ Blk w' g 87 [v, .int .i64 p, .int .i64 k, .int .i64 p] ∧ Blk w' kc t [.bool false] ∧ Keeps (Two2 g kc) w w' := by
  unfold faultV
  have hta : ∀ w : World, (Instr.typeAssert (.iface 98 (.agg #[.int .i64 k])) 20 98 true).run Try.prog w = .ok (.tuple #[.agg #[.int .i64 k], .bool true]) w := fun w => by kernel_rfl
  refine callsD_of_wpS Try.func72 rfl fun c₀ cs hu => ?_
  apply wpS_seq
  apply wpS_region
  simp [wpOpsS, go_sem, recoverD, hu, Try.ntmps72, Exit.thenS]
  refine wpS_of_wp ?_
  simp only [show Array.replicate 22 undef = #[undef, undef, undef, undef, undef, undef, undef, undef, undef, undef, undef, undef, undef, undef, undef, undef, undef, undef, undef, undef, undef, undef] from rfl, List.setIfInBounds_toArray, List.set_cons_succ, List.set_cons_zero, List.append_toArray, List.cons_append, List.nil_append]
  go_wp2_with fail
  have hx := (Blk.new w 98 [.int .i64 k]).cell 0 _ rfl
  have kw : Keeps None w (w.alloc (.cells #[.int .i64 k] 98)) := (Keeps.refl _ _).alloc _
  have hxg : w.heap.size ≠ g := by have := hg.lt; omega
  obtain ⟨n, hn⟩ : ∃ n, n = w.heap.size := ⟨_, rfl⟩
  rw [← hn] at hx hxg ⊢
  obtain ⟨w1, hw1⟩ : ∃ w1, w1 = w.alloc (.cells #[.int .i64 k] 98) := ⟨_, rfl⟩
  have hx : w1.cell? ⟨n, 0, Option.none⟩ = some (.int .i64 k) := by rw [hw1]; exact hx
  rw [← hw1] at kw ⊢
  have hbc1 := kw.cell hbc id
  have hrc1 := kw.cell hrc id
  have hg1 := hg.grew kw
  have hkc1 := hkc.grew kw
  have held : ∀ w', Keeps (One g) w1 w' → (w'.cell? ⟨rc, 0, Option.none⟩ = some (.pointer (some ⟨g, 0, Option.none⟩)) ∧ w'.cell? ⟨bc, 0, Option.none⟩ = some (.int .i64 p) ∧ w'.cell? ⟨n, 0, Option.none⟩ = some (.int .i64 k)) := fun w' h => ⟨h.cell hrc1 (fun e => hn2 e), h.cell hbc1 (fun e => hn1 e), h.cell hx (fun e => hxg e)⟩
  have HELD := Lib.hid held
  have KA : Keeps (One g) w1 (w1.drew.setCell ⟨g, 1, Option.none⟩ (.int .i64 p)) := (Keeps.refl _ _).drew.setCell _ _ (fun _ => rfl)
  have KB : Keeps (One g) w1 ((w1.drew.setCell ⟨g, 1, Option.none⟩ (.int .i64 p)).setCell ⟨g, 2, Option.none⟩ (.int .i64 k)) := KA.setCell _ _ (fun _ => rfl)
  have KC : Keeps (One g) w1 (((w1.drew.setCell ⟨g, 1, Option.none⟩ (.int .i64 p)).setCell ⟨g, 2, Option.none⟩ (.int .i64 k)).setCell ⟨g, 3, Option.none⟩ (.int .i64 p)) := KB.setCell _ _ (fun _ => rfl)
  have hgC : Blk (((w1.drew.setCell ⟨g, 1, Option.none⟩ (.int .i64 p)).setCell ⟨g, 2, Option.none⟩ (.int .i64 k)).setCell ⟨g, 3, Option.none⟩ (.int .i64 p)) g 87 [v, .int .i64 p, .int .i64 k, .int .i64 p] := (((hg1.grew (Keeps.refl _ _).drew).set 1 _).set 2 _).set 3 _
  have hkC := hkc1.keeps KC (fun e => hn3 e)
  have f1 := hg1.free 1
  have f2 := hg1.free 2
  have f3 := hg1.free 3
  have g1 := hg1.cell 1 _ rfl
  have g2 := hg1.cell 2 _ rfl
  have g3 := hg1.cell 3 _ rfl
  clear held hn hw1 hbc hrc
  refine start_ (ds := []) (S := (fun w' => w'.cell? ⟨rc, 0, Option.none⟩ = some (.pointer (some ⟨g, 0, Option.none⟩)) ∧ w'.cell? ⟨bc, 0, Option.none⟩ = some (.int .i64 p) ∧ w'.cell? ⟨n, 0, Option.none⟩ = some (.int .i64 k))) #[false, false, false, false, false, false, false, false, false, false, false, false, false, false, false, false] (by kernel_rfl) rfl rfl (HELD.out _ (Keeps.refl _ _).drew) (fun hS0 => ?_)
  refine take_ (i := 0) (N := some 12) (v := .pointer (some ⟨g, 0, Option.none⟩)) #[true, false, false, false, false, false, false, false, false, false, false, false, false, false, false, false] rfl rfl (by kernel_rfl) (fun _ _ _ h => h) (Or.inl ⟨wanted_none rfl, by intro w' hSw; go_split_ands; go_simp⟩) hS0 rfl ?_
  try simp only [Act.put, List.setIfInBounds_toArray, List.set_cons_zero, List.set_cons_succ]
  refine take_ (i := 1) (N := some 13) (v := .pointer (some ⟨g, 0, Option.none⟩)) #[true, true, false, false, false, false, false, false, false, false, false, false, false, false, false, false] rfl rfl (by kernel_rfl) (fun _ _ _ h => h) (Or.inl ⟨wanted_none rfl, by intro w' hSw; go_split_ands; go_simp⟩) hS0 rfl ?_
  try simp only [Act.put, List.setIfInBounds_toArray, List.set_cons_zero, List.set_cons_succ]
  refine take_ (i := 2) (N := some 14) (v := .pointer (some ⟨g, 0, Option.none⟩)) #[true, true, true, false, false, false, false, false, false, false, false, false, false, false, false, false] rfl rfl (by kernel_rfl) (fun _ _ _ h => h) (Or.inl ⟨wanted_none rfl, by intro w' hSw; go_split_ands; go_simp⟩) hS0 rfl ?_
  try simp only [Act.put, List.setIfInBounds_toArray, List.set_cons_zero, List.set_cons_succ]
  refine take_ (i := 3) (N := some 15) (v := .int .i64 p) #[true, true, true, true, false, false, false, false, false, false, false, false, false, false, false, false] rfl rfl (by kernel_rfl) (fun _ _ _ h => h) (Or.inl ⟨wanted_none rfl, by intro w' hSw; go_split_ands; go_simp⟩) hS0 rfl ?_
  try simp only [Act.put, List.setIfInBounds_toArray, List.set_cons_zero, List.set_cons_succ]
  refine pure_ (i := 4) (N := some 16) (v := .pointer (some ⟨n, 0, Option.none⟩)) #[true, true, true, true, true, false, false, false, false, false, false, false, false, false, false, false] rfl rfl (by kernel_rfl) (fun _ _ _ h => h) (Or.inl ⟨wanted_none rfl, fun w => by go_simp⟩) rfl ?_
  try simp only [Act.put, List.setIfInBounds_toArray, List.set_cons_zero, List.set_cons_succ]
  refine take_ (i := 5) (N := some 17) (v := .int .i64 k) #[true, true, true, true, true, true, false, false, false, false, false, false, false, false, false, false] rfl rfl (by kernel_rfl) (fun _ _ _ h => h) (Or.inl ⟨wanted_none rfl, by intro w' hSw; go_split_ands; go_simp⟩) hS0 rfl ?_
  try simp only [Act.put, List.setIfInBounds_toArray, List.set_cons_zero, List.set_cons_succ]
  refine take_ (i := 6) (N := some 18) (v := .int .i64 p) #[true, true, true, true, true, true, true, false, false, false, false, false, false, false, false, false] rfl rfl (by kernel_rfl) (fun _ _ _ h => h) (Or.inl ⟨wanted_none rfl, by intro w' hSw; go_split_ands; go_simp⟩) hS0 rfl ?_
  try simp only [Act.put, List.setIfInBounds_toArray, List.set_cons_zero, List.set_cons_succ]
  refine pure_ (i := 7) (N := some 19) (v := .pointer (some ⟨g, 0, Option.none⟩)) #[true, true, true, true, true, true, true, true, false, false, false, false, false, false, false, false] rfl rfl (by kernel_rfl) (fun _ _ _ h => h) (Or.inl ⟨wanted_none rfl, fun w => by go_simp⟩) rfl ?_
  try simp only [Act.put, List.setIfInBounds_toArray, List.set_cons_zero, List.set_cons_succ]
  refine pure_ (i := 8) (N := some 20) (v := .pointer (some ⟨g, 1, Option.none⟩)) #[true, true, true, true, true, true, true, true, true, false, false, false, false, false, false, false] rfl rfl (by kernel_rfl) (fun _ _ _ h => h) (Or.inl ⟨wanted_none rfl, fun w => by go_simp⟩) rfl ?_
  try simp only [Act.put, List.setIfInBounds_toArray, List.set_cons_zero, List.set_cons_succ]
  refine one_ (i := 9) (oi := ({ dst := Option.none, op := Op.store 3 (Operand.tmp 20) (Operand.tmp 15), type := 0, pos := "wire.go:79", after := #[{ on := 8, ground := Ground.data }, { on := 3, ground := Ground.data }, { on := 0, ground := Ground.phase }, { on := 1, ground := Ground.phase }, { on := 2, ground := Ground.phase }, { on := 3, ground := Ground.phase }, { on := 4, ground := Ground.textOnly Departure.lateStores }, { on := 5, ground := Ground.textOnly Departure.lateStores }, { on := 6, ground := Ground.phase }], guard := Option.none } : Oper)) (N := Option.none) #[true, true, true, true, true, true, true, true, true, true, false, false, false, false, false, false] rfl rfl (by kernel_rfl) (by simp) ?_
  intro KK hKK
  refine skip_ (wanted_none rfl) rfl (w1 := (w1.drew.setCell ⟨g, 1, Option.none⟩ (.int .i64 p))) (by go_simp) (hKK.out _ _ (HELD.out _ KA) (fun hT1 => ?_))
  try simp only [Act.put, List.setIfInBounds_toArray, List.set_cons_zero, List.set_cons_succ]
  refine pure_ (i := 10) (N := some 21) (v := .pointer (some ⟨g, 0, Option.none⟩)) #[true, true, true, true, true, true, true, true, true, true, true, false, false, false, false, false] rfl rfl (by kernel_rfl) (fun _ _ _ h => h) (Or.inl ⟨wanted_none rfl, fun w => by go_simp⟩) rfl ?_
  try simp only [Act.put, List.setIfInBounds_toArray, List.set_cons_zero, List.set_cons_succ]
  refine pure_ (i := 11) (N := some 22) (v := .pointer (some ⟨g, 2, Option.none⟩)) #[true, true, true, true, true, true, true, true, true, true, true, true, false, false, false, false] rfl rfl (by kernel_rfl) (fun _ _ _ h => h) (Or.inl ⟨wanted_none rfl, fun w => by go_simp⟩) rfl ?_
  try simp only [Act.put, List.setIfInBounds_toArray, List.set_cons_zero, List.set_cons_succ]
  refine one_ (i := 12) (oi := ({ dst := Option.none, op := Op.store 39 (Operand.tmp 22) (Operand.tmp 17), type := 0, pos := "wire.go:79", after := #[{ on := 11, ground := Ground.data }, { on := 5, ground := Ground.data }, { on := 9, ground := Ground.chain }, { on := 0, ground := Ground.phase }, { on := 1, ground := Ground.phase }, { on := 2, ground := Ground.phase }, { on := 3, ground := Ground.phase }, { on := 4, ground := Ground.phase }, { on := 5, ground := Ground.phase }, { on := 6, ground := Ground.phase }, { on := 7, ground := Ground.phase }, { on := 8, ground := Ground.phase }, { on := 9, ground := Ground.phase }], guard := Option.none } : Oper)) (N := Option.none) #[true, true, true, true, true, true, true, true, true, true, true, true, true, false, false, false] rfl rfl (by kernel_rfl) (by simp) ?_
  intro KK hKK
  refine skip_ (wanted_none rfl) rfl (w1 := ((w1.drew.setCell ⟨g, 1, Option.none⟩ (.int .i64 p)).setCell ⟨g, 2, Option.none⟩ (.int .i64 k))) (by go_simp) (hKK.out _ _ (HELD.out _ KB) (fun hT2 => ?_))
  try simp only [Act.put, List.setIfInBounds_toArray, List.set_cons_zero, List.set_cons_succ]
  refine pure_ (i := 13) (N := some 23) (v := .pointer (some ⟨g, 0, Option.none⟩)) #[true, true, true, true, true, true, true, true, true, true, true, true, true, true, false, false] rfl rfl (by kernel_rfl) (fun _ _ _ h => h) (Or.inl ⟨wanted_none rfl, fun w => by go_simp⟩) rfl ?_
  try simp only [Act.put, List.setIfInBounds_toArray, List.set_cons_zero, List.set_cons_succ]
  refine pure_ (i := 14) (N := some 24) (v := .pointer (some ⟨g, 3, Option.none⟩)) #[true, true, true, true, true, true, true, true, true, true, true, true, true, true, true, false] rfl rfl (by kernel_rfl) (fun _ _ _ h => h) (Or.inl ⟨wanted_none rfl, fun w => by go_simp⟩) rfl ?_
  try simp only [Act.put, List.setIfInBounds_toArray, List.set_cons_zero, List.set_cons_succ]
  refine one_ (i := 15) (oi := ({ dst := Option.none, op := Op.store 3 (Operand.tmp 24) (Operand.tmp 18), type := 0, pos := "wire.go:79", after := #[{ on := 14, ground := Ground.data }, { on := 6, ground := Ground.data }, { on := 12, ground := Ground.chain }, { on := 0, ground := Ground.phase }, { on := 1, ground := Ground.phase }, { on := 2, ground := Ground.phase }, { on := 3, ground := Ground.phase }, { on := 4, ground := Ground.phase }, { on := 5, ground := Ground.phase }, { on := 6, ground := Ground.phase }, { on := 7, ground := Ground.phase }, { on := 8, ground := Ground.phase }, { on := 9, ground := Ground.phase }, { on := 10, ground := Ground.phase }, { on := 11, ground := Ground.phase }, { on := 12, ground := Ground.phase }], guard := Option.none } : Oper)) (N := Option.none) #[true, true, true, true, true, true, true, true, true, true, true, true, true, true, true, true] rfl rfl (by kernel_rfl) (by simp) ?_
  intro KK hKK
  refine skip_ (wanted_none rfl) rfl (w1 := (((w1.drew.setCell ⟨g, 1, Option.none⟩ (.int .i64 p)).setCell ⟨g, 2, Option.none⟩ (.int .i64 k)).setCell ⟨g, 3, Option.none⟩ (.int .i64 p))) (by go_simp) (hKK.out _ _ (HELD.out _ KC) (fun hT3 => ?_))
  try simp only [Act.put, List.setIfInBounds_toArray, List.set_cons_zero, List.set_cons_succ]
  refine done_ (by kernel_rfl) ?_
  have fk := hkC.free 0
  have gk := hkC.cell 0 _ rfl
  have hend : Blk ((((w1.drew.setCell ⟨g, 1, Option.none⟩ (.int .i64 p)).setCell ⟨g, 2, Option.none⟩ (.int .i64 k)).setCell ⟨g, 3, Option.none⟩ (.int .i64 p)).setCell ⟨kc, 0, Option.none⟩ (.bool false)) g 87 [v, .int .i64 p, .int .i64 k, .int .i64 p] := hgC.other _ _ (fun e => hn3 e.symm)
  have hend2 : Blk ((((w1.drew.setCell ⟨g, 1, Option.none⟩ (.int .i64 p)).setCell ⟨g, 2, Option.none⟩ (.int .i64 k)).setCell ⟨g, 3, Option.none⟩ (.int .i64 p)).setCell ⟨kc, 0, Option.none⟩ (.bool false)) kc t [.bool false] := hkC.set 0 _
  have hend3 : Keeps (Two2 g kc) w ((((w1.drew.setCell ⟨g, 1, Option.none⟩ (.int .i64 p)).setCell ⟨g, 2, Option.none⟩ (.int .i64 k)).setCell ⟨g, 3, Option.none⟩ (.int .i64 p)).setCell ⟨kc, 0, Option.none⟩ (.bool false)) := (kw.of_none.trans (KC.mono (fun k _ e => .inl e))).setCell _ _ (fun _ => .inr rfl)
  obtain ⟨w4, hw4⟩ : ∃ w4, w4 = (((w1.drew.setCell ⟨g, 1, Option.none⟩ (.int .i64 p)).setCell ⟨g, 2, Option.none⟩ (.int .i64 k)).setCell ⟨g, 3, Option.none⟩ (.int .i64 p)) := ⟨_, rfl⟩
  rw [← hw4] at fk gk hend hend2 hend3 ⊢
  clear hw4
  go_wp2_with fail
  simp only [bodyPostS]
  exact ⟨trivial, _, rfl, _, results_none rfl _ _ _, rfl, rfl, hend, hend2, hend3⟩
end Go.Proofs.Ytnhhmkgcgogddaa
