/- TallyNames: a closed sentence: stamps are compared, Less and Max. -/
import Derived.Test.YtghbgcmhahndkaaOpen
import Derived.Test.YtghbgcmhahndkaaStamp
import Derived.Deep.RegionHeld3
namespace Go.Proofs.Ytghbgcmhahndkaa.tallyNames
open Go.ChangeShapes Go.WideShapes Go.ChangeAt Go.RowKit
open Go.ChangeMaps (open_string shut_string)
set_option linter.unusedVariables false

def LawEnd (w : World) (e : Ending) (w' : World) : Prop := e = .returned (.bool true) ∧ Below w.heap.size w w'

set_option maxRecDepth 100000 in
set_option maxHeartbeats 1600000 in
theorem walk (w : World) : Calls Try.prog 3 #[] w (LawEnd w) := by
  obtain ⟨w1, ew1⟩ : ∃ w1, w1 = (w.alloc (.cells #[.int .i64 2, .int .i64 1] 23)).alloc (.cells #[.int .i64 2, .int .i64 3] 23) := ⟨_, rfl⟩
  have hK : Keeps None w w1 := by rw [ew1]; exact ((Keeps.refl _ _).alloc _).alloc _
  have ha : Blk w1 w.heap.size 23 [.int .i64 2, .int .i64 1] := by rw [ew1]; exact (Blk.new w _ _).alloc _
  have hb : Blk w1 (w.heap.size + 1) 23 [.int .i64 2, .int .i64 3] := by
    rw [ew1]
    have := Blk.new (w.alloc (.cells #[.int .i64 2, .int .i64 1] 23)) 23 [.int .i64 2, .int .i64 3]
    rwa [World.size_alloc] at this
  have held : ∀ w', Keeps None w1 w' → (Keeps None w1 w' ∧ w'.cell? ⟨w.heap.size, 0, Option.none⟩ = some (.int .i64 2) ∧ w'.cell? ⟨w.heap.size, 1, Option.none⟩ = some (.int .i64 1) ∧ w'.cell? ⟨w.heap.size + 1, 0, Option.none⟩ = some (.int .i64 2) ∧ w'.cell? ⟨w.heap.size + 1, 1, Option.none⟩ = some (.int .i64 3)) :=
    fun w' h => ⟨h, (ha.grew h).cell 0 _ rfl, (ha.grew h).cell 1 _ rfl, (hb.grew h).cell 0 _ rfl, (hb.grew h).cell 1 _ rfl⟩
  have EW := Lib.hid ew1
  have HELD := Lib.hid held
  have hst : ∀ w', Keeps None w1 w' → St (w'.alloc (.cells #[.int .i64 2, .int .i64 1, .int .i64 2, .int .i64 3, .int .i64 2, .int .i64 1] 23)) (some ⟨w'.heap.size, 0, Option.none⟩) [(2, 1), (2, 3), (2, 1)] := by
    intro w' h j x hx
    have hB := Blk.new w' 23 [.int .i64 2, .int .i64 1, .int .i64 2, .int .i64 3, .int .i64 2, .int .i64 1]
    refine ⟨_, _, rfl, ?_⟩
    rw [Nat.zero_add]
    have hj : j < 3 := by have := (List.getElem?_eq_some_iff.1 hx).1; simpa using this
    rcases (by omega : j = 0 ∨ j = 1 ∨ j = 2) with rfl | rfl | rfl <;> (simp at hx; subst hx; exact ⟨hB.cell _ _ rfl, hB.cell _ _ rfl⟩)
  have HST := Lib.hid hst
  have BEST : stV (bestOf [(2, 1), (2, 3), (2, 1)]) = .agg #[.int .i64 2, .int .i64 3] := rfl
  clear ew1 held hst ha hb
  go_enter Try.func3, Try.ntmps3
  go_wp2_with fail
  rw [← EW.out]
  go_region_held3 (fun w' => Keeps None w1 w' ∧ w'.cell? ⟨w.heap.size, 0, Option.none⟩ = some (.int .i64 2) ∧ w'.cell? ⟨w.heap.size, 1, Option.none⟩ = some (.int .i64 1) ∧ w'.cell? ⟨w.heap.size + 1, 0, Option.none⟩ = some (.int .i64 2) ∧ w'.cell? ⟨w.heap.size + 1, 1, Option.none⟩ = some (.int .i64 3))
    (first | assumption | exact HELD.out _ (Keeps.refl _ _) | exact HELD.out _ (Keeps.drew (Keeps.refl _ _)) | exact HELD.out _ (Keeps.drew (by assumption)) | exact HELD.out _ (Keeps.alloc (by assumption) _) | exact HELD.out _ (by assumption) | exact HELD.out _ (Keeps.drew (And.left (by assumption))) | exact HELD.out _ (Keeps.alloc (And.left (by assumption)) _))
    (first
      | (go_at_call 12; refine (less_any _ _ _ _ _).mono ?_; rintro e w2 ⟨rfl, hk⟩; have hk2 : Keeps None w1 w2 := Keeps.trans (by first | assumption | exact And.left (by assumption)) hk)
      | (go_at_call 13; refine (max_any _ 3 3 _ _ (HST.out _ (by first | assumption | exact And.left (by assumption))) rfl (by omega)).mono ?_; rintro e w2 ⟨rfl, hk⟩; rw [BEST]; have hk2 : Keeps None w1 w2 := Keeps.trans (Keeps.alloc (by first | assumption | exact And.left (by assumption)) _) hk))
  all_goals
    go_wp2
    go_ret
    exact ⟨ret_bool (by decide), (hK.trans (by first | assumption | exact And.left (by assumption))).to_below⟩

set_option maxRecDepth 100000 in
theorem lifted (os : Os) (started : os.Started) (H : Type) (enc : TypeId × Value → H) :
    ReturnsInHanded {} Try.checked os 3 .any (Rows.tallyNamesSpec.pre6 enc Try.prog Try.f3 Rows.tallyNamesRow.domain false) (Rows.tallyNamesSpec.post enc Try.prog Try.f3 false true false false) := by
  refine returnsInHanded_of_change_sized (C := Try.checked) Try.own started (by kernel_rfl) Try.func3
    (ChangeSpec.witness6 (enc := enc) (C := Try.checked) false ⟨#[], #[], []⟩ 8 (by kernel_rfl) (by kernel_rfl) (by kernel_rfl) (by kernel_rfl)) ?_
  intro W base args ds gs before hval0 hW hcnd hsz0 _
  have hsz : (DataW.weightsEach Try.prog (Try.f3.params.toList ++ Rows.tallyNamesSpec.plain.varTypes Try.prog) (ds ++ gs)).all (· ≤ reachBytes) = true := hsz0
  have hval : ∀ (j : Nat) t v, Try.f3.params[j]? = some t → args[j]? = some v → Value.okWide Try.prog W .any base t v := hval0
  have hW' := hW
  obtain ⟨p, q, hA0, hV, rfl, hfz, hnd⟩ := hW
  have hA : DataW.TrodAll enc Try.prog W 0 (fun _ => true) true Try.f3.params.toList args.toList ds p := hA0
  rw [Try.params3] at hA hval hsz
  obtain ⟨rfl, rfl, rfl⟩ := trodAll_none hA
  obtain ⟨rfl, rfl⟩ := trodVars_none hV
  clear hA0 hval0 hsz0 hsz
  refine (walk W).mono fun e W' ⟨he, bel⟩ => ?_
  subst he
  exact ⟨_, rfl, _, _, _, [], _, [], hW', trodAll_mk1 (shut_bool Try.underlying4 _), trodAll_mk0, rfl, bel.frame _, fun h => by cases h⟩

theorem over : Rows.tallyNamesRow.holds Try.pinned (OpenSpec.ofChange Rows.tallyNamesSpec) :=
  OpenClaim.holds_of_wide 3 Try.f3 rfl rfl rfl rfl rfl rfl rfl ⟨rfl, rfl, rfl, rfl, rfl⟩ rfl rfl rfl rfl rfl (by kernel_rfl) Try.func3 (by kernel_rfl)
    (of_decide_eq_true (by kernel_rfl)) (by unfold Func.isWrapper; first | (rw [if_pos (by decide +kernel)]; kernel_rfl) | (rw [if_neg (by decide +kernel)]; exact ⟨rfl, rfl⟩))
    (fun os started H enc _ => lifted os started H enc)
end Go.Proofs.Ytghbgcmhahndkaa.tallyNames
namespace Go.Proofs.Ytghbgcmhahndkaa
/-- The row, under a short name, for the claim. -/
theorem tallyNames_holds : Rows.TallyNamesSaid := tallyNames.over
end Go.Proofs.Ytghbgcmhahndkaa
