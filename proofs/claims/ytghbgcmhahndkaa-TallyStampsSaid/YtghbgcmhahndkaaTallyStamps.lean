/- TallyStamps: Less of every two, Max of all, of every list of stamps. No condition. -/
import Derived.Test.YtghbgcmhahndkaaStampOpen
import Derived.Test.YtghbgcmhahndkaaKnown
import Derived.Test.YtghbgcmhahndkaaCopyWide
import Derived.Test.YtghbgcmhahndkaaStCells
namespace Go.Proofs.Ytghbgcmhahndkaa.tallyStamps
open Go.ChangeShapes Go.WideShapes Go.ChangeAt Go.RowKit
open Go.ChangeMaps (open_string shut_string)
set_option linter.unusedVariables false

theorem Try.infoStamp : (Try.prog.info? 23).map (fun i => (i.zero, i.size, i.bytes)) = some (some (.agg #[.int .i64 0, .int .i64 0]), 2, 16) := by kernel_rfl

def LawEnd (w : World) (e : Ending) (w' : World) : Prop := e = .returned (.bool true) ∧ Below w.heap.size w w'

set_option maxRecDepth 100000 in
set_option maxHeartbeats 6400000 in
theorem walk (A : Option Addr) (n cap : Nat) (l : List (Int × Int)) (w : World) (hA : St w A l) (hn : l.length = n) (hr : n * 16 ≤ 140737488351232) (hnil : A = Option.none → cap = 0) :
    Calls Try.prog 11 #[.slice A n cap] w (LawEnd w) := by
  subst hn
  go_enter Try.func11, Try.ntmps11
  go_wp2_with fail
  refine (known_any w).mono ?_
  rintro e w1 ⟨rfl, hk1⟩
  go_wp2_with fail
  go_loopw [3] (fun i wr => ∃ k : Nat, k ≤ l.length ∧ i = .int .i64 k ∧ Keeps None w wr) (fun i _ => l.length - (intOf i).toNat)
  case atStart => exact ⟨0, Nat.zero_le _, rfl, hk1⟩
  case round =>
    clear hk1
    obtain ⟨k, hk, rfl, hK⟩ := hrel
    by_cases hlt : k < l.length
    · go_wp2_with fail
      go_loopw [4] (fun i wr => ∃ j : Nat, j ≤ l.length ∧ j ≤ 40 ∧ i = .int .i64 j ∧ Keeps None w wr) (fun i _ => l.length - (intOf i).toNat)
      case atStart => exact ⟨0, Nat.zero_le _, by omega, rfl, hK⟩
      case round =>
        clear hK
        obtain ⟨j, hj, hj4, rfl, hK⟩ := hrel
        by_cases hlj : j < l.length
        · by_cases hl4 : j < 40
          · obtain ⟨x, hx⟩ : ∃ x, l[k]? = some x := ⟨_, List.getElem?_eq_getElem hlt⟩
            obtain ⟨y, hy⟩ : ∃ y, l[j]? = some y := ⟨_, List.getElem?_eq_getElem hlj⟩
            have hAr := hA.grew hK
            obtain ⟨b, o, rfl, c0, c1⟩ := hAr k _ hx
            obtain ⟨b', o', e1, d0, d1⟩ := hAr j _ hy
            cases e1
            obtain ⟨x1, x2⟩ := x
            obtain ⟨y1, y2⟩ := y
            simp only at c0 c1 d0 d1
            have held : ∀ w', Keeps None wr w' → (Keeps None wr w' ∧ w'.cell? ⟨b, o + k * 2, Option.none⟩ = some (.int .i64 x1) ∧ w'.cell? ⟨b, o + k * 2 + 1, Option.none⟩ = some (.int .i64 x2) ∧ w'.cell? ⟨b, o + j * 2, Option.none⟩ = some (.int .i64 y1) ∧ w'.cell? ⟨b, o + j * 2 + 1, Option.none⟩ = some (.int .i64 y2)) := fun w' h => ⟨h, h.cell c0 id, h.cell c1 id, h.cell d0 id, h.cell d1 id⟩
            have HELD := Lib.hid held
            clear held hx hy
            go_wp2_with fail
            go_region_held3 (fun w' => Keeps None wr w' ∧ w'.cell? ⟨b, o + k * 2, Option.none⟩ = some (.int .i64 x1) ∧ w'.cell? ⟨b, o + k * 2 + 1, Option.none⟩ = some (.int .i64 x2) ∧ w'.cell? ⟨b, o + j * 2, Option.none⟩ = some (.int .i64 y1) ∧ w'.cell? ⟨b, o + j * 2 + 1, Option.none⟩ = some (.int .i64 y2))
              (first | assumption | exact HELD.out _ (Keeps.refl _ _) | exact HELD.out _ (Keeps.drew (Keeps.refl _ _)) | exact HELD.out _ (Keeps.drew (by assumption)) | exact HELD.out _ (by assumption))
              (first
                | (go_at_call 12; refine (less_any _ _ _ _ _).mono ?_; rintro e w2 ⟨rfl, hkz⟩; have hk2 : Keeps None wr w2 := Keeps.trans (by first | assumption | exact And.left (by assumption)) hkz)
                | (go_at_call 41; refine (refless_any _ _ _ _ _).mono ?_; rintro e w3 ⟨rfl, hkz⟩; have hk3 : Keeps None wr w3 := Keeps.trans (by first | assumption | exact And.left (by assumption)) hkz))
            all_goals
              have hkw : Keeps None wr _ := (by assumption : _ ∧ _).1
              have hKw := hK.trans hkw
              go_wp2_with fail
              go_roundw
              case rel => exact ⟨j + 1, by omega, by omega, by go_num, hKw⟩
              case measure => simp [intOf]; omega
          · go_wp2_with fail
            go_roundw
            case rel => exact ⟨k + 1, by omega, by go_num, hK⟩
            case measure => simp [intOf]; omega
        · go_wp2_with fail
          go_roundw
          case rel => exact ⟨k + 1, by omega, by go_num, hK⟩
          case measure => simp [intOf]; omega
    · obtain ⟨i3, hi, hz0, hz1, hz2⟩ := info_parts Try.infoStamp
      obtain ⟨CS, hCS⟩ : ∃ CS : Array Value, CS = madeCells (Value.agg #[.int .i64 0, .int .i64 0]).cells ((l.length + 3) * 2) := ⟨_, rfl⟩
      have hsz : CS.size = (l.length + 3) * 2 := by rw [hCS, size_madeCells]
      have hmk : (Instr.makeSlice 78 (.int .i64 (l.length : Int)) (.int .i64 ((l.length : Int) + 3))).run Try.prog wr = .ok (.slice (some ⟨wr.heap.size, 0, Option.none⟩) l.length (l.length + 3)) (wr.alloc (.cells CS 23)) := by
        have h := run_make (P := Try.prog) wr 78 23 i3 _ Try.underlying78 hi hz0 .i64 .i64 (l.length : Int) ((l.length : Int) + 3) (by omega) (by omega) (by rw [hz2]; omega) (by omega)
        rw [hz1, Int.toNat_natCast, show ((l.length : Int) + 3).toNat = l.length + 3 by omega, ← hCS] at h
        exact h
      clear hCS hi hz0 hz1 hz2
      have hAr := hA.grew (hK.alloc (.cells CS 23))
      obtain ⟨w2, hcp, hk2, hst⟩ : ∃ w2, (∀ ty, (Builtin.copy_ #[78, 78] ty #[.slice (some ⟨wr.heap.size, 0, Option.none⟩) l.length (l.length + 3), .slice A l.length cap]).run Try.prog (wr.alloc (.cells CS 23)) = .ok (goInt l.length) w2) ∧ Keeps None wr w2 ∧ St w2 (some ⟨wr.heap.size, 0, Option.none⟩) l := by
        have hcl := stCells_length l
        cases A with
        | none =>
          have h0 : l = [] := by
            cases l with
            | nil => rfl
            | cons y ys => obtain ⟨b, o, e, _⟩ := hA 0 y rfl; cases e
          subst h0
          refine ⟨wr.alloc (.cells CS 23), fun ty => ?_, (Keeps.refl _ _).alloc _, fun j x hx => by simp at hx⟩
          rw [hnil rfl]
          exact run_copy_nil (P := Try.prog) _ _ _ _ _ ⟨wr.heap.size, 0, Option.none⟩ 0 3 Try.underlying78 (by rw [Option.isSome_iff_exists]; exact ⟨_, Try.sizeSt⟩)
        | some a =>
          refine ⟨(wr.alloc (.cells CS 23)).setRow wr.heap.size (stCells l ++ CS.toList.drop (l.length * 2)).toArray, fun ty => ?_, ((Keeps.refl _ _).alloc _).setRow _ _ (by simp), St.of_blk (Blk.setRow (cs := CS.toList) (heap_alloc_new wr _) _)⟩
          have h := run_copy_wide (P := Try.prog) (wr.alloc (.cells CS 23)) 78 78 ty 23 wr.heap.size 0 l.length (l.length + 3) a l.length cap CS 23 (stCells l) 2 l.length Try.underlying78 Try.sizeSt (heap_alloc_new wr _) (by simp) hcl (fun j v hv => ?_) (by omega) (stCells_one l)
          · simpa [hcl] using h
          · cases l with
            | nil => simp [stCells] at hv
            | cons y ys =>
              obtain ⟨b, o, e, _⟩ := hAr 0 y rfl
              cases e
              exact hAr.src j v hv
      have hK2 := hK.trans hk2
      clear hk2 hsz hAr
      go_wp2_with fail
      refine (max_any _ l.length (l.length + 3) l _ hst rfl (by omega)).mono ?_
      rintro e w3 ⟨rfl, hk3⟩
      have hst3 := hst.grew hk3
      have hK3 := hK2.trans hk3
      have hA3 := hA.grew hK3
      go_wp2_with fail
      refine (refmax_any _ l.length cap l _ hA3 rfl (by omega)).mono ?_
      rintro e w4 ⟨rfl, hk4⟩
      have hst4 := hst3.grew hk4
      have hK4 := hK3.trans hk4
      clear hst hK2 hk3 hst3 hK3 hA3 hk4 hcp hmk hK
      obtain ⟨⟨x1, x2⟩, hX⟩ : ∃ x, x = bestOf l := ⟨_, rfl⟩
      rw [← hX]
      unfold stV
      clear hX
      simp only
      go_wp2_with fail
      clear hlt
      generalize hq0 : wr.heap.size = q0 at hst4 ⊢
      clear hq0
      go_loopw [6] (fun i wr => ∃ k : Nat, k ≤ l.length ∧ i = .int .i64 k ∧ Drew w4 wr) (fun i _ => l.length - (intOf i).toNat)
      case atStart => exact ⟨0, Nat.zero_le _, rfl, Drew.refl _⟩
      case round =>
        obtain ⟨m, hm, rfl, ⟨⟨nd, rfl⟩⟩⟩ := hrel
        by_cases hlm : m < l.length
        · obtain ⟨y, hy⟩ : ∃ y, l[m]? = some y := ⟨_, List.getElem?_eq_getElem hlm⟩
          obtain ⟨b, o, e0, c0, c1⟩ := hst4 m _ hy
          cases e0
          obtain ⟨b', o', rfl, d0, d1⟩ := (hA.grew hK4) m _ hy
          obtain ⟨y1, y2⟩ := y
          simp only [Nat.zero_add] at c0 c1 d0 d1
          clear hy
          go_wp2
          go_quiet (fail)
          go_wp2
          go_roundw
          case rel => exact ⟨m + 1, by omega, by go_num, ⟨_, rfl⟩⟩
          case measure => simp [intOf]; omega
        · go_wp2_with fail
          have hk5 : Keeps None w (w4.drewN nd) := hK4.drewN nd
          refine (max_any Option.none 0 0 [] _ (fun j x hx => by simp at hx) rfl (by omega)).mono ?_
          rintro e w5 ⟨rfl, hk6⟩
          have hK5 := hk5.trans hk6
          rw [show stV (bestOf []) = .agg #[.int .i64 0, .int .i64 0] from rfl]
          go_wp2_with fail
          go_ret
          exact ⟨rfl, hK5.to_below⟩
set_option maxRecDepth 100000 in
theorem lifted (os : Os) (started : os.Started) (H : Type) (enc : TypeId × Value → H) :
    ReturnsInHanded {} Try.checked os 11 .any (Rows.tallyStampsSpec.pre6 enc Try.prog Try.f11 Rows.tallyStampsRow.domain false) (Rows.tallyStampsSpec.post enc Try.prog Try.f11 false true false false) := by
  refine returnsInHanded_of_change_sized (C := Try.checked) Try.own started (by kernel_rfl) Try.func11
    (ChangeSpec.witness6 (enc := enc) (C := Try.checked) false ⟨#[], #[.slice none 0 0], []⟩ 8 (by kernel_rfl) (by kernel_rfl) (by kernel_rfl) (by kernel_rfl)) ?_
  intro W base args ds gs before hval0 hW hcnd hsz0 _
  have hsz : (DataW.weightsEach Try.prog (Try.f11.params.toList ++ Rows.tallyStampsSpec.plain.varTypes Try.prog) (ds ++ gs)).all (· ≤ reachBytes) = true := hsz0
  have hval : ∀ (j : Nat) t v, Try.f11.params[j]? = some t → args[j]? = some v → Value.okWide Try.prog W .any base t v := hval0
  have hW' := hW
  obtain ⟨p, q, hA0, hV, rfl, hfz, hnd⟩ := hW
  have hA : DataW.TrodAll enc Try.prog W 0 (fun _ => true) true Try.f11.params.toList args.toList ds p := hA0
  rw [Try.params11] at hA hval hsz
  obtain ⟨v0, vs0, d0, ds0, p0, q0, hargs, rfl, rfl, h0, r0⟩ := trodAll_cons hA
  obtain ⟨rfl, rfl, rfl⟩ := trodAll_nil r0
  obtain rfl : args = #[v0] := by cases args; simp_all
  obtain ⟨rfl, rfl⟩ := trodVars_none hV
  have k0 := h0
  have lt0 : ∀ x ∈ p0, x.block < W.heap.size := by obtain ⟨m, hm⟩ := k0; exact DataW.trod_lt m _ _ _ hm
  obtain ⟨a0, len0, cap0, rfl⟩ := okWide_slice Try.underlying78 (hval 0 78 v0 rfl rfl)
  obtain ⟨z0, n0, w0, y0⟩ := open_stamps hsz (j := 0) rfl rfl h0
  clear hA0 hval0 hsz0 hsz
  refine (walk a0 len0 cap0 z0 W w0 n0 y0.2.1 y0.2.2).mono fun e W' ⟨he, bel⟩ => ?_
  subst he
  exact ⟨_, rfl, _, _, _, [], _, [], hW', trodAll_mk1 (shut_bool Try.underlying4 _), (trodAll_cons_mk (Below.trod Try.laidOut (by kernel_rfl) (of_decide_eq_true (by kernel_rfl)) k0 bel lt0) trodAll_mk0), rfl, bel.frame _, fun h => by cases h⟩

theorem over : Rows.tallyStampsRow.holds Try.pinned (OpenSpec.ofChange Rows.tallyStampsSpec) :=
  OpenClaim.holds_of_wide 11 Try.f11 rfl rfl rfl rfl rfl rfl rfl ⟨rfl, rfl, rfl, rfl, rfl⟩ rfl rfl rfl rfl rfl (by kernel_rfl) Try.func11 (by kernel_rfl)
    (of_decide_eq_true (by kernel_rfl)) (by unfold Func.isWrapper; first | (rw [if_pos (by decide +kernel)]; kernel_rfl) | (rw [if_neg (by decide +kernel)]; exact ⟨rfl, rfl⟩))
    (fun os started H enc _ => lifted os started H enc)
end Go.Proofs.Ytghbgcmhahndkaa.tallyStamps
namespace Go.Proofs.Ytghbgcmhahndkaa
/-- The row, under a short name, for the claim. -/
theorem tallyStamps_holds : Rows.TallyStampsSaid := tallyStamps.over
end Go.Proofs.Ytghbgcmhahndkaa
