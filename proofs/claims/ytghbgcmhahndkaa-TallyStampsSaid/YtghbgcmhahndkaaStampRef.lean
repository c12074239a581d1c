/- The reference's Less and Max of stamps. -/
import Derived.Test.YtghbgcmhahndkaaStamp
import Derived.Deep.RegionHeld3
namespace Go.Proofs.Ytghbgcmhahndkaa
open Go.RowKit

set_option maxRecDepth 100000 in
set_option maxHeartbeats 1600000 in
theorem refless_any (a1 a2 b1 b2 : Int) (w : World) :
    Calls Try.prog 41 #[.agg #[.int .i64 a1, .int .i64 a2], .agg #[.int .i64 b1, .int .i64 b2]] w (LessEnd (a1, a2) (b1, b2) w) := by
  have hK : Keeps None w ((w.alloc (.cells #[.int .i64 a1, .int .i64 a2] 23)).alloc (.cells #[.int .i64 b1, .int .i64 b2] 23)) := ((Keeps.refl _ _).alloc _).alloc _
  by_cases h1 : a1 < b1
  · have E : lessF (a1, a2) (b1, b2) = true := by simp [lessF, h1]
    unfold LessEnd
    rw [E]
    clear E
    go_enter Try.func41, Try.ntmps41
    go_wp2
    go_ret
    exact ⟨rfl, hK⟩
  · by_cases h2 : a1 = b1
    · subst h2
      have E : lessF (a1, a2) (a1, b2) = decide (a2 < b2) := by simp [lessF]
      unfold LessEnd
      rw [E]
      clear E h1
      go_enter Try.func41, Try.ntmps41
      go_wp2
      go_ret
      exact ⟨rfl, hK⟩
    · have E : lessF (a1, a2) (b1, b2) = false := by simp [lessF, h1, h2]
      obtain ⟨t1, t2⟩ := test_ne h2
      unfold LessEnd
      rw [E]
      clear E
      go_enter Try.func41, Try.ntmps41
      go_wp2
      go_ret
      exact ⟨rfl, hK⟩


set_option maxRecDepth 100000 in
set_option maxHeartbeats 1600000 in
theorem refmax_any (A : Option Addr) (n cap : Nat) (l : List (Int × Int)) (w : World) (hA : St w A l) (hn : l.length = n) (hr : n ≤ 140737488351232) :
    Calls Try.prog 42 #[.slice A n cap] w (fun e w' => e = .returned (stV (bestOf l)) ∧ Keeps None w w') := by
  subst hn
  have hz := Blk.new w 23 [.int .i64 0, .int .i64 0]
  have f0 := hz.free 0
  have f1 := hz.free 1
  have g0 := hz.cell 0 _ rfl
  have g1 := hz.cell 1 _ rfl
  by_cases h0 : l.length = 0
  · have e0 : l = [] := List.eq_nil_of_length_eq_zero h0
    subst e0
    go_enter Try.func42, Try.ntmps42
    go_wp2_with fail
    refine bodyPost_ret (results_cell_row rfl _ _ w.heap.size 23 #[.int .i64 0, .int .i64 0] (0, 0) _ rfl hz.raw Try.underlying23 rfl Try.sizeSt2) rfl ?_
    exact ⟨rfl, (Keeps.refl _ _).alloc _⟩
  · obtain ⟨y, hy⟩ : ∃ y, l[0]? = some y := ⟨_, List.getElem?_eq_getElem (by omega)⟩
    have hA0 := hA.grew ((Keeps.refl None w).alloc (.cells #[.int .i64 0, .int .i64 0] 23))
    obtain ⟨b, o, rfl, c0, c1⟩ := hA0 0 _ hy
    obtain ⟨y1, y2⟩ := y
    simp only [Nat.zero_mul, Nat.add_zero] at c0 c1
    have h0b : ((l.length : Int) == 0) = false := by simpa using h0
    have HY := Lib.hid hy
    clear hy
    go_enter Try.func42, Try.ntmps42
    go_wp2_with fail
    go_loopw [4] (fun i wr => ∃ (k : Nat) (x1 x2 : Int), 1 ≤ k ∧ k ≤ l.length ∧ i = .int .i64 k ∧ Hid ((x1, x2) = bestOf (l.take k)) ∧ Blk wr w.heap.size 23 [.int .i64 0, .int .i64 0] ∧ Blk wr (w.heap.size + 1) 23 [.int .i64 x1, .int .i64 x2] ∧ Keeps None w wr) (fun i _ => l.length - (intOf i).toNat)
    case atStart =>
      refine ⟨1, y1, y2, by omega, by omega, rfl, Lib.hid ?_, hz.alloc _, ?_, ((Keeps.refl _ w).alloc _).alloc _⟩
      · rw [take_succ_of HY.out]; rfl
      · have := Blk.new (w.alloc (.cells #[.int .i64 0, .int .i64 0] 23)) 23 [.int .i64 y1, .int .i64 y2]
        rwa [World.size_alloc] at this
    case round =>
      clear c0 c1 f0 f1 g0 g1 hz
      obtain ⟨k, x1, x2, hk1, hk, rfl, hX, hz, hx, hK⟩ := hrel
      have hs := hK.size
      by_cases hlt : k < l.length
      · obtain ⟨z, hzk⟩ : ∃ z, l[k]? = some z := ⟨_, List.getElem?_eq_getElem hlt⟩
        have hAr := hA.grew hK
        obtain ⟨b', o', e1, c0, c1⟩ := hAr k _ hzk
        cases e1
        obtain ⟨z1, z2⟩ := z
        simp only at c0 c1
        have HT := Lib.hid (take_succ_of hzk)
        have held : ∀ w', Keeps None wr w' → (Keeps None wr w' ∧ w'.cell? ⟨w.heap.size + 1, 0, Option.none⟩ = some (.int .i64 x1) ∧ w'.cell? ⟨w.heap.size + 1, 1, Option.none⟩ = some (.int .i64 x2) ∧ w'.cell? ⟨b, o + k * 2, Option.none⟩ = some (.int .i64 z1) ∧ w'.cell? ⟨b, o + k * 2 + 1, Option.none⟩ = some (.int .i64 z2)) :=
          fun w' h => ⟨h, (hx.grew h).cell 0 _ rfl, (hx.grew h).cell 1 _ rfl, h.cell c0 id, h.cell c1 id⟩
        have HELD := Lib.hid held
        clear hzk held
        go_wp2_with fail
        go_region_held3 (fun w' => Keeps None wr w' ∧ w'.cell? ⟨w.heap.size + 1, 0, Option.none⟩ = some (.int .i64 x1) ∧ w'.cell? ⟨w.heap.size + 1, 1, Option.none⟩ = some (.int .i64 x2) ∧ w'.cell? ⟨b, o + k * 2, Option.none⟩ = some (.int .i64 z1) ∧ w'.cell? ⟨b, o + k * 2 + 1, Option.none⟩ = some (.int .i64 z2))
          (first | assumption | exact HELD.out _ (Keeps.refl _ _) | exact HELD.out _ (Keeps.drew (Keeps.refl _ _)) | exact HELD.out _ (Keeps.drew (by assumption)) | exact HELD.out _ (by assumption))
          (first
            | (go_at_call 41; refine (refless_any _ _ _ _ _).mono ?_; rintro e w2 ⟨rfl, hkz⟩; have hk2 : Keeps None wr w2 := Keeps.trans (by first | assumption | exact And.left (by assumption)) hkz))
        have hkw : Keeps None wr _ := (by assumption : _ ∧ _).1
        have hx2 := hx.grew hkw
        have hz2 := hz.grew hkw
        have a0 := hkw.cell c0 id
        have a1 := hkw.cell c1 id
        have f0 := hx2.free 0
        have f1 := hx2.free 1
        have g0 := hx2.cell 0 _ rfl
        have g1 := hx2.cell 1 _ rfl
        have hKw := hK.trans hkw
        have hne : l.take k ≠ [] := by intro e; have := congrArg List.length e; rw [List.length_take, List.length_nil, Nat.min_eq_left hk] at this; omega
        by_cases hl : lessF (x1, x2) (z1, z2) = true
        · rw [hl]
          have E := Lib.hid (show (z1, z2) = bestOf (l.take (k + 1)) by rw [HT.out, bestOf_snoc _ _ hne, ← hX.out, if_pos hl])
          go_wp2_with fail
          go_roundw
          case rel => exact ⟨k + 1, z1, z2, by omega, by omega, by go_num, E, (hz2.other _ _ (by simp)).other _ _ (by simp), (hx2.set 0 _).set 1 _, (hKw.setCell _ _ (by simp; omega)).setCell _ _ (by simp; omega)⟩
          case measure => simp [intOf]; omega
        · rw [Bool.not_eq_true] at hl
          rw [hl]
          have E := Lib.hid (show (x1, x2) = bestOf (l.take (k + 1)) by rw [HT.out, bestOf_snoc _ _ hne, ← hX.out, if_neg (by rw [hl]; simp)])
          go_wp2_with fail
          go_roundw
          case rel => exact ⟨k + 1, x1, x2, by omega, by omega, by go_num, E, hz2, hx2, hKw⟩
          case measure => simp [intOf]; omega
      · obtain rfl : k = l.length := by omega
        have d0 := hx.cell 0 _ rfl
        have d1 := hx.cell 1 _ rfl
        have f0 := hz.free 0
        have f1 := hz.free 1
        have g0 := hz.cell 0 _ rfl
        have g1 := hz.cell 1 _ rfl
        go_wp2_with fail
        refine bodyPost_ret (results_cell_row rfl _ _ w.heap.size 23 #[.int .i64 x1, .int .i64 x2] (0, 0) _ rfl ((hz.set 0 (.int .i64 x1)).set 1 (.int .i64 x2)).raw Try.underlying23 rfl Try.sizeSt2) rfl ?_
        have h1 := hX.out
        rw [List.take_of_length_le (Nat.le_refl _)] at h1
        exact ⟨by rw [← h1]; rfl, (hK.setCell _ _ (by simp)).setCell _ _ (by simp)⟩
end Go.Proofs.Ytghbgcmhahndkaa
