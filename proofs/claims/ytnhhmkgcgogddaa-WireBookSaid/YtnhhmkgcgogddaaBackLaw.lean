/- What was put is read: plain laws on numbers and bytes. -/
import Derived.Test.YtnhhmkgcgogddaaRMore
import Derived.Test.YtnhhmkgcgogddaaRefDone
namespace Go.Proofs.Ytnhhmkgcgogddaa
open Go.RowKit
set_option linter.unusedVariables false

theorem decF_varF (u : Nat) : ∀ (i U : Nat) (rest : List Int), i ≤ 9 → u * 2 ^ (7 * i) < 18446744073709551616 → (0 < i → 0 < u) → decF i U (varF u ++ rest) = .ok (U + u * 2 ^ (7 * i)) (i + (varF u).length) := by
  induction u using Nat.strongRecOn with
  | ind u ih =>
    intro i U rest hi hu h0
    have hp : 0 < 2 ^ (7 * i) := Nat.pow_pos (by omega)
    by_cases h : 127 < u
    · have hi9 : i ≠ 9 := by
        rintro rfl
        have e2 : 2 ^ (7 * 9) = 9223372036854775808 := by decide
        rw [e2] at hu; omega
      have hb := ih (u / 128) (by omega) (i + 1) (U + u % 128 * 2 ^ (7 * i)) rest (by omega) (by
        have e : 2 ^ (7 * (i + 1)) = 128 * 2 ^ (7 * i) := by rw [show 7 * (i + 1) = 7 + 7 * i by omega, Nat.pow_add]
        rw [e, ← Nat.mul_assoc]
        exact Nat.lt_of_le_of_lt (Nat.mul_le_mul_right _ (by omega)) hu) (fun _ => by omega)
      rw [varF_more h, List.cons_append, decF_cons, if_neg (show ¬ i = 10 by omega), if_neg (show ¬ ((i = 9 ∧ 1 < (((u % 128 + 128 : Nat)) : Int)) ∨ ((((u % 128 + 128 : Nat)) : Int) = 0 ∧ 0 < i)) by omega), if_neg (show ¬ ((((u % 128 + 128 : Nat)) : Int) < 128) by omega)]
      rw [show ((((u % 128 + 128 : Nat)) : Int)).toNat % 128 = u % 128 by omega, hb]
      have e : 2 ^ (7 * (i + 1)) = 128 * 2 ^ (7 * i) := by rw [show 7 * (i + 1) = 7 + 7 * i by omega, Nat.pow_add]
      congr 1
      · rw [e, ← Nat.mul_assoc, Nat.add_assoc, ← Nat.add_mul]
        congr 2
        omega
      · simp; omega
    · rw [varF_last h, List.cons_append, List.nil_append, decF_cons, if_neg (show ¬ i = 10 by omega)]
      have hi9 : ¬ (i = 9 ∧ 1 < (u : Int)) := by
        rintro ⟨rfl, h1⟩
        have e2 : 2 ^ (7 * 9) = 9223372036854775808 := by decide
        rw [e2] at hu; omega
      rw [if_neg (fun hh => hh.elim hi9 (fun q => by have := h0 q.2; omega)), if_pos (show (u : Int) < 128 by omega), show ((u : Int)).toNat % 128 = u by omega]
      rfl

theorem decF_back (u : Nat) (rest : List Int) (hu : u < 18446744073709551616) : decF 0 0 (varF u ++ rest) = .ok u (varF u).length := by
  have := decF_varF u 0 0 rest (by omega) (by simpa using hu) (by omega)
  simpa using this
theorem num_back {zs rest : List Int} {p : Nat} {place n : Int} (h : zs.drop p = varF n.toNat ++ rest) (h0 : 0 ≤ n) (hn : n ≤ 9223372036854775807) : numStep zs ⟨p, 0, place⟩ = (n, ⟨p + (varF n.toNat).length, 0, place⟩) := by
  unfold numStep
  rw [if_pos rfl]
  simp only
  rw [h, decF_back _ _ (by omega), show numD (.ok n.toNat (varF n.toNat).length) = .ok n.toNat (varF n.toNat).length from if_pos (by omega)]
  simp; omega
theorem unz_zig {n : Int} (h : -9223372036854775808 ≤ n ∧ n ≤ 9223372036854775807) : unzF (zigF n) = n := by
  unfold unzF zigF
  by_cases hn : n < 0
  · rw [if_pos hn, if_neg (by omega)]; omega
  · rw [if_neg hn, if_pos (by omega)]; omega
theorem int_back {zs rest : List Int} {p : Nat} {place n : Int} (h : zs.drop p = varF (zigF n) ++ rest) (hn : -9223372036854775808 ≤ n ∧ n ≤ 9223372036854775807) : intStep zs ⟨p, 0, place⟩ = (n, ⟨p + (varF (zigF n)).length, 0, place⟩) := by
  unfold intStep
  rw [if_pos rfl]
  simp only
  rw [h, decF_back _ _ (zigF_lt hn)]
  simp only
  rw [unz_zig hn]
theorem byt_back {zs rest bs : List Int} {p : Nat} {place : Int} (h : zs.drop p = varF bs.length ++ bs ++ rest) (hl : bs.length ≤ 140737488351232) (hp : p ≤ zs.length) : bytStep zs ⟨p, 0, place⟩ = (bs, ⟨p + ((varF bs.length).length + bs.length), 0, place⟩) := by
  have hlen := congrArg List.length h
  simp only [List.length_drop, List.length_append] at hlen
  have hd : bytD zs p = .ok bs ((varF bs.length).length + bs.length) := by
    unfold bytD
    rw [h, List.append_assoc, decF_back _ _ (by omega), show numD (.ok bs.length (varF bs.length).length) = .ok bs.length (varF bs.length).length from if_pos (by omega)]
    simp only
    rw [if_pos (by omega)]
    congr 1
    rw [← List.drop_drop, h, List.append_assoc, List.drop_left, List.take_left]
  unfold bytStep
  rw [if_pos rfl]
  simp only
  rw [hd]
end Go.Proofs.Ytnhhmkgcgogddaa
