/- What is read without a fault has one form: plain laws on numbers and bytes. -/
import Derived.Test.YtnhhmkgcgogddaaRMore
import Derived.Test.YtnhhmkgcgogddaaRefDone
namespace Go.Proofs.Ytnhhmkgcgogddaa
open Go.RowKit
set_option linter.unusedVariables false

theorem decF_form : ∀ (zs : List Int) (i U V m : Nat), Bytes zs → decF i U zs = .ok V m → ∃ u, V = U + u * 2 ^ (7 * i) ∧ i < m ∧ m - i ≤ zs.length ∧ zs.take (m - i) = varF u ∧ (0 < i → 0 < u)
  | [], i, U, V, m, _, h => by
    unfold decF at h
    split at h <;> cases h
  | c :: bs, i, U, V, m, hB, h => by
    rw [decF_cons] at h
    have hc := hB c (by simp)
    by_cases h1 : i = 10
    · rw [if_pos h1] at h; cases h
    · rw [if_neg h1] at h
      by_cases h2 : (i = 9 ∧ 1 < c) ∨ (c = 0 ∧ 0 < i)
      · rw [if_pos h2] at h; cases h
      · rw [if_neg h2] at h
        by_cases h3 : c < 128
        · rw [if_pos h3] at h
          injection h with e1 e2
          subst e1 e2
          refine ⟨c.toNat, by rw [Nat.mod_eq_of_lt (by omega)], by omega, by simp, ?_, fun hi => by
            have : ¬ c = 0 := fun e => h2 (.inr ⟨e, hi⟩)
            omega⟩
          rw [varF_last (by omega), show i + 1 - i = 0 + 1 by omega]
          simp; omega
        · rw [if_neg h3] at h
          obtain ⟨u, e1, e2, e3, e4, e5⟩ := decF_form bs (i + 1) _ V m (fun x hx => hB x (List.mem_cons_of_mem _ hx)) h
          have hu := e5 (by omega)
          refine ⟨c.toNat % 128 + 128 * u, ?_, by omega, by simp; omega, ?_, fun _ => by omega⟩
          · rw [e1, Nat.add_assoc]
            congr 1
            rw [Nat.add_mul]
            congr 1
            rw [show 7 * (i + 1) = 7 + 7 * i by omega, Nat.pow_add, ← Nat.mul_assoc, Nat.mul_comm u]
          · rw [varF_more (by omega), show m - i = (m - (i + 1)) + 1 by omega, List.take_succ_cons, e4, show (c.toNat % 128 + 128 * u) / 128 = u by omega]
            congr 1
            omega

theorem decF_lt : ∀ (zs : List Int) (i U V m : Nat), Bytes zs → i ≤ 9 → U < 2 ^ (7 * i) → decF i U zs = .ok V m → V < 18446744073709551616
  | [], i, U, V, m, _, _, _, h => by
    unfold decF at h
    split at h <;> cases h
  | c :: bs, i, U, V, m, hB, hi, hU, h => by
    rw [decF_cons] at h
    have hc := hB c (by simp)
    rw [if_neg (by omega)] at h
    by_cases h2 : (i = 9 ∧ 1 < c) ∨ (c = 0 ∧ 0 < i)
    · rw [if_pos h2] at h; cases h
    · rw [if_neg h2] at h
      have hn := next_bound (k := i) (m := c.toNat % 128) hU (by omega)
      by_cases h9 : i = 9
      · subst h9
        have hc1 : c ≤ 1 := by
          refine Int.not_lt.1 fun hh => h2 (.inl ⟨rfl, hh⟩)
        rw [if_pos (by omega)] at h
        injection h with e1 e2
        have e3 : 2 ^ (7 * 9) = 9223372036854775808 := by decide
        rw [e3] at hU e1
        omega
      · by_cases h3 : c < 128
        · rw [if_pos h3] at h
          injection h with e1 e2
          have e3 : 2 ^ (7 * (i + 1)) ≤ 2 ^ 63 := Nat.pow_le_pow_right (by omega) (by omega)
          have e4 : (2 : Nat) ^ 63 = 9223372036854775808 := by decide
          omega
        · rw [if_neg h3] at h
          exact decF_lt bs (i + 1) _ V m (fun x hx => hB x (List.mem_cons_of_mem _ hx)) (by omega) hn h

theorem zig_unz (u : Nat) : zigF (unzF u) = u := by
  unfold zigF unzF
  by_cases h : u % 2 = 0
  · rw [if_pos h, if_neg (by omega)]; omega
  · rw [if_neg h, if_pos (by omega)]; omega
theorem unz_range {u : Nat} (h : u < 18446744073709551616) : -9223372036854775808 ≤ unzF u ∧ unzF u ≤ 9223372036854775807 := by
  unfold unzF; split <;> omega

theorem decF_whole {zs : List Int} {V m : Nat} (hB : Bytes zs) (h : decF 0 0 zs = .ok V m) : 0 < m ∧ m ≤ zs.length ∧ zs.take m = varF V ∧ V < 18446744073709551616 := by
  obtain ⟨u, e1, e2, e3, e4, _⟩ := decF_form zs 0 0 V m hB h
  have e0 : V = u := by simpa using e1
  subst e0
  exact ⟨e2, by simpa using e3, by simpa using e4, decF_lt zs 0 0 V m hB (by omega) (by simp) h⟩

theorem bytes_drop {zs : List Int} (h : Bytes zs) (p : Nat) : Bytes (zs.drop p) := fun c hc => h c (List.mem_of_mem_drop hc)
theorem bytes_take {zs : List Int} (h : Bytes zs) (p : Nat) : Bytes (zs.take p) := fun c hc => h c (List.mem_of_mem_take hc)
theorem take_more {zs : List Int} {p m : Nat} : zs.take (p + m) = zs.take p ++ (zs.drop p).take m := List.take_add

/-- One read: what it leaves, and the bytes of what it told. -/
structure Form (zs : List Int) (s : St) (o : List Int) (s' : St) : Prop where
  le : s'.p ≤ zs.length
  good : s'.err = 0 → s.err = 0 ∧ zs.take s'.p = zs.take s.p ++ o
  bad : s'.err ≠ 0 → o.length = 1

theorem varF_zero : varF 0 = [0] := varF_last (by omega)
theorem numD_ok {d : Dec} {u m : Nat} (h : numD d = .ok u m) : d = .ok u m ∧ u < 9223372036854775808 := by
  cases d with
  | ok a b =>
    by_cases hh : a < 9223372036854775808
    · rw [show numD (.ok a b) = .ok a b from if_pos hh] at h
      injection h with e1 e2; subst e1 e2; exact ⟨rfl, hh⟩
    · rw [show numD (.ok a b) = .err 11 from if_neg hh] at h; cases h
  | err k => cases h
/-- A fault is no 0. -/
theorem decF_err : ∀ (zs : List Int) (i U : Nat) (k : Int), decF i U zs = .err k → k = 10 ∨ k = 11
  | [], i, U, k, h => by
    unfold decF at h
    split at h <;> (injection h with e; omega)
  | c :: bs, i, U, k, h => by
    rw [decF_cons] at h
    split at h
    · injection h with e; omega
    · split at h
      · injection h with e; omega
      · split at h
        · cases h
        · exact decF_err bs _ _ k h
theorem numD_err {zs : List Int} {k : Int} (h : numD (decF 0 0 zs) = .err k) : k = 10 ∨ k = 11 := by
  cases hd : decF 0 0 zs with
  | ok a b =>
    rw [hd] at h
    by_cases hh : a < 9223372036854775808
    · rw [show numD (.ok a b) = .ok a b from if_pos hh] at h; cases h
    · rw [show numD (.ok a b) = .err 11 from if_neg hh] at h; injection h with e; omega
  | err j =>
    rw [hd] at h
    rw [show numD (.err j) = .err j from rfl] at h
    injection h with e; subst e
    exact decF_err _ _ _ _ hd

theorem num_form {zs : List Int} {s : St} (hB : Bytes zs) (hp : s.p ≤ zs.length) : Form zs s (varF (numStep zs s).1.toNat) (numStep zs s).2 ∧ 0 ≤ (numStep zs s).1 ∧ (numStep zs s).1 ≤ 9223372036854775807 := by
  unfold numStep
  by_cases h0 : s.err = 0
  · rw [if_pos h0]
    cases hd : numD (decF 0 0 (zs.drop s.p)) with
    | ok u m =>
      obtain ⟨hd', hu⟩ := numD_ok hd
      obtain ⟨a1, a2, a3, a4⟩ := decF_whole (bytes_drop hB _) hd'
      rw [List.length_drop] at a2
      refine ⟨⟨by show s.p + m ≤ _; omega, fun _ => ⟨h0, ?_⟩, fun h => (h rfl).elim⟩, by show (0 : Int) ≤ (u : Int); omega, by show (u : Int) ≤ _; omega⟩
      show zs.take (s.p + m) = _
      rw [take_more, a3]; rfl
    | err k =>
      have hk := numD_err hd
      exact ⟨⟨hp, fun h => by have : k = 0 := h; omega, fun _ => by show (varF 0).length = 1; rw [varF_zero]; rfl⟩, by simp, by simp⟩
  · rw [if_neg h0]
    exact ⟨⟨hp, fun h => (h0 h).elim, fun _ => by show (varF 0).length = 1; rw [varF_zero]; rfl⟩, by simp, by simp⟩
theorem int_form {zs : List Int} {s : St} (hB : Bytes zs) (hp : s.p ≤ zs.length) : Form zs s (varF (zigF (intStep zs s).1)) (intStep zs s).2 ∧ -9223372036854775808 ≤ (intStep zs s).1 ∧ (intStep zs s).1 ≤ 9223372036854775807 := by
  unfold intStep
  by_cases h0 : s.err = 0
  · rw [if_pos h0]
    cases hd : decF 0 0 (zs.drop s.p) with
    | ok u m =>
      obtain ⟨a1, a2, a3, a4⟩ := decF_whole (bytes_drop hB _) hd
      rw [List.length_drop] at a2
      refine ⟨⟨by show s.p + m ≤ _; omega, fun _ => ⟨h0, ?_⟩, fun h => (h rfl).elim⟩, unz_range a4⟩
      show zs.take (s.p + m) = zs.take s.p ++ varF (zigF (unzF u))
      rw [take_more, a3, zig_unz]
    | err k =>
      have hk := decF_err _ _ _ _ hd
      exact ⟨⟨hp, fun h => by have : k = 0 := h; omega, fun _ => by show (varF (zigF 0)).length = 1; rw [show zigF 0 = 0 from rfl, varF_zero]; rfl⟩, by simp, by simp⟩
  · rw [if_neg h0]
    exact ⟨⟨hp, fun h => (h0 h).elim, fun _ => by show (varF (zigF 0)).length = 1; rw [show zigF 0 = 0 from rfl, varF_zero]; rfl⟩, by simp, by simp⟩
theorem byt_form {zs : List Int} {s : St} (hB : Bytes zs) (hp : s.p ≤ zs.length) : Form zs s (varF (bytStep zs s).1.length ++ (bytStep zs s).1) (bytStep zs s).2 ∧ Bytes (bytStep zs s).1 ∧ (bytStep zs s).1.length ≤ zs.length ∧ ((bytStep zs s).2.err = 0 → s.p + (varF (bytStep zs s).1.length ++ (bytStep zs s).1).length ≤ zs.length) := by
  have hnil : Bytes [] := fun c hc => by cases hc
  have h1 : (varF ([] : List Int).length ++ []).length = 1 := by rw [show ([] : List Int).length = 0 from rfl, varF_zero]; rfl
  unfold bytStep
  by_cases h0 : s.err = 0
  · rw [if_pos h0]
    cases hd : bytD zs s.p with
    | ok bs m =>
      unfold bytD at hd
      cases hn : numD (decF 0 0 (zs.drop s.p)) with
      | err k => rw [hn] at hd; cases hd
      | ok u m0 =>
        rw [hn] at hd
        simp only at hd
        obtain ⟨hd', hu⟩ := numD_ok hn
        obtain ⟨a1, a2, a3, a4⟩ := decF_whole (bytes_drop hB _) hd'
        rw [List.length_drop] at a2
        by_cases hlen : u ≤ zs.length - (s.p + m0)
        · rw [if_pos hlen] at hd
          injection hd with e1 e2
          have hbl : bs.length = u := by rw [← e1, List.length_take, List.length_drop]; omega
          have hvl : (varF u).length = m0 := by rw [← a3, List.length_take, List.length_drop]; omega
          subst e2
          refine ⟨⟨by show s.p + (m0 + u) ≤ _; omega, fun _ => ⟨h0, ?_⟩, fun h => (h rfl).elim⟩, by rw [← e1]; exact bytes_take (bytes_drop hB _) _, by show bs.length ≤ _; omega, fun _ => by show s.p + (varF bs.length ++ bs).length ≤ _; rw [List.length_append, hbl, hvl]; omega⟩
          show zs.take (s.p + (m0 + u)) = zs.take s.p ++ (varF bs.length ++ bs)
          rw [hbl, ← Nat.add_assoc, take_more, take_more, a3, ← e1, List.append_assoc]
        · rw [if_neg hlen] at hd; cases hd
    | err k =>
      have hk : k = 10 ∨ k = 11 := by
        unfold bytD at hd
        cases hn : numD (decF 0 0 (zs.drop s.p)) with
        | err j => rw [hn] at hd; injection hd with e; subst e; exact numD_err hn
        | ok u m0 =>
          rw [hn] at hd
          simp only at hd
          split at hd
          · cases hd
          · injection hd with e; omega
      exact ⟨⟨hp, fun h => by have : k = 0 := h; omega, fun _ => h1⟩, hnil, by simp, fun h => by have : k = 0 := h; omega⟩
  · rw [if_neg h0]
    exact ⟨⟨hp, fun h => (h0 h).elim, fun _ => h1⟩, hnil, by simp, fun h => (h0 h).elim⟩
end Go.Proofs.Ytnhhmkgcgogddaa
