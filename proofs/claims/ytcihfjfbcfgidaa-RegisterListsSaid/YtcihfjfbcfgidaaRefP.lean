/- The document's second phase and the program's, in plain words: the first of the greatest, are all alike; how many have answered. -/
import Derived.Test.YtcihfjfbcfgidaaRefM4
namespace Go.Proofs.Ytcihfjfbcfgidaa
open Go.RowKit Go.Maps

theorem lessF_trans {a b c : Int × Int} (h1 : lessF a b = true) (h2 : lessF b c = true) : lessF a c = true := by
  unfold lessF at *
  simp only [Bool.or_eq_true, Bool.and_eq_true, decide_eq_true_eq] at *
  omega
theorem lessF_irrefl (a : Int × Int) : lessF a a = false := by
  unfold lessF
  simp
theorem bestOf_max : ∀ (l : List (Int × Int)), ∀ x ∈ l, lessF (bestOf l) x = false := by
  intro l
  rw [← List.reverse_reverse l]
  generalize l.reverse = r
  induction r with
  | nil => intro x hx; simp at hx
  | cons y r ih =>
    rw [List.reverse_cons]
    generalize r.reverse = l at ih
    intro x hx
    by_cases hl : l = []
    · subst hl
      simp at hx
      subst hx
      exact lessF_irrefl _
    · rw [bestOf_snoc l y hl]
      rcases List.mem_append.1 hx with h | h
      · by_cases hb : lessF (bestOf l) y = true
        · rw [if_pos hb]
          cases hxy : lessF y x with
          | false => rfl
          | true => have := lessF_trans hb hxy; rw [ih x h] at this; cases this
        · rw [if_neg hb]
          exact ih x h
      · obtain rfl := List.mem_singleton.1 h
        by_cases hb : lessF (bestOf l) x = true
        · rw [if_pos hb]; exact lessF_irrefl _
        · rw [if_neg hb]; simpa using hb

def gOf (l : List Ans) : Int × Int := bestOf (l.map (·.st))
/-- Which of those so far is the first of the greatest tag; are all alike. -/
structure Scan (l : List Ans) (q : Ans) (al : Bool) : Prop where
  st : q.st = gOf l
  first : l.find? (fun x => decide (x.st = gOf l)) = some q
  alike : al = !anyUnlike (l.map (·.st)) (gOf l)
theorem Scan.one (q : Ans) : Scan [q] q true := by
  refine ⟨rfl, ?_, ?_⟩
  · simp [gOf, bestOf]
  · simp [gOf, bestOf, anyUnlike]
theorem gOf_snoc {l : List Ans} (x : Ans) (h : l ≠ []) : gOf (l ++ [x]) = if lessF (gOf l) x.st then x.st else gOf l := by
  unfold gOf
  rw [List.map_append]
  exact bestOf_snoc _ _ (by simpa using h)
theorem Scan.ne {l : List Ans} {q : Ans} {al : Bool} (h : Scan l q al) : l ≠ [] := fun e => by
  have := h.first
  rw [e] at this
  simp at this
theorem Scan.less {l : List Ans} {q x : Ans} {al : Bool} (h : Scan l q al) (hl : lessF q.st x.st = true) : Scan (l ++ [x]) x false ∧ q.st ≠ x.st := by
  have hne : q.st ≠ x.st := fun e => by rw [e, lessF_irrefl] at hl; cases hl
  have hg : gOf (l ++ [x]) = x.st := by rw [gOf_snoc x h.ne, ← h.st, if_pos hl]
  refine ⟨⟨hg.symm, ?_, ?_⟩, hne⟩
  · rw [hg, List.find?_append]
    have : l.find? (fun y => decide (y.st = x.st)) = Option.none := by
      rw [List.find?_eq_none]
      intro y hy
      have hm := bestOf_max (l.map (·.st)) y.st (List.mem_map.2 ⟨y, hy, rfl⟩)
      rw [show bestOf (l.map (·.st)) = q.st from h.st.symm] at hm
      simp only [decide_eq_true_eq]
      intro e
      rw [e, hl] at hm
      cases hm
    rw [this]
    simp
  · have hq : q ∈ l := List.mem_of_find?_eq_some h.first
    have : anyUnlike ((l ++ [x]).map (·.st)) (gOf (l ++ [x])) = true := by
      rw [hg]
      unfold anyUnlike
      rw [List.any_eq_true]
      refine ⟨q.st, List.mem_map.2 ⟨q, List.mem_append_left _ hq, rfl⟩, ?_⟩
      simp only [Bool.not_eq_true', decide_eq_false_iff_not]
      exact fun e => hne (Prod.ext e.1 e.2)
    rw [this]
    rfl
theorem Scan.notLess {l : List Ans} {q x : Ans} {al : Bool} (h : Scan l q al) (hl : lessF q.st x.st = false) : Scan (l ++ [x]) q (al && decide (x.st.1 = q.st.1 ∧ x.st.2 = q.st.2)) := by
  have hg : gOf (l ++ [x]) = gOf l := by rw [gOf_snoc x h.ne, ← h.st, hl]; simp
  refine ⟨by rw [hg]; exact h.st, ?_, ?_⟩
  · rw [hg, List.find?_append, h.first]
    rfl
  · rw [hg, List.map_append, List.map_singleton, anyUnlike_snoc, Bool.not_or, ← h.alike, Bool.not_not, ← h.st]
theorem Scan.data {l : List Ans} {q : Ans} {al : Bool} (h : Scan l q al) : dataA l (gOf l) = q.ds := by
  unfold dataA
  rw [h.first]

theorem ansA_snoc (l : List Int) (x : Int) (qs : List Ans) : ansA (l ++ [x]) qs = ansA l qs ++ (lookA qs x).toList := by
  unfold ansA
  rw [List.filterMap_append]
  cases h : lookA qs x <;> simp [h]

/-! ### Behind the last value -/
theorem secondF_big {h : Hd} {round : Int} {l : List Ans} (hw : h.wr = true) (hg : 1099511627776 ≤ (gOf l).1) : secondF h round l = (round, .ended 4 (0, 0) [], .no) := by
  unfold secondF
  exact if_pos ⟨hw, hg⟩
theorem secondF_end {h : Hd} {round : Int} {l : List Ans} (hw : h.wr = false) (ha : anyUnlike (l.map (·.st)) (gOf l) = false) : secondF h round l = (round, .ended 0 (gOf l) (if gOf l = (0, 0) then List.replicate h.size.toNat 0 else dataA l (gOf l)), .no) := by
  unfold secondF
  rw [if_neg (fun e => by rw [hw] at e; cases e.1)]
  show (if h.wr = false ∧ _ then _ else _) = _
  rw [if_pos ⟨hw, ha⟩, hw]
  rfl
theorem secondF_write {h : Hd} {round : Int} {l : List Ans} (hw : h.wr = true) (hg : ¬ 1099511627776 ≤ (gOf l).1) : secondF h round l = if 1099511627776 ≤ round then (round, .ended 4 (0, 0) [], .no) else (round + 1, .laying [] (wrap64 ((gOf l).1 + 1), h.client) h.blk, .msgs 2 (round + 1) (wrap64 ((gOf l).1 + 1), h.client) h.blk h.grp) := by
  unfold secondF
  rw [if_neg (fun e => hg e.2)]
  show (if h.wr = false ∧ _ then _ else _) = _
  rw [if_neg (fun e => by rw [hw] at e; cases e.1), hw]
  rfl
theorem secondF_read {h : Hd} {round : Int} {l : List Ans} (hw : h.wr = false) (ha : anyUnlike (l.map (·.st)) (gOf l) = true) : secondF h round l = if 1099511627776 ≤ round then (round, .ended 4 (0, 0) [], .no) else (round + 1, .laying [] (gOf l) (if gOf l = (0, 0) then List.replicate h.size.toNat 0 else dataA l (gOf l)), .msgs 2 (round + 1) (gOf l) (if gOf l = (0, 0) then List.replicate h.size.toNat 0 else dataA l (gOf l)) h.grp) := by
  unfold secondF
  rw [if_neg (fun e => by rw [hw] at e; cases e.1)]
  show (if h.wr = false ∧ _ then _ else _) = _
  rw [if_neg (fun e => by rw [show anyUnlike (l.map (·.st)) (bestOf (l.map (·.st))) = true from ha] at e; cases e.2), hw]
  rfl

/-! ### How many have answered -/
theorem lookA_mem {qs : List Ans} {s : Int} : (lookA qs s).isSome = decide (s ∈ qs.map (·.s)) := by
  unfold lookA
  induction qs with
  | nil => rfl
  | cons q qs ih =>
    rw [List.find?_cons]
    by_cases e : q.s = s
    · subst e
      simp
    · have : (q.s == s) = false := by simpa using e
      rw [this]
      simp only [List.map_cons, List.mem_cons, ih]
      congr 1
      simp [Ne.symm e]
theorem count_in : ∀ (grp ss : List Int), grp.Nodup → ss.Nodup → (∀ s ∈ ss, s ∈ grp) → (grp.filter fun s => decide (s ∈ ss)).length = ss.length := fun grp ss hg hs hin => by
  have hp : (grp.filter fun s => decide (s ∈ ss)).Perm ss := by
    refine (List.perm_ext_iff_of_nodup (hg.sublist List.filter_sublist) hs).2 fun a => ?_
    simp only [List.mem_filter, decide_eq_true_eq]
    exact ⟨fun h => h.2, fun h => ⟨hin a h, h⟩⟩
  exact hp.length_eq
end Go.Proofs.Ytcihfjfbcfgidaa
