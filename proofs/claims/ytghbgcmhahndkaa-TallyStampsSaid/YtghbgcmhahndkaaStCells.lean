/- The cells of a list of stamps. -/
import Derived.Test.YtghbgcmhahndkaaStampRef
namespace Go.Proofs.Ytghbgcmhahndkaa
open Go.RowKit

def stCells (l : List (Int × Int)) : List Value := l.flatMap fun x => [.int .i64 x.1, .int .i64 x.2]
theorem stCells_length (l : List (Int × Int)) : (stCells l).length = l.length * 2 := by
  induction l with
  | nil => rfl
  | cons x l ih => simp [stCells] at ih ⊢; omega
theorem stCells_at : ∀ (l : List (Int × Int)) (j : Nat) (x : Int × Int), l[j]? = some x → (stCells l)[j * 2]? = some (.int .i64 x.1) ∧ (stCells l)[j * 2 + 1]? = some (.int .i64 x.2)
  | [], j, x, h => by simp at h
  | y :: l, 0, x, h => by simp at h; subst h; simp [stCells]
  | y :: l, j + 1, x, h => by
    have ih := stCells_at l j x (by simpa using h)
    have e : stCells (y :: l) = [.int .i64 y.1, .int .i64 y.2] ++ stCells l := by simp [stCells]
    have hk : ∀ d, (stCells (y :: l))[(j + 1) * 2 + d]? = (stCells l)[j * 2 + d]? := fun d => by
      rw [e, List.getElem?_append_right (by simp; omega)]
      congr 1
      simp; omega
    exact ⟨by have := hk 0; simp only [Nat.add_zero] at this; rw [this]; exact ih.1, by rw [hk 1]; exact ih.2⟩
theorem stCells_one (l : List (Int × Int)) : ∀ v ∈ stCells l, v.oneCell' = true := by
  intro v hv
  simp only [stCells, List.mem_flatMap] at hv
  obtain ⟨x, _, h⟩ := hv
  simp at h
  rcases h with rfl | rfl <;> rfl
/-- A block that holds the stamps at its head. -/
theorem St.of_blk {w : World} {g t : Nat} {l : List (Int × Int)} {rest : List Value} (h : Blk w g t (stCells l ++ rest)) : St w (some ⟨g, 0, Option.none⟩) l := by
  intro j x hx
  have hj : j < l.length := (List.getElem?_eq_some_iff.1 hx).1
  have hl := stCells_length l
  obtain ⟨h0, h1⟩ := stCells_at l j x hx
  refine ⟨g, 0, rfl, ?_, ?_⟩
  · rw [Nat.zero_add]; exact h.cell _ _ (by rw [List.getElem?_append_left (by omega)]; exact h0)
  · rw [Nat.zero_add]; exact h.cell _ _ (by rw [List.getElem?_append_left (by omega)]; exact h1)
/-- The source of a copy. -/
theorem St.src {w : World} {b o : Nat} {l : List (Int × Int)} (h : St w (some ⟨b, o, Option.none⟩) l) : ∀ j v, (stCells l)[j]? = some v → w.cell? ((⟨b, o, Option.none⟩ : Addr).add j) = some v := by
  intro j v hv
  have hj : j < l.length * 2 := by have := (List.getElem?_eq_some_iff.1 hv).1; rwa [stCells_length] at this
  have hq : j / 2 < l.length := by omega
  have hx : l[j / 2]? = some l[j / 2] := List.getElem?_eq_getElem hq
  obtain ⟨b', o', e, c0, c1⟩ := h (j / 2) _ hx
  cases e
  obtain ⟨h0, h1⟩ := stCells_at l (j / 2) _ hx
  rw [Addr.add_lit]
  rcases (by omega : j = j / 2 * 2 ∨ j = j / 2 * 2 + 1) with e | e
  · rw [← e] at h0 c0
    rw [c0, ← h0, hv]
  · rw [← e] at h1
    rw [Nat.add_assoc, ← e] at c1
    rw [c1, ← h1, hv]
end Go.Proofs.Ytghbgcmhahndkaa
