/- RegisterBook: blocks of what was told come to the list of all. -/
import Derived.Test.YtcihfjfbcfgidaaBook7Plain
namespace Go.Proofs.Ytcihfjfbcfgidaa
open Go.RowKit

theorem owns_nil {w : World} {base e size n c m : Nat} {A : Option Addr} {xs : List Value} (h : w.ownsRow base e size (.slice A n c) m xs) : A = Option.none → c = 0 := fun e => by
  subst e
  rcases h.2 with ⟨h', _⟩ | ⟨g', cap', cur, h', _⟩
  · simp at h'; exact h'.2
  · simp at h'
theorem owns_src {w : World} {base e n c : Nat} {A : Option Addr} {xs : List Value} (h : w.ownsRow base e 1 (.slice A n c) n xs) (hl : xs.length = n) : 0 < xs.length → ∃ ad, A = some ad ∧ ∀ j u, xs[j]? = some u → w.cell? (ad.add j) = some u := fun h0 => by
  obtain ⟨g, c', e', hc⟩ := owns_at h (by omega)
  cases e'
  exact ⟨_, rfl, fun j u hu => by rw [Addr.add_lit, Nat.zero_add]; exact hc j u hu⟩
theorem rows_cell {k : IntKind} {t B : Nat} {w : World} {ds : List Value} {zs : List Int} (h : ∀ d ∈ ds, Row k t w B d zs) : ∀ d ∈ ds, d.oneCell' = true := fun d hd => by
  obtain ⟨A, c, rfl⟩ := (h d hd).slice
  rfl
theorem SameB_self7 (l : List Int) : SameB l l = true := by simp [SameB]
end Go.Proofs.Ytcihfjfbcfgidaa
