/- A slice of numbers within a datum. -/
import Derived.Test.YtcihfjfbcfgidaaOpen
import Derived.Deep.Slices
import Derived.Deep.Strs
namespace Go.Proofs.Ytcihfjfbcfgidaa
open Go.ChangeShapes Go.WideShapes Go.ChangeAt Go.RowKit

theorem open_bytes_at {H : Type} {enc : TypeId × Value → H} {W : World} {base : Nat} {spare : Nat → Bool} {held : Bool} {t e : TypeId} {k : IntKind} {cs : List Value} {fuel : Nat} {x : DataW H × List MemPlace}
    (hu : Try.prog.underlying t = some (.slice e)) (he : Try.prog.underlying e = some (.int k)) (hc : Try.prog.cellsOf e = 1)
    (h : DataW.trod enc Try.prog W base spare held fuel t cs = some x) :
    ∃ (a : Option Addr) (len cap : Nat) (zs : List Int), cs = [.slice a len cap] ∧ zs.length = len ∧ Nums k W a zs ∧ (∀ x ∈ zs, (Lit.int k x).wf = true) ∧ len ≤ cap ∧ cap ≤ maxLen ∧ (a = Option.none → cap = 0) := by
  rcases open_ints hu he hc h with ⟨hcs, _⟩ | ⟨x, len, cap, zs, hcs, _, hl, hm, hz, hx, hcell, hwz⟩
  · exact ⟨Option.none, 0, 0, [], hcs, rfl, Nums.nil _ _ _, by simp, Nat.le_refl _, Nat.zero_le _, fun _ => rfl⟩
  · have hl2 : len ≤ zs.length := by
      rw [hz]
      split
      · exact hl
      · exact Nat.le_refl _
    refine ⟨_, _, _, zs.take len, hcs, by simp; omega, ?_, fun x hx => hwz x (List.mem_of_mem_take hx), hl, hm, fun e => by cases e⟩
    intro i hi
    have hi2 : i < len ∧ i < zs.length := by simpa [Nat.lt_min] using hi
    have hc2 := hcell i hi2.2
    obtain ⟨b, off, spot⟩ := x
    have hspot : spot = Option.none := by simpa [Addr.add] using World.cell?_spot (hcell 0 (by omega))
    subst hspot
    refine ⟨b, off, rfl, ?_⟩
    rw [Addr.add_lit] at hc2
    rw [hc2]
    simp [List.getD, hi2.1]

theorem mem_weightsAll {H : Type} {P : Program} {e : TypeId} {n : Nat} : ∀ {l : List (DataW H)} {d : DataW H}, d ∈ l → n ∈ d.weights P e → n ∈ DataW.weightsAll P e l
  | [], _, h, _ => by cases h
  | y :: r, d, h, hn => by
    simp only [DataW.weightsAll, List.mem_append]
    rcases List.mem_cons.1 h with rfl | h
    · exact .inl hn
    · exact .inr (mem_weightsAll h hn)
/-- What lies in a slice's elements weighs no more than the whole. -/
theorem weights_elem {H : Type} {P : Program} {t e : TypeId} {elems spare : List (DataW H)} {d : DataW H} {n : Nat} (hu : P.underlying t = some (.slice e)) (hd : d ∈ elems) (hn : n ∈ d.weights P e) : n ∈ (DataW.slice elems spare).weights P t := by
  simp only [DataW.weights, hu, List.mem_cons, List.mem_append]
  exact .inr (.inl (mem_weightsAll hd hn))
/-- What reaches the call is no longer than the machine's reach. -/
theorem len_of_weights {H : Type} {enc : TypeId × Value → H} {W : World} {base : Nat} {spare : Nat → Bool} {held : Bool} {t e : TypeId} {k : IntKind} {a : Option Addr} {len cap : Nat} {fuel : Nat} {x : DataW H × List MemPlace}
    (hu : Try.prog.underlying t = some (.slice e)) (he : Try.prog.underlying e = some (.int k)) (hc : Try.prog.cellsOf e = 1) (hb : 1 ≤ Try.prog.bytesOf e)
    (h : DataW.trod enc Try.prog W base spare held fuel t [.slice a len cap] = some x) (hw : ∀ n ∈ x.1.weights Try.prog t, n ≤ reachBytes) : len ≤ 140737488351232 := by
  rcases open_ints hu he hc h with ⟨hcs, _⟩ | ⟨y, l, c, zs, hcs, _, hl, hm, hz, hx, hcell, hwz⟩
  · simp at hcs
    omega
  · simp at hcs
    obtain ⟨_, rfl, rfl⟩ := hcs
    have hl2 : len ≤ zs.length := by
      rw [hz]
      split
      · exact hl
      · exact Nat.le_refl _
    subst hx
    have := hw _ (by simp only [DataW.weights, hu]; exact List.mem_cons_self ..)
    have h1 : ((lits k (zs.take len) : List (DataW H)).length + (lits k (zs.drop len) : List (DataW H)).length) = zs.length := by simp [lits]; omega
    rw [h1] at this
    have h2 : zs.length * 1 ≤ zs.length * Try.prog.bytesOf e := Nat.mul_le_mul_left _ hb
    have h3 : reachBytes = 140737488351232 := rfl
    omega
end Go.Proofs.Ytcihfjfbcfgidaa
