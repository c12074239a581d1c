/- What a row tells of an argument that is a slice of things that are put. -/
import Derived.Test.YtnhhmkgcgogddaaOpen
import Derived.Test.YtnhhmkgcgogddaaRefDone
import Derived.Deep.Slices
import Derived.Deep.Strs
namespace Go.Proofs.Ytnhhmkgcgogddaa
open Go.ChangeShapes Go.WideShapes Go.ChangeAt Go.RowKit

instance : Inhabited It := ⟨⟨0, 0, Option.none, 0, 0, []⟩⟩

/-- What a drawn thing is known to be. -/
structure It.Raw (w : World) (x : It) : Prop where
  nums : Nums .u8 w x.A x.bs
  len : x.bs.length = x.len
  bytes : Bytes x.bs
  nil : x.A = Option.none → x.cap = 0
  n : -9223372036854775808 ≤ x.n ∧ x.n ≤ 9223372036854775807
  kind : -9223372036854775808 ≤ x.kind ∧ x.kind ≤ 9223372036854775807
  most : x.len ≤ maxLen

theorem open_bytes_at {H : Type} {enc : TypeId × Value → H} {W : World} {base : Nat} {spare : Nat → Bool} {held : Bool} {t e : TypeId} {k : IntKind} {cs : List Value} {fuel : Nat} {x : DataW H × List MemPlace}
    (hu : Try.prog.underlying t = some (.slice e)) (he : Try.prog.underlying e = some (.int k)) (hc : Try.prog.cellsOf e = 1)
    (h : DataW.trod enc Try.prog W base spare held fuel t cs = some x) :
    ∃ (a : Option Addr) (len cap : Nat) (zs : List Int), cs = [.slice a len cap] ∧ zs.length = len ∧ Nums k W a zs ∧ (∀ x ∈ zs, (Lit.int k x).wf = true) ∧ len ≤ cap ∧ cap ≤ maxLen ∧ (a = Option.none → cap = 0) := by
  rcases open_ints hu he hc h with ⟨hcs, _⟩ | ⟨x, len, cap, zs, hcs, _, hl, hm, hz, hx, hcell, hwz⟩
  · exact ⟨Option.none, 0, 0, [], hcs, rfl, Nums.nil _ _ _, by simp, Nat.le_refl _, Nat.zero_le _, fun _ => rfl⟩
  · have hl2 : len ≤ zs.length := by
      rw [hz]
      split
      · exact hl
      · exact Nat.le_refl _
    refine ⟨_, _, _, zs.take len, hcs, by simp; omega, ?_, fun x hx => hwz x (List.mem_of_mem_take hx), hl, hm, fun e => by cases e⟩
    intro i hi
    have hi2 : i < len ∧ i < zs.length := by simpa [Nat.lt_min] using hi
    have hc2 := hcell i hi2.2
    obtain ⟨b, off, spot⟩ := x
    have hspot : spot = Option.none := by simpa [Addr.add] using World.cell?_spot (hcell 0 (by omega))
    subst hspot
    refine ⟨b, off, rfl, ?_⟩
    rw [Addr.add_lit] at hc2
    rw [hc2]
    simp [List.getD, hi2.1]

set_option maxRecDepth 100000 in
theorem open_items {H : Type} {enc : TypeId × Value → H} {W : World} {base : Nat} {spare : Nat → Bool} {held : Bool} {a : Option Addr} {len cap : Nat} {d : DataW H} {ps : List MemPlace} {ts : List TypeId} {ds : List (DataW H)} {j : Nat}
    (hsz : (DataW.weightsEach Try.prog ts ds).all (· ≤ reachBytes) = true) (ht : ts[j]? = some 28) (hd : ds[j]? = some d)
    (h : DataW.Trod enc Try.prog W base spare held 28 (.slice a len cap) d ps) :
    ∃ its : List It, its.length = len ∧ ItsAt W a its ∧ (∀ x ∈ its, x.Raw W) ∧ len ≤ 140737488351232 ∧ len ≤ cap := by
  obtain ⟨fuel, hf⟩ := h
  rcases Deep.open_slice Try.underlying28 hf with ⟨hcs, _⟩ | ⟨x, l, c, m, n, D, Pl, hcs, _, hl, hm, hmm, hx, hel⟩
  · simp [Value.cells] at hcs
    obtain ⟨rfl, rfl, rfl⟩ := hcs
    exact ⟨[], rfl, fun j x hx => by simp at hx, by simp, by omega, Nat.le_refl _⟩
  · simp [Value.cells] at hcs
    obtain ⟨rfl, rfl, rfl⟩ := hcs
    obtain ⟨hx, _⟩ := Prod.mk.inj hx
    subst hx
    have z := sized_slice hsz ht hd Try.underlying28
    have hB : 1 ≤ Try.prog.bytesOf 32 := of_decide_eq_true (by kernel_rfl)
    have hlm : len ≤ m := by rw [hmm]; split <;> omega
    have hlen : len ≤ 140737488351232 := by
      have h1 : len * 1 ≤ ((List.range len).map D).length * Try.prog.bytesOf 32 := by
        rw [List.length_map, List.length_range]; exact Nat.mul_le_mul_left _ hB
      have h2 : ((List.range len).map D).length * Try.prog.bytesOf 32 ≤ reachBytes := Nat.le_trans (Nat.mul_le_mul_right _ (Nat.le_add_right _ _)) z
      have h3 : reachBytes = 140737488351232 := rfl
      omega
    have key : ∀ i, i < len → ∃ y : It, y.Raw W ∧ ∃ b o, x = ⟨b, o, Option.none⟩ ∧ W.cell? ⟨b, o + i * 3, Option.none⟩ = some (.int .i64 y.kind) ∧ W.cell? ⟨b, o + i * 3 + 1, Option.none⟩ = some (.int .i64 y.n) ∧ W.cell? ⟨b, o + i * 3 + 2, Option.none⟩ = some (.slice y.A y.len y.cap) := by
      intro i hi
      obtain ⟨cs', h1, h2⟩ := hel i (by omega)
      have hc3 : Try.prog.cellsOf 32 = 3 := by kernel_rfl
      rw [hc3] at h1
      obtain ⟨_, hcl, hcell⟩ := World.cells?_some h1
      obtain ⟨y0, y1, y2, n', _, _, q0, q1, q2⟩ := Deep.trod_struct3 Try.underlying32 h2
      match cs', hcl with
      | [c0, c1, c2], _ =>
        have k0 := hcell 0 (by omega)
        have k1 := hcell 1 (by omega)
        have k2 := hcell 2 (by omega)
        have ei : Try.prog.cellsOf 3 = 1 := by kernel_rfl
        have eb : Try.prog.cellsOf 23 = 1 := by kernel_rfl
        have q0 : DataW.trod enc Try.prog W base spare held n' 3 (([c0, c1, c2].drop 0).take (Try.prog.cellsOf 3)) = some y0 := q0
        have q1 : DataW.trod enc Try.prog W base spare held n' 3 (([c0, c1, c2].drop 1).take (Try.prog.cellsOf 3)) = some y1 := q1
        have q2 : DataW.trod enc Try.prog W base spare held n' 23 (([c0, c1, c2].drop 2).take (Try.prog.cellsOf 23)) = some y2 := q2
        rw [ei] at q0 q1
        rw [eb] at q2
        obtain ⟨v0, r0, _, w0⟩ := DataW.trod_int (k := .i64) Try.underlying3 q0
        obtain ⟨v1, r1, _, w1⟩ := DataW.trod_int (k := .i64) Try.underlying3 q1
        obtain ⟨a, l, c, zs, r2, g1, g2, g3, g4, g5, g6⟩ := open_bytes_at Try.underlying23 Try.underlying5 (by kernel_rfl) q2
        simp at r0 r1 r2
        subst r0 r1 r2
        obtain ⟨b, off, spot⟩ := x
        have hspot : spot = Option.none := by
          obtain ⟨cs0, p1, _⟩ := hel 0 (by omega)
          rw [hc3] at p1
          obtain ⟨_, pl, pc⟩ := World.cells?_some p1
          have p0 := pc 0 (by omega)
          rw [List.getElem?_eq_getElem (by omega)] at p0
          simpa [Addr.add] using World.cell?_spot p0
        subst hspot
        rw [Addr.add_lit, Addr.add_lit] at k0 k1 k2
        exact ⟨⟨v0, v1, a, l, c, zs⟩, ⟨g2, g1, fun c hc => wf_u8 (g3 c hc), g6, wf_i64 w1, wf_i64 w0, Nat.le_trans g4 g5⟩, b, off, rfl, k0, k1, k2⟩
    obtain ⟨F, hF⟩ := Deep.choose_lt key
    refine ⟨(List.range len).map F, by simp, ?_, ?_, hlen, hl⟩
    · intro j y hy
      have hj : j < len := by have := (List.getElem?_eq_some_iff.1 hy).1; simpa using this
      have e1 : F j = y := by simpa [hj] using hy
      obtain ⟨-, b, o, e, h1, h2, h3⟩ := hF j hj
      rw [← e1, e]
      exact ⟨b, o, rfl, h1, h2, h3⟩
    · intro y hy
      obtain ⟨j, hj, rfl⟩ := List.mem_map.1 hy
      exact (hF j (by simpa using hj)).1
end Go.Proofs.Ytnhhmkgcgogddaa
