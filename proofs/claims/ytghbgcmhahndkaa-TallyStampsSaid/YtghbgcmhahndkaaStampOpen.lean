/- What a row tells of an argument that is a slice of stamps. -/
import Derived.Test.YtghbgcmhahndkaaOpen
import Derived.Test.YtghbgcmhahndkaaStampRef
import Derived.Deep.Slices
import Derived.Deep.Strs
namespace Go.Proofs.Ytghbgcmhahndkaa
open Go.ChangeShapes Go.WideShapes Go.ChangeAt Go.RowKit

set_option maxRecDepth 100000 in
theorem open_stamps {H : Type} {enc : TypeId × Value → H} {W : World} {base : Nat} {spare : Nat → Bool} {held : Bool} {a : Option Addr} {len cap : Nat} {d : DataW H} {ps : List MemPlace} {ts : List TypeId} {ds : List (DataW H)} {j : Nat}
    (hsz : (DataW.weightsEach Try.prog ts ds).all (· ≤ reachBytes) = true) (ht : ts[j]? = some 78) (hd : ds[j]? = some d)
    (h : DataW.Trod enc Try.prog W base spare held 78 (.slice a len cap) d ps) :
    ∃ l : List (Int × Int), l.length = len ∧ St W a l ∧ (∀ x ∈ l, (-9223372036854775808 ≤ x.1 ∧ x.1 ≤ 9223372036854775807) ∧ (-9223372036854775808 ≤ x.2 ∧ x.2 ≤ 9223372036854775807)) ∧ len * 16 ≤ 140737488351232 ∧ (a = Option.none → cap = 0) := by
  obtain ⟨fuel, hf⟩ := h
  rcases Deep.open_slice Try.underlying78 hf with ⟨hcs, _⟩ | ⟨x, l, c, m, n, D, Pl, hcs, _, hl, hm, hmm, hx, hel⟩
  · simp [Value.cells] at hcs
    obtain ⟨rfl, rfl, rfl⟩ := hcs
    exact ⟨[], rfl, fun j x hx => by simp at hx, by simp, by omega, fun _ => rfl⟩
  · simp [Value.cells] at hcs
    obtain ⟨rfl, rfl, rfl⟩ := hcs
    obtain ⟨hx, _⟩ := Prod.mk.inj hx
    subst hx
    have z := sized_slice hsz ht hd Try.underlying78
    have hB : Try.prog.bytesOf 23 = 16 := by kernel_rfl
    rw [hB] at z
    have h3 : reachBytes = 140737488351232 := rfl
    have hlm : len ≤ m := by rw [hmm]; split <;> omega
    have key : ∀ i, i < len → ∃ y : Int × Int, ((-9223372036854775808 ≤ y.1 ∧ y.1 ≤ 9223372036854775807) ∧ (-9223372036854775808 ≤ y.2 ∧ y.2 ≤ 9223372036854775807)) ∧ ∃ b o, x = ⟨b, o, Option.none⟩ ∧ W.cell? ⟨b, o + i * 2, Option.none⟩ = some (.int .i64 y.1) ∧ W.cell? ⟨b, o + i * 2 + 1, Option.none⟩ = some (.int .i64 y.2) := by
      intro i hi
      obtain ⟨cs', h1, h2⟩ := hel i (by omega)
      have hc3 : Try.prog.cellsOf 23 = 2 := by kernel_rfl
      rw [hc3] at h1
      obtain ⟨_, hcl, hcell⟩ := World.cells?_some h1
      obtain ⟨y0, y1, n', _, _, q0, q1⟩ := trod_struct2 Try.underlying23 h2
      match cs', hcl with
      | [c0, c1], _ =>
        have k0 := hcell 0 (by omega)
        have k1 := hcell 1 (by omega)
        have ei : Try.prog.cellsOf 3 = 1 := by kernel_rfl
        have q0 : DataW.trod enc Try.prog W base spare held n' 3 (([c0, c1].drop 0).take (Try.prog.cellsOf 3)) = some y0 := q0
        have q1 : DataW.trod enc Try.prog W base spare held n' 3 (([c0, c1].drop 1).take (Try.prog.cellsOf 3)) = some y1 := q1
        rw [ei] at q0 q1
        obtain ⟨v0, r0, _, w0⟩ := DataW.trod_int (k := .i64) Try.underlying3 q0
        obtain ⟨v1, r1, _, w1⟩ := DataW.trod_int (k := .i64) Try.underlying3 q1
        simp at r0 r1
        subst r0 r1
        obtain ⟨b, off, spot⟩ := x
        have hspot : spot = Option.none := by
          obtain ⟨cs0, p1, _⟩ := hel 0 (by omega)
          rw [hc3] at p1
          obtain ⟨_, pl, pc⟩ := World.cells?_some p1
          have p0 := pc 0 (by omega)
          rw [List.getElem?_eq_getElem (by omega)] at p0
          simpa [Addr.add] using World.cell?_spot p0
        subst hspot
        rw [Addr.add_lit, Addr.add_lit] at k0 k1
        exact ⟨(v0, v1), ⟨wf_i64 w0, wf_i64 w1⟩, b, off, rfl, k0, k1⟩
    obtain ⟨F, hF⟩ := Deep.choose_lt key
    refine ⟨(List.range len).map F, by simp, ?_, ?_, by simp at z; omega, fun e => by cases e⟩
    · intro j y hy
      have hj : j < len := by have := (List.getElem?_eq_some_iff.1 hy).1; simpa using this
      have e1 : F j = y := by simpa [hj] using hy
      obtain ⟨-, b, o, e, h1, h2⟩ := hF j hj
      rw [← e1, e]
      exact ⟨b, o, rfl, h1, h2⟩
    · intro y hy
      obtain ⟨j, hj, rfl⟩ := List.mem_map.1 hy
      exact (hF j (by simpa using hj)).1
end Go.Proofs.Ytghbgcmhahndkaa
