/- What a row tells of an argument that is a slice of slices of bytes. -/
import Derived.Test.YtcplogdaepmpnaaOpen
import Derived.Test.YtcplogdaepmpnaaLend
import Derived.Test.YtcplogdaepmpnaaOpenB
import Derived.Deep.Slices
import Derived.Deep.Strs
namespace Go.Proofs.Ytcplogdaepmpnaa
open Go.ChangeShapes Go.WideShapes Go.ChangeAt Go.RowKit

structure By where
  A : Option Addr
  len : Nat
  cap : Nat
  bs : List Int
instance : Inhabited By := ⟨⟨Option.none, 0, 0, []⟩⟩
structure By.Raw (w : World) (x : By) : Prop where
  nums : Nums .u8 w x.A x.bs
  len : x.bs.length = x.len
  bytes : ∀ c ∈ x.bs, 0 ≤ c ∧ c ≤ 255
  nil : x.A = Option.none → x.cap = 0
  most : x.len ≤ 140737488351232
theorem By.Raw.grew {w w' : World} {x : By} (h : x.Raw w) (hk : Keeps None w w') : x.Raw w' := ⟨h.nums.grew hk, h.len, h.bytes, h.nil, h.most⟩
def BysAt (w : World) (A : Option Addr) (l : List By) : Prop :=
  ∀ j x, l[j]? = some x → ∃ b o, A = some ⟨b, o, Option.none⟩ ∧ w.cell? ⟨b, o + j, Option.none⟩ = some (.slice x.A x.len x.cap)
theorem BysAt.grew {w w' : World} {A : Option Addr} {l : List By} (h : BysAt w A l) (hk : Keeps None w w') : BysAt w' A l := by
  intro j x hx
  obtain ⟨b, o, e, h1⟩ := h j x hx
  exact ⟨b, o, e, hk.cell h1 id⟩

set_option maxRecDepth 100000 in
theorem open_bytess {H : Type} {enc : TypeId × Value → H} {W : World} {base : Nat} {spare : Nat → Bool} {held : Bool} {a : Option Addr} {len cap : Nat} {d : DataW H} {ps : List MemPlace} {ts : List TypeId} {ds : List (DataW H)} {j : Nat}
    (hsz : (DataW.weightsEach Try.prog ts ds).all (· ≤ reachBytes) = true) (ht : ts[j]? = some 23) (hd : ds[j]? = some d)
    (h : DataW.Trod enc Try.prog W base spare held 23 (.slice a len cap) d ps) :
    ∃ l : List By, l.length = len ∧ BysAt W a l ∧ (∀ x ∈ l, x.Raw W) ∧ len ≤ 140737488351232 ∧ len ≤ cap := by
  obtain ⟨fuel, hf⟩ := h
  rcases Deep.open_slice Try.underlying23 hf with ⟨hcs, _⟩ | ⟨x, l, c, m, n, D, Pl, hcs, _, hl, hm, hmm, hx, hel⟩
  · simp [Value.cells] at hcs
    obtain ⟨rfl, rfl, rfl⟩ := hcs
    exact ⟨[], rfl, fun j x hx => by simp at hx, by simp, by omega, Nat.le_refl _⟩
  · simp [Value.cells] at hcs
    obtain ⟨rfl, rfl, rfl⟩ := hcs
    obtain ⟨hx, _⟩ := Prod.mk.inj hx
    subst hx
    have z := sized_slice hsz ht hd Try.underlying23
    have hB : 1 ≤ Try.prog.bytesOf 28 := of_decide_eq_true (by kernel_rfl)
    have hlm : len ≤ m := by rw [hmm]; split <;> omega
    have hlen : len ≤ 140737488351232 := by
      have h1 : len * 1 ≤ ((List.range len).map D).length * Try.prog.bytesOf 28 := by
        rw [List.length_map, List.length_range]; exact Nat.mul_le_mul_left _ hB
      have h2 : ((List.range len).map D).length * Try.prog.bytesOf 28 ≤ reachBytes := Nat.le_trans (Nat.mul_le_mul_right _ (Nat.le_add_right _ _)) z
      have h3 : reachBytes = 140737488351232 := rfl
      omega
    have key : ∀ i, i < len → ∃ y : By, y.Raw W ∧ ∃ b o, x = ⟨b, o, Option.none⟩ ∧ W.cell? ⟨b, o + i, Option.none⟩ = some (.slice y.A y.len y.cap) := by
      intro i hi
      obtain ⟨cs', h1, h2⟩ := hel i (by omega)
      have hc1 : Try.prog.cellsOf 28 = 1 := by kernel_rfl
      rw [hc1] at h1
      obtain ⟨_, hcl, hcell⟩ := World.cells?_some h1
      obtain ⟨a, l, c, zs, r2, g1, g2, g3, g4, g5, g6⟩ := open_bytes_at Try.underlying28 Try.underlying5 (by kernel_rfl) h2
      subst r2
      have hlen4 : l ≤ 140737488351232 := len_of_weights Try.underlying28 Try.underlying5 (by kernel_rfl) (of_decide_eq_true (by kernel_rfl)) h2 (fun n hn => by
        have hall : ∀ n ∈ (DataW.slice ((List.range len).map D) ((List.range (m - len)).map fun j => D (len + j))).weights Try.prog 23, n ≤ reachBytes := fun n hn => by
          have := List.all_eq_true.1 hsz _ (DataW.weights_mem_each ht hd n hn)
          simpa using this
        exact hall n (weights_elem Try.underlying23 (List.mem_map.2 ⟨i, by simpa using hi, rfl⟩) hn))
      have k0 := hcell 0 (by omega)
      obtain ⟨b, off, spot⟩ := x
      have hspot : spot = Option.none := by
        obtain ⟨cs0, p1, _⟩ := hel 0 (by omega)
        rw [hc1] at p1
        obtain ⟨_, pl, pc⟩ := World.cells?_some p1
        have p0 := pc 0 (by omega)
        rw [List.getElem?_eq_getElem (by omega)] at p0
        simpa [Addr.add] using World.cell?_spot p0
      subst hspot
      rw [Addr.add_lit] at k0
      refine ⟨⟨a, l, c, zs⟩, ⟨g2, g1, fun c hc => wf_u8 (g3 c hc), g6, hlen4⟩, b, off, rfl, ?_⟩
      have k1 : W.cell? ((⟨b, off + i * 1, Option.none⟩ : Addr).add 0) = some (.slice a l c) := k0
      rw [Addr.add_lit, Nat.mul_one, Nat.add_zero] at k1
      exact k1
    obtain ⟨F, hF⟩ := Deep.choose_lt key
    refine ⟨(List.range len).map F, by simp, ?_, ?_, hlen, hl⟩
    · intro j y hy
      have hj : j < len := by have := (List.getElem?_eq_some_iff.1 hy).1; simpa using this
      have e1 : F j = y := by simpa [hj] using hy
      obtain ⟨-, b, o, e, h1⟩ := hF j hj
      rw [← e1, e]
      exact ⟨b, o, rfl, h1⟩
    · intro y hy
      obtain ⟨j, hj, rfl⟩ := List.mem_map.1 hy
      exact (hF j (by simpa using hj)).1
end Go.Proofs.Ytcplogdaepmpnaa
