/- What a row tells of an argument that is a block, and of a slice of blocks. -/
import Derived.Test.YtcihfjfbcfgidaaOpen
import Derived.Test.YtcihfjfbcfgidaaOpenB
import Derived.Test.YtcihfjfbcfgidaaBase
import Derived.ChangeSame
import Derived.Deep.Slices
import Derived.Deep.Strs
namespace Go.Proofs.Ytcihfjfbcfgidaa
open Go.ChangeShapes Go.WideShapes Go.ChangeAt Go.RowKit

def IntV (y : Int) : Prop := (Lit.int .i64 y).wf = true
theorem cellsI : Try.prog.cellsOf 3 = 1 := by kernel_rfl
theorem cellsU : Try.prog.cellsOf 24 = 1 := by kernel_rfl
theorem cellsSt : Try.prog.cellsOf 23 = 2 := by kernel_rfl
theorem cellsBk : Try.prog.cellsOf 26 = 3 := by kernel_rfl

/-- A block that came in: its stamp, its data. -/
structure Bk where
  s1 : Int
  s2 : Int
  A : Option Addr
  len : Nat
  cap : Nat
  bs : List Int
instance : Inhabited Bk := ⟨⟨0, 0, Option.none, 0, 0, []⟩⟩
def Bk.cells (x : Bk) : List Value := [.int .i64 x.s1, .int .i64 x.s2, .slice x.A x.len x.cap]
structure Bk.Raw (w : World) (x : Bk) : Prop where
  nums : Nums .u8 w x.A x.bs
  len : x.bs.length = x.len
  bytes : ∀ c ∈ x.bs, 0 ≤ c ∧ c ≤ 255
  nil : x.A = Option.none → x.cap = 0
  s1 : IntV x.s1
  s2 : IntV x.s2
  most : x.len ≤ 140737488351232
theorem Bk.Raw.grew {w w' : World} {x : Bk} (h : x.Raw w) (hk : Keeps None w w') : x.Raw w' := ⟨h.nums.grew hk, h.len, h.bytes, h.nil, h.s1, h.s2, h.most⟩
def BksAt (w : World) (A : Option Addr) (l : List Bk) : Prop :=
  ∀ j x, l[j]? = some x → ∃ b o, A = some ⟨b, o, Option.none⟩ ∧ ∀ i v, x.cells[i]? = some v → w.cell? ⟨b, o + j * 3 + i, Option.none⟩ = some v
theorem BksAt.grew {w w' : World} {A : Option Addr} {l : List Bk} (h : BksAt w A l) (hk : Keeps None w w') : BksAt w' A l := by
  intro j x hx
  obtain ⟨b, o, e, h1⟩ := h j x hx
  exact ⟨b, o, e, fun i v hv => hk.cell (h1 i v hv) id⟩

theorem trod_stamp {H : Type} {enc : TypeId × Value → H} {w : World} {base : Nat} {spare : Nat → Bool} {held : Bool} {fuel : Nat} {c0 c1 : Value} {x : DataW H × List MemPlace}
    (h : DataW.trod enc Try.prog w base spare held fuel 23 [c0, c1] = some x) : ∃ a b : Int, c0 = .int .i64 a ∧ c1 = .int .i64 b ∧ IntV a ∧ IntV b := by
  obtain ⟨y0, y1, n, _, _, q0, q1⟩ := trod_struct2 Try.underlying23 h
  have q0 : DataW.trod enc Try.prog w base spare held n 3 (([c0, c1].drop 0).take (Try.prog.cellsOf 3)) = some y0 := q0
  have q1 : DataW.trod enc Try.prog w base spare held n 3 (([c0, c1].drop 1).take (Try.prog.cellsOf 3)) = some y1 := q1
  rw [cellsI] at q0 q1
  obtain ⟨v0, r0, _, w0⟩ := DataW.trod_int (k := .i64) Try.underlying3 q0
  obtain ⟨v1, r1, _, w1⟩ := DataW.trod_int (k := .i64) Try.underlying3 q1
  simp at r0 r1
  exact ⟨v0, v1, r0, r1, w0, w1⟩

/-- A block, wherever it lies. -/
theorem trod_block {H : Type} {enc : TypeId × Value → H} {W : World} {base : Nat} {spare : Nat → Bool} {held : Bool} {fuel : Nat} {c0 c1 c2 : Value} {x : DataW H × List MemPlace}
    (h : DataW.trod enc Try.prog W base spare held fuel 26 [c0, c1, c2] = some x) (hw : ∀ n ∈ x.1.weights Try.prog 26, n ≤ reachBytes) :
    ∃ y : Bk, y.Raw W ∧ [c0, c1, c2] = y.cells := by
  obtain ⟨y0, y1, n', hagg, _, q0, q1⟩ := trod_struct2 Try.underlying26 h
  have q0 : DataW.trod enc Try.prog W base spare held n' 23 (([c0, c1, c2].drop 0).take (Try.prog.cellsOf 23)) = some y0 := q0
  have q1 : DataW.trod enc Try.prog W base spare held n' 24 (([c0, c1, c2].drop 2).take (Try.prog.cellsOf 24)) = some y1 := q1
  rw [cellsSt] at q0
  rw [cellsU] at q1
  obtain ⟨v0, v1, r0, r1, w0, w1⟩ := trod_stamp q0
  obtain ⟨a, l, c, zs, r2, g1, g2, g3, g4, g5, g6⟩ := open_bytes_at Try.underlying24 Try.underlying5 (by kernel_rfl) q1
  simp at r2
  subst r0 r1 r2
  have hlen4 : l ≤ 140737488351232 := len_of_weights Try.underlying24 Try.underlying5 (by kernel_rfl) (of_decide_eq_true (by kernel_rfl)) q1 (fun n hn => by
    refine hw n ?_
    have hagg' : x.1 = .agg [y0.1, y1.1] := by rw [hagg]
    rw [hagg']
    simp only [DataW.weights, Try.underlying26, List.map_cons, List.map_nil, DataW.weightsEach, List.mem_append]
    exact .inr (.inl hn))
  exact ⟨⟨v0, v1, a, l, c, zs⟩, ⟨g2, g1, fun c hc => wf_u8 (g3 c hc), g6, w0, w1, hlen4⟩, rfl⟩

set_option maxRecDepth 100000 in
theorem open_block {H : Type} {enc : TypeId × Value → H} {W : World} {base b0 : Nat} {spare : Nat → Bool} {held : Bool} {v : Value} {d : DataW H} {ps : List MemPlace} {ts : List TypeId} {ds : List (DataW H)} {j : Nat}
    (hsz : (DataW.weightsEach Try.prog ts ds).all (· ≤ reachBytes) = true) (ht : ts[j]? = some 26) (hd : ds[j]? = some d) (hv : Value.okWide Try.prog W .any b0 26 v)
    (h : DataW.Trod enc Try.prog W base spare held 26 v d ps) :
    ∃ y : Bk, v = .agg y.cells.toArray ∧ y.Raw W := by
  obtain ⟨cs, rfl, hcs⟩ := okWide_struct Try.underlying26 hv
  rw [cellsBk] at hcs
  obtain ⟨fuel, hf⟩ := h
  obtain ⟨l⟩ := cs
  match l, hcs with
  | [c0, c1, c2], _ =>
    have hf : DataW.trod enc Try.prog W base spare held fuel 26 [c0, c1, c2] = some (d, ps) := by simpa [Value.cells] using hf
    obtain ⟨y, hy, hc⟩ := trod_block hf (fun n hn => by
      have := List.all_eq_true.1 hsz _ (DataW.weights_mem_each ht hd n hn)
      simpa using this)
    exact ⟨y, by rw [← hc], hy⟩

set_option maxRecDepth 100000 in
theorem open_blocks {H : Type} {enc : TypeId × Value → H} {W : World} {base : Nat} {spare : Nat → Bool} {held : Bool} {a : Option Addr} {len cap : Nat} {d : DataW H} {ps : List MemPlace} {ts : List TypeId} {ds : List (DataW H)} {j : Nat}
    (hsz : (DataW.weightsEach Try.prog ts ds).all (· ≤ reachBytes) = true) (ht : ts[j]? = some 27) (hd : ds[j]? = some d)
    (h : DataW.Trod enc Try.prog W base spare held 27 (.slice a len cap) d ps) :
    ∃ its : List Bk, its.length = len ∧ BksAt W a its ∧ (∀ x ∈ its, x.Raw W) ∧ len ≤ 140737488351232 ∧ len ≤ cap := by
  obtain ⟨fuel, hf⟩ := h
  rcases Deep.open_slice Try.underlying27 hf with ⟨hcs, _⟩ | ⟨x, l, c, m, n, D, Pl, hcs, _, hl, hm, hmm, hx, hel⟩
  · simp [Value.cells] at hcs
    obtain ⟨rfl, rfl, rfl⟩ := hcs
    exact ⟨[], rfl, fun j x hx => by simp at hx, by simp, by omega, Nat.le_refl _⟩
  · simp [Value.cells] at hcs
    obtain ⟨rfl, rfl, rfl⟩ := hcs
    obtain ⟨hx, _⟩ := Prod.mk.inj hx
    subst hx
    have z := sized_slice hsz ht hd Try.underlying27
    have hB : 1 ≤ Try.prog.bytesOf 26 := of_decide_eq_true (by kernel_rfl)
    have hlm : len ≤ m := by rw [hmm]; split <;> omega
    have hlen : len ≤ 140737488351232 := by
      have h1 : len * 1 ≤ ((List.range len).map D).length * Try.prog.bytesOf 26 := by
        rw [List.length_map, List.length_range]; exact Nat.mul_le_mul_left _ hB
      have h2 : ((List.range len).map D).length * Try.prog.bytesOf 26 ≤ reachBytes := Nat.le_trans (Nat.mul_le_mul_right _ (Nat.le_add_right _ _)) z
      have h3 : reachBytes = 140737488351232 := rfl
      omega
    have key : ∀ i, i < len → ∃ y : Bk, y.Raw W ∧ ∃ b o, x = ⟨b, o, Option.none⟩ ∧ ∀ q v, y.cells[q]? = some v → W.cell? ⟨b, o + i * 3 + q, Option.none⟩ = some v := by
      intro i hi
      obtain ⟨cs', h1, h2⟩ := hel i (by omega)
      rw [cellsBk] at h1
      obtain ⟨_, hcl, hcell⟩ := World.cells?_some h1
      match cs', hcl with
      | [c0, c1, c2], _ =>
        obtain ⟨y, hy, hc⟩ := trod_block h2 (fun n hn => by
          have hall : ∀ n ∈ (DataW.slice ((List.range len).map D) ((List.range (m - len)).map fun j => D (len + j))).weights Try.prog 27, n ≤ reachBytes := fun n hn => by
            have := List.all_eq_true.1 hsz _ (DataW.weights_mem_each ht hd n hn)
            simpa using this
          exact hall n (weights_elem Try.underlying27 (List.mem_map.2 ⟨i, by simpa using hi, rfl⟩) hn))
        obtain ⟨b, off, spot⟩ := x
        have hspot : spot = Option.none := by
          obtain ⟨cs0, p1, _⟩ := hel 0 (by omega)
          rw [cellsBk] at p1
          obtain ⟨_, pl, pc⟩ := World.cells?_some p1
          have p0 := pc 0 (by omega)
          rw [List.getElem?_eq_getElem (by omega)] at p0
          simpa [Addr.add] using World.cell?_spot p0
        subst hspot
        refine ⟨y, hy, b, off, rfl, fun q v hv => ?_⟩
        have hq : q < 3 := by have := (List.getElem?_eq_some_iff.1 hv).1; simpa [Bk.cells] using this
        have kq := hcell q hq
        rw [Addr.add_lit, Addr.add_lit] at kq
        rw [kq, hc]
        exact hv
    obtain ⟨F, hF⟩ := Deep.choose_lt key
    refine ⟨(List.range len).map F, by simp, ?_, ?_, hlen, hl⟩
    · intro j y hy
      have hj : j < len := by have := (List.getElem?_eq_some_iff.1 hy).1; simpa using this
      have e1 : F j = y := by simpa [hj] using hy
      obtain ⟨-, b, o, e, h1⟩ := hF j hj
      rw [← e1, e]
      exact ⟨b, o, rfl, h1⟩
    · intro y hy
      obtain ⟨j, hj, rfl⟩ := List.mem_map.1 hy
      exact (hF j (by simpa using hj)).1
end Go.Proofs.Ytcihfjfbcfgidaa
