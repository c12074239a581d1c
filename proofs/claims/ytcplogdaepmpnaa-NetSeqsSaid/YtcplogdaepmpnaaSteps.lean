/- What a row tells of an argument that is a slice of steps. -/
import Derived.Test.YtcplogdaepmpnaaOpen
import Derived.Test.YtcplogdaepmpnaaOpenB
import Derived.Test.YtcplogdaepmpnaaNetExec
import Derived.Deep.Slices
import Derived.Deep.Strs
namespace Go.Proofs.Ytcplogdaepmpnaa
open Go.ChangeShapes Go.WideShapes Go.ChangeAt Go.RowKit

structure Stp where
  kind : Int
  fr : Ad
  to : Ad
  ct : Int
  A : Option Addr
  len : Nat
  cap : Nat
  bs : List Int
instance : Inhabited Stp := ⟨⟨0, (false, 0), (false, 0), 0, Option.none, 0, 0, []⟩⟩
def Stp.cells (x : Stp) : List Value := [.int .i64 x.kind, .bool x.fr.1, .int .i64 x.fr.2, .bool x.to.1, .int .i64 x.to.2, .int .i64 x.ct, .slice x.A x.len x.cap]
structure Stp.Raw (w : World) (x : Stp) : Prop where
  nums : Nums .u8 w x.A x.bs
  len : x.bs.length = x.len
  bytes : ∀ c ∈ x.bs, 0 ≤ c ∧ c ≤ 255
  nil : x.A = Option.none → x.cap = 0
  kind : IntV x.kind
  fr : IntV x.fr.2
  to : IntV x.to.2
  ct : IntV x.ct
  most : x.len ≤ 140737488351232
theorem Stp.Raw.grew {w w' : World} {x : Stp} (h : x.Raw w) (hk : Keeps None w w') : x.Raw w' := ⟨h.nums.grew hk, h.len, h.bytes, h.nil, h.kind, h.fr, h.to, h.ct, h.most⟩
def StpsAt (w : World) (A : Option Addr) (l : List Stp) : Prop :=
  ∀ j x, l[j]? = some x → ∃ b o, A = some ⟨b, o, Option.none⟩ ∧ ∀ i v, x.cells[i]? = some v → w.cell? ⟨b, o + j * 7 + i, Option.none⟩ = some v
theorem StpsAt.grew {w w' : World} {A : Option Addr} {l : List Stp} (h : StpsAt w A l) (hk : Keeps None w w') : StpsAt w' A l := by
  intro j x hx
  obtain ⟨b, o, e, h1⟩ := h j x hx
  exact ⟨b, o, e, fun i v hv => hk.cell (h1 i v hv) id⟩

theorem trod_struct5 {H : Type} {enc : TypeId × Value → H} {P : Program} {w : World} {base : Nat} {spare : Nat → Bool} {held : Bool} {t : TypeId} {f0 f1 f2 f3 f4 : Field} {fuel : Nat} {cs : List Value} {x : DataW H × List MemPlace} (ht : P.underlying t = some (.struct #[f0, f1, f2, f3, f4])) (h : DataW.trod enc P w base spare held fuel t cs = some x) :
    ∃ y0 y1 y2 y3 y4 n, x.1 = .agg [y0.1, y1.1, y2.1, y3.1, y4.1] ∧ DataW.trod enc P w base spare held n f0.type ((cs.drop f0.offset).take (P.cellsOf f0.type)) = some y0 ∧
      DataW.trod enc P w base spare held n f1.type ((cs.drop f1.offset).take (P.cellsOf f1.type)) = some y1 ∧ DataW.trod enc P w base spare held n f2.type ((cs.drop f2.offset).take (P.cellsOf f2.type)) = some y2 ∧
      DataW.trod enc P w base spare held n f3.type ((cs.drop f3.offset).take (P.cellsOf f3.type)) = some y3 ∧ DataW.trod enc P w base spare held n f4.type ((cs.drop f4.offset).take (P.cellsOf f4.type)) = some y4 := by
  obtain ⟨xs, n, _, rfl, hl, hlen, hf⟩ := DataW.trod_struct ht h
  match xs, hlen with
  | [y0, y1, y2, y3, y4], _ => exact ⟨y0, y1, y2, y3, y4, n, rfl, by simpa using hf 0 f0 rfl, by simpa using hf 1 f1 rfl, by simpa using hf 2 f2 rfl, by simpa using hf 3 f3 rfl, by simpa using hf 4 f4 rfl⟩

theorem trod_ad {H : Type} {enc : TypeId × Value → H} {w : World} {base : Nat} {spare : Nat → Bool} {held : Bool} {fuel : Nat} {c0 c1 : Value} {x : DataW H × List MemPlace}
    (h : DataW.trod enc Try.prog w base spare held fuel 27 [c0, c1] = some x) : ∃ a : Ad, c0 = .bool a.1 ∧ c1 = .int .i64 a.2 ∧ IntV a.2 := by
  obtain ⟨y0, y1, n, _, _, q0, q1⟩ := trod_struct2 Try.underlying27 h
  have q0 : DataW.trod enc Try.prog w base spare held n 4 (([c0, c1].drop 0).take (Try.prog.cellsOf 4)) = some y0 := q0
  have q1 : DataW.trod enc Try.prog w base spare held n 3 (([c0, c1].drop 1).take (Try.prog.cellsOf 3)) = some y1 := q1
  rw [cellsB] at q0
  rw [cellsI] at q1
  obtain ⟨v0, r0, _⟩ := DataW.trod_bool Try.underlying4 q0
  obtain ⟨v1, r1, _, w1⟩ := DataW.trod_int (k := .i64) Try.underlying3 q1
  simp at r0 r1
  exact ⟨(v0, v1), r0, r1, w1⟩

set_option maxRecDepth 100000 in
theorem open_steps {H : Type} {enc : TypeId × Value → H} {W : World} {base : Nat} {spare : Nat → Bool} {held : Bool} {a : Option Addr} {len cap : Nat} {d : DataW H} {ps : List MemPlace} {ts : List TypeId} {ds : List (DataW H)} {j : Nat}
    (hsz : (DataW.weightsEach Try.prog ts ds).all (· ≤ reachBytes) = true) (ht : ts[j]? = some 44) (hd : ds[j]? = some d)
    (h : DataW.Trod enc Try.prog W base spare held 44 (.slice a len cap) d ps) :
    ∃ its : List Stp, its.length = len ∧ StpsAt W a its ∧ (∀ x ∈ its, x.Raw W) ∧ len ≤ 140737488351232 ∧ len ≤ cap := by
  obtain ⟨fuel, hf⟩ := h
  rcases Deep.open_slice Try.underlying44 hf with ⟨hcs, _⟩ | ⟨x, l, c, m, n, D, Pl, hcs, _, hl, hm, hmm, hx, hel⟩
  · simp [Value.cells] at hcs
    obtain ⟨rfl, rfl, rfl⟩ := hcs
    exact ⟨[], rfl, fun j x hx => by simp at hx, by simp, by omega, Nat.le_refl _⟩
  · simp [Value.cells] at hcs
    obtain ⟨rfl, rfl, rfl⟩ := hcs
    obtain ⟨hx, _⟩ := Prod.mk.inj hx
    subst hx
    have z := sized_slice hsz ht hd Try.underlying44
    have hB : 1 ≤ Try.prog.bytesOf 53 := of_decide_eq_true (by kernel_rfl)
    have hlm : len ≤ m := by rw [hmm]; split <;> omega
    have hlen : len ≤ 140737488351232 := by
      have h1 : len * 1 ≤ ((List.range len).map D).length * Try.prog.bytesOf 53 := by
        rw [List.length_map, List.length_range]; exact Nat.mul_le_mul_left _ hB
      have h2 : ((List.range len).map D).length * Try.prog.bytesOf 53 ≤ reachBytes := Nat.le_trans (Nat.mul_le_mul_right _ (Nat.le_add_right _ _)) z
      have h3 : reachBytes = 140737488351232 := rfl
      omega
    have key : ∀ i, i < len → ∃ y : Stp, y.Raw W ∧ ∃ b o, x = ⟨b, o, Option.none⟩ ∧ ∀ q v, y.cells[q]? = some v → W.cell? ⟨b, o + i * 7 + q, Option.none⟩ = some v := by
      intro i hi
      obtain ⟨cs', h1, h2⟩ := hel i (by omega)
      have hc7 : Try.prog.cellsOf 53 = 7 := by kernel_rfl
      rw [hc7] at h1
      obtain ⟨_, hcl, hcell⟩ := World.cells?_some h1
      obtain ⟨y0, y1, y2, y3, y4, n', hagg, q0, q1, q2, q3, q4⟩ := trod_struct5 Try.underlying53 h2
      match cs', hcl with
      | [c0, c1, c2, c3, c4, c5, c6], _ =>
        have eb : Try.prog.cellsOf 28 = 1 := by kernel_rfl
        have q0 : DataW.trod enc Try.prog W base spare held n' 3 (([c0, c1, c2, c3, c4, c5, c6].drop 0).take (Try.prog.cellsOf 3)) = some y0 := q0
        have q1 : DataW.trod enc Try.prog W base spare held n' 27 (([c0, c1, c2, c3, c4, c5, c6].drop 1).take (Try.prog.cellsOf 27)) = some y1 := q1
        have q2 : DataW.trod enc Try.prog W base spare held n' 27 (([c0, c1, c2, c3, c4, c5, c6].drop 3).take (Try.prog.cellsOf 27)) = some y2 := q2
        have q3 : DataW.trod enc Try.prog W base spare held n' 3 (([c0, c1, c2, c3, c4, c5, c6].drop 5).take (Try.prog.cellsOf 3)) = some y3 := q3
        have q4 : DataW.trod enc Try.prog W base spare held n' 28 (([c0, c1, c2, c3, c4, c5, c6].drop 6).take (Try.prog.cellsOf 28)) = some y4 := q4
        rw [cellsI] at q0 q3
        rw [cellsAd] at q1 q2
        rw [eb] at q4
        obtain ⟨v0, r0, _, w0⟩ := DataW.trod_int (k := .i64) Try.underlying3 q0
        obtain ⟨a1, r1, r2, w1⟩ := trod_ad q1
        obtain ⟨a2, r3, r4, w2⟩ := trod_ad q2
        obtain ⟨v3, r5, _, w3⟩ := DataW.trod_int (k := .i64) Try.underlying3 q3
        obtain ⟨a, l, c, zs, r6, g1, g2, g3, g4, g5, g6⟩ := open_bytes_at Try.underlying28 Try.underlying5 (by kernel_rfl) q4
        simp at r0 r5 r6
        subst r0 r1 r2 r3 r4 r5 r6
        have hlen4 : l ≤ 140737488351232 := len_of_weights Try.underlying28 Try.underlying5 (by kernel_rfl) (of_decide_eq_true (by kernel_rfl)) q4 (fun n hn => by
          have hall : ∀ n ∈ (DataW.slice ((List.range len).map D) ((List.range (m - len)).map fun j => D (len + j))).weights Try.prog 44, n ≤ reachBytes := fun n hn => by
            have := List.all_eq_true.1 hsz _ (DataW.weights_mem_each ht hd n hn)
            simpa using this
          refine hall n (weights_elem Try.underlying44 (List.mem_map.2 ⟨i, by simpa using hi, rfl⟩) ?_)
          have hagg' : D i = .agg [y0.1, y1.1, y2.1, y3.1, y4.1] := hagg
          rw [hagg']
          simp only [DataW.weights, Try.underlying53, List.map_cons, List.map_nil, DataW.weightsEach, List.mem_append]
          exact .inr (.inr (.inr (.inr (.inl hn)))))
        obtain ⟨b, off, spot⟩ := x
        have hspot : spot = Option.none := by
          obtain ⟨cs0, p1, _⟩ := hel 0 (by omega)
          rw [hc7] at p1
          obtain ⟨_, pl, pc⟩ := World.cells?_some p1
          have p0 := pc 0 (by omega)
          rw [List.getElem?_eq_getElem (by omega)] at p0
          simpa [Addr.add] using World.cell?_spot p0
        subst hspot
        refine ⟨⟨v0, a1, a2, v3, a, l, c, zs⟩, ⟨g2, g1, fun c hc => wf_u8 (g3 c hc), g6, w0, w1, w2, w3, hlen4⟩, b, off, rfl, fun q v hv => ?_⟩
        have hq : q < 7 := by have := (List.getElem?_eq_some_iff.1 hv).1; simpa [Stp.cells] using this
        have kq := hcell q hq
        rw [Addr.add_lit, Addr.add_lit] at kq
        rw [kq]
        exact hv
    obtain ⟨F, hF⟩ := Deep.choose_lt key
    refine ⟨(List.range len).map F, by simp, ?_, ?_, hlen, hl⟩
    · intro j y hy
      have hj : j < len := by have := (List.getElem?_eq_some_iff.1 hy).1; simpa using this
      have e1 : F j = y := by simpa [hj] using hy
      obtain ⟨-, b, o, e, h1⟩ := hF j hj
      rw [← e1, e]
      exact ⟨b, o, rfl, h1⟩
    · intro y hy
      obtain ⟨j, hj, rfl⟩ := List.mem_map.1 hy
      exact (hF j (by simpa using hj)).1
end Go.Proofs.Ytcplogdaepmpnaa
