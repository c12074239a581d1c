/- What a row tells of an argument that is a slice of votes. -/
import Derived.Test.YtghbgcmhahndkaaOpen
import Derived.Test.YtghbgcmhahndkaaKnown
import Derived.Deep.Slices
import Derived.Deep.Strs
namespace Go.Proofs.Ytghbgcmhahndkaa
open Go.ChangeShapes Go.WideShapes Go.ChangeAt Go.RowKit
set_option linter.unusedVariables false

structure Vo where
  s : Int
  x : Int
  look : Bool
instance : Inhabited Vo := ⟨⟨0, 0, false⟩⟩

/-- A slice of votes. -/
def Vs (w : World) (A : Option Addr) (l : List Vo) : Prop :=
  ∀ j x, l[j]? = some x → ∃ b o, A = some ⟨b, o, Option.none⟩ ∧ w.cell? ⟨b, o + j * 3, Option.none⟩ = some (.int .i64 x.s) ∧ w.cell? ⟨b, o + j * 3 + 1, Option.none⟩ = some (.int .i64 x.x) ∧ w.cell? ⟨b, o + j * 3 + 2, Option.none⟩ = some (.bool x.look)
theorem Vs.keeps {S : Nat → Prop} {w w' : World} {A : Option Addr} {l : List Vo} (h : Vs w A l) (hk : Keeps S w w') (hA : Off A S) : Vs w' A l := by
  intro j x hx
  obtain ⟨b, o, e, h1, h2, h3⟩ := h j x hx
  exact ⟨b, o, e, hk.cell h1 (hA b o e), hk.cell h2 (hA b o e), hk.cell h3 (hA b o e)⟩
theorem Vs.grew {w w' : World} {A : Option Addr} {l : List Vo} (h : Vs w A l) (hk : Keeps None w w') : Vs w' A l := h.keeps hk (Off.none_ A)

def Vo.Fine (v : Vo) : Prop := (Lit.int .i64 v.s).wf = true ∧ (Lit.int .i64 v.x).wf = true

set_option maxRecDepth 100000 in
theorem open_votes {H : Type} {enc : TypeId × Value → H} {W : World} {base : Nat} {spare : Nat → Bool} {held : Bool} {a : Option Addr} {len cap : Nat} {d : DataW H} {ps : List MemPlace} {ts : List TypeId} {ds : List (DataW H)} {j : Nat}
    (hsz : (DataW.weightsEach Try.prog ts ds).all (· ≤ reachBytes) = true) (ht : ts[j]? = some 28) (hd : ds[j]? = some d)
    (h : DataW.Trod enc Try.prog W base spare held 28 (.slice a len cap) d ps) :
    ∃ l : List Vo, l.length = len ∧ Vs W a l ∧ (∀ x ∈ l, x.Fine) ∧ len * 24 ≤ 140737488351232 := by
  obtain ⟨fuel, hf⟩ := h
  rcases Deep.open_slice Try.underlying28 hf with ⟨hcs, _⟩ | ⟨x, l, c, m, n, D, Pl, hcs, _, hl, hm, hmm, hx, hel⟩
  · simp [Value.cells] at hcs
    obtain ⟨rfl, rfl, rfl⟩ := hcs
    exact ⟨[], rfl, fun j x hx => by simp at hx, by simp, by omega⟩
  · simp [Value.cells] at hcs
    obtain ⟨rfl, rfl, rfl⟩ := hcs
    obtain ⟨hx, _⟩ := Prod.mk.inj hx
    subst hx
    have z := sized_slice hsz ht hd Try.underlying28
    have hB : Try.prog.bytesOf 37 = 24 := by kernel_rfl
    rw [hB] at z
    have h3 : reachBytes = 140737488351232 := rfl
    have hlm : len ≤ m := by rw [hmm]; split <;> omega
    have key : ∀ i, i < len → ∃ y : Vo, y.Fine ∧ ∃ b o, x = ⟨b, o, Option.none⟩ ∧ W.cell? ⟨b, o + i * 3, Option.none⟩ = some (.int .i64 y.s) ∧ W.cell? ⟨b, o + i * 3 + 1, Option.none⟩ = some (.int .i64 y.x) ∧ W.cell? ⟨b, o + i * 3 + 2, Option.none⟩ = some (.bool y.look) := by
      intro i hi
      obtain ⟨cs', h1, h2⟩ := hel i (by omega)
      have hc3 : Try.prog.cellsOf 37 = 3 := by kernel_rfl
      rw [hc3] at h1
      obtain ⟨_, hcl, hcell⟩ := World.cells?_some h1
      obtain ⟨y0, y1, y2, n', _, _, q0, q1, q2⟩ := Deep.trod_struct3 Try.underlying37 h2
      match cs', hcl with
      | [c0, c1, c2], _ =>
        have k0 := hcell 0 (by omega)
        have k1 := hcell 1 (by omega)
        have k2 := hcell 2 (by omega)
        have ei : Try.prog.cellsOf 3 = 1 := by kernel_rfl
        have eb : Try.prog.cellsOf 4 = 1 := by kernel_rfl
        have q0 : DataW.trod enc Try.prog W base spare held n' 3 (([c0, c1, c2].drop 0).take (Try.prog.cellsOf 3)) = some y0 := q0
        have q1 : DataW.trod enc Try.prog W base spare held n' 3 (([c0, c1, c2].drop 1).take (Try.prog.cellsOf 3)) = some y1 := q1
        have q2 : DataW.trod enc Try.prog W base spare held n' 4 (([c0, c1, c2].drop 2).take (Try.prog.cellsOf 4)) = some y2 := q2
        rw [ei] at q0 q1
        rw [eb] at q2
        obtain ⟨v0, r0, _, w0⟩ := DataW.trod_int (k := .i64) Try.underlying3 q0
        obtain ⟨v1, r1, _, w1⟩ := DataW.trod_int (k := .i64) Try.underlying3 q1
        obtain ⟨v2, r2, _⟩ := DataW.trod_bool Try.underlying4 q2
        simp at r0 r1 r2
        subst r0 r1 r2
        obtain ⟨b, off, spot⟩ := x
        have hspot : spot = Option.none := by
          obtain ⟨cs0, p1, _⟩ := hel 0 (by omega)
          rw [hc3] at p1
          obtain ⟨_, pl, pc⟩ := World.cells?_some p1
          have p0 := pc 0 (by omega)
          rw [List.getElem?_eq_getElem (by omega)] at p0
          simpa [Addr.add] using World.cell?_spot p0
        subst hspot
        rw [Addr.add_lit, Addr.add_lit] at k0 k1 k2
        exact ⟨⟨v0, v1, v2⟩, ⟨w0, w1⟩, b, off, rfl, k0, k1, k2⟩
    obtain ⟨F, hF⟩ := Deep.choose_lt key
    refine ⟨(List.range len).map F, by simp, ?_, ?_, by simp at z; omega⟩
    · intro j y hy
      have hj : j < len := by have := (List.getElem?_eq_some_iff.1 hy).1; simpa using this
      have e1 : F j = y := by simpa [hj] using hy
      obtain ⟨-, b, o, e, h1, h2, h3⟩ := hF j hj
      rw [← e1, e]
      exact ⟨b, o, rfl, h1, h2, h3⟩
    · intro y hy
      obtain ⟨j, hj, rfl⟩ := List.mem_map.1 hy
      exact (hF j (by simpa using hj)).1

set_option maxRecDepth 100000 in
set_option maxHeartbeats 800000 in
theorem stands_any (A : Option Addr) (n cap : Nat) (l : List Int) (s : Int) (w : World) (hA : Nums .i64 w A l) (hn : l.length = n) (hr : n ≤ 140737488351232) :
    Calls Try.prog 22 #[.slice A n cap, .int .i64 s] w fun e w' => Drew w w' ∧ e = .returned (.bool (decide (s ∈ l))) := by
  subst hn
  go_enter Try.func22, Try.ntmps22
  go_wp2
  go_loopw [5] (fun i wr => ∃ k : Nat, k ≤ l.length ∧ i = .int .i64 k ∧ Hid (s ∉ l.take k) ∧ Drew w wr) (fun i _ => l.length - (intOf i).toNat)
  case atStart => exact ⟨0, Nat.zero_le _, rfl, Lib.hid (by simp), Drew.refl _⟩
  case round =>
    obtain ⟨k, hk, rfl, hN, ⟨⟨nd, rfl⟩⟩⟩ := hrel
    by_cases hlt : k < l.length
    · obtain ⟨x, b, o, rfl, hc, hx⟩ := hA.get k hlt
      by_cases he : x = s
      · obtain ⟨t1, t2⟩ := test_eq he
        have hm : Hid (s ∈ l) := Lib.hid (he ▸ List.mem_of_getElem? hx.out)
        clear he hx
        go_wp2
        first | go_ret | (go_quiet (fail); go_wp2; go_ret)
        exact ⟨by first | exact ⟨_, rfl⟩ | exact (Drew.of w nd).more _, ret_bool (by simp [hm.out])⟩
      · obtain ⟨t1, t2⟩ := test_ne he
        have hm : Hid (s ∉ l.take (k + 1)) := Lib.hid (by rw [take_succ_of hx.out]; simp; exact ⟨hN.out, fun e => he e.symm⟩)
        clear he hx
        go_wp2
        first | go_roundw | (go_quiet (fail); go_wp2; go_roundw)
        case rel => exact ⟨k + 1, by omega, by go_num, hm, ⟨_, rfl⟩⟩
        case measure => simp [intOf]; omega
    · obtain rfl : k = l.length := by omega
      go_wp2
      go_ret
      refine ⟨⟨_, rfl⟩, ret_bool ?_⟩
      have := hN.out
      rw [List.take_of_length_le (Nat.le_refl _)] at this
      simp [this]
end Go.Proofs.Ytghbgcmhahndkaa
