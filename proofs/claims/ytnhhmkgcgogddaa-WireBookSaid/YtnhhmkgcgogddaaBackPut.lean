/- What is put in a row of right things: the invariant of the putting loops. -/
import Derived.Test.YtnhhmkgcgogddaaWireWrites
import Derived.Test.YtnhhmkgcgogddaaRight
namespace Go.Proofs.Ytnhhmkgcgogddaa.putLoop
open Go.RowKit Go.Proofs.Ytnhhmkgcgogddaa.wireWrites
set_option linter.unusedVariables false

structure Good (w : World) (x : It) : Prop where
  ok : x.Ok w
  kind : 1 ≤ x.kind ∧ x.kind ≤ 4
  pos : x.kind = 1 → 0 ≤ x.n

structure InvB (w : World) (g base : Nat) (k : Nat) (vN : Value) (wr : World) : Prop where
  mk :: (out : ∃ (v : Value) (zs : List Int) (got : List It), Wr wr g base v false zs ∧ Now wr base vN got ∧ (∀ b, vN.ownBlock = some b → b ≠ g ∧ ¬ v.ownBlock = some b) ∧ zs = outF got ∧ got.length ≤ k ∧ zs.length ≤ 65546 * k ∧ (∀ x ∈ got, Good w x) ∧ Keeps None w wr)

theorem InvB.next {w : World} {g base k : Nat} {vN : Value} {wr w' : World} (h : InvB w g base k vN wr) (hk : Keeps None wr w') : InvB w g base (k + 1) vN w' := by
  obtain ⟨v, zs, got, a1, a2, a3, a5, a6, a7, a8, a9⟩ := h.out
  exact ⟨v, zs, got, a1.grew hk, a2.keeps hk (fun _ _ f => f), a3, a5, by omega, by omega, a8, a9.trans hk⟩

/-- One thing more. -/
theorem InvB.more {w : World} {g base k : Nat} {wr w1 w2 w3 w4 : World} {v v' vN v'' : Value} {zs : List Int} {got : List It} (x : It) (hgw : g < wr.heap.size) (hbase : w.heap.size ≤ base)
    (hoff : ∀ b, vN.ownBlock = some b → b ≠ g ∧ ¬ v.ownBlock = some b) (hout : zs = outF got) (hgl : got.length ≤ k) (hzl : zs.length ≤ 65546 * k) (hok : ∀ x ∈ got, Good w x) (hx : Good w x)
    (hN : Now wr base vN got) (hK1 : Keeps None w w1) (h01 : Keeps None wr w1)
    (hP : Wr w2 g base v' false (zs ++ itemF x.kind x.n x.bs)) (hv : ∀ b, v.ownBlock = some b → base ≤ b) (hg : w.heap.size ≤ g) (hk2 : Keeps (Wt g v) w1 w2) (hn2 : ∀ b, v'.ownBlock = some b → v.ownBlock = some b ∨ w1.heap.size ≤ b)
    (h23 : Keeps None w2 w3) (hap : w4.ownsRow base 32 3 v'' (got.length + 1) (itCells got ++ [.int .i64 x.kind, .int .i64 x.n, .slice x.A x.len x.cap])) (hk4 : Keeps (OwnB vN) w3 w4) (hloc : v''.ownBlock = vN.ownBlock ∨ v''.ownBlock = some w3.heap.size) :
    InvB w g base (k + 1) v'' w4 := by
  have hNlt := fun b (e : vN.ownBlock = some b) => World.ownsRow.lt hN b e
  have hs1 := h01.size
  have hs2 := hk2.size
  have hs3 := h23.size
  have hvl := fun b (e : v'.ownBlock = some b) => (hP.2.1.lt b e).2
  have hP3 := hP.grew h23
  have hP4 : Wr w4 g base v' _ _ := hP3.keeps hk4 (fun e => (hoff g e).1 rfl) (fun b hb e => by
    rcases hn2 b hb with h | h
    · exact (hoff b e).2 h
    · have := (hNlt b e).2; omega)
  refine ⟨v', _, got ++ [x], hP4, ?_, ?_, ?_, by simp; omega, ?_, ?_, ?_⟩
  · unfold Now
    rw [List.length_append, itCells_snoc]
    exact hap
  · intro b hb
    rcases hloc with e | e
    · rw [e] at hb
      refine ⟨(hoff b hb).1, fun h => ?_⟩
      rcases hn2 b h with h' | h'
      · exact (hoff b hb).2 h'
      · have := (hNlt b hb).2; omega
    · rw [e] at hb
      cases hb
      refine ⟨by omega, fun h => ?_⟩
      have := hvl _ h; omega
  · rw [hout, outF_snoc]; rfl
  · have := itemF_len (kind := x.kind) (n := x.n) (bs := x.bs) (by rw [hx.ok.len]; exact hx.ok.long) hx.ok.n
    rw [List.length_append]; omega
  · intro y hy
    rcases List.mem_append.1 hy with h | h
    · exact hok y h
    · simp at h; subst h; exact hx
  · refine Keeps.andThen (Keeps.trans (Keeps.andThen hK1 hk2 (fun i hi e => ?_)) h23) hk4 (fun i hi e => ?_)
    · rcases e with e | e
      · omega
      · have := hv i e; omega
    · have := (hNlt i e).1; omega
theorem rightK_in (k : Int) : 1 ≤ rightK k ∧ rightK k ≤ 4 := by unfold rightK; split <;> omega
theorem rightN_pos (k n : Int) : rightK k = 1 → 0 ≤ rightN k n := by
  unfold rightK rightN
  split
  · intro h; subst h; split <;> omega
  · intro h; omega
theorem rightN_in (k n : Int) (h : -9223372036854775808 ≤ n ∧ n ≤ 9223372036854775807) : -9223372036854775808 ≤ rightN k n ∧ rightN k n ≤ 9223372036854775807 := by
  unfold rightN; split <;> omega
end Go.Proofs.Ytnhhmkgcgogddaa.putLoop
