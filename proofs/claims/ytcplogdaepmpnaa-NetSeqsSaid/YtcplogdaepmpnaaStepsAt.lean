/- A step loaded and stored. -/
import Derived.Test.YtcplogdaepmpnaaSteps
import Derived.Test.YtcplogdaepmpnaaNetNames2
namespace Go.Proofs.Ytcplogdaepmpnaa
open Go.RowKit

def Stp.val (x : Stp) : Value := .agg #[.int .i64 x.kind, .bool x.fr.1, .int .i64 x.fr.2, .bool x.to.1, .int .i64 x.to.2, .int .i64 x.ct, .slice x.A x.len x.cap]
theorem infoStp : (Try.prog.info? 53).map (·.size) = some 7 := by kernel_rfl
theorem Stp.cells_one (x : Stp) : ∀ u ∈ x.cells, u.oneCell' = true := by
  intro u hu
  simp only [Stp.cells, List.mem_cons, List.not_mem_nil, or_false] at hu
  rcases hu with rfl | rfl | rfl | rfl | rfl | rfl | rfl <;> rfl

section
variable {ops : Array Oper} {rest : List Oper} {o : Oper} {a : Act} {w : World} {Q : Exit → Act → World → Prop}
theorem wpList_load_stp (hgd : o.guard = Option.none) (x : Operand) (ho : o.op = .load 53 x) (b j : Nat) (p : Stp) (hx : a.eval x = .pointer (some ⟨b, j, Option.none⟩)) (hp : ∀ i v, p.cells[i]? = some v → w.cell? ⟨b, j + i, Option.none⟩ = some v)
    (h : wpList Try.prog ops Q rest (a.put o.dst p.val) w) : wpList Try.prog ops Q (o :: rest) a w := by
  refine wpList_plain hgd fun K hK => ?_
  have hl := run_loadVar_at w b j _ p.cells _ Try.underlying53 rfl infoStp hp
  unfold Oper.wp execOp
  simp only [ho, hx, Instr.loadAt, Instr.sureAddr, Sem.run_bind, Sem.run_pure, Result.andThen_ok, hl]
  exact hK _ _ h
theorem wpList_store_stp (hgd : o.guard = Option.none) (x y : Operand) (ho : o.op = .store 53 x y) (g : Nat) (p : Stp) (hx : a.eval x = .pointer (some ⟨g, 0, Option.none⟩)) (hy : a.eval y = p.val)
    (old : List Value) (hg : Blk w g 53 old) (hl : old.length = 7)
    (h : ∀ w', Blk w' g 53 p.cells → Keeps (One g) w w' → wpList Try.prog ops Q rest (a.put o.dst undef) w') : wpList Try.prog ops Q (o :: rest) a w := by
  refine wpList_store_row hgd _ x y ho g p.cells.toArray hx (hy.trans rfl) _ _ hg.raw infoStp (by simp [hl, Stp.cells]) ?_ (h _ (hg.setRow _) ((Keeps.refl _ _).setRow _ _ (fun _ => rfl)))
  rw [Array.all_eq_true_iff_forall_mem]
  intro u hu
  exact p.cells_one u (by simpa using hu)
end
end Go.Proofs.Ytcplogdaepmpnaa
