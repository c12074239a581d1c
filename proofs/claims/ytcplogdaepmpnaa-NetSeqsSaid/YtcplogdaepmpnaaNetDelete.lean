/- One packet out of the row: slices.Delete. -/
import Derived.Test.YtcplogdaepmpnaaNetPlace
namespace Go.Proofs.Ytcplogdaepmpnaa
open Go.RowKit Go.Maps Go.ChangeMaps Go.WideElems Go.Proofs.YtcplogdaepmpnaaW.PrintLast

section
variable {P : Program} {t e : TypeId} (w : World)

theorem run_slice_head (ht : P.underlying t = some (.slice e)) (hsz : (P.info? e).map (·.size) = some 6) (a : Addr) (n cap i : Nat) (hi : i ≤ cap) :
    (Instr.slice t (.slice (some a) n cap) Option.none (some (.int .i64 (i : Int))) Option.none).run P w = .ok (.slice (some a) i cap) w := by
  obtain ⟨inf, hinf, hs⟩ := Option.map_eq_some_iff.1 hsz
  have : (0 : Int) ≤ i ∧ (i : Int) ≤ cap := by omega
  simp [Instr.slice, Instr.sliceBounds, Instr.sliceBound, asIntOf, run_underlying ht, sizeOf, typeInfo, hinf, this, Addr.add]
  intro h
  omega

theorem run_slice_tail (ht : P.underlying t = some (.slice e)) (hsz : (P.info? e).map (·.size) = some 6) (g n cap i : Nat) (hi : i ≤ n) :
    (Instr.slice t (.slice (some ⟨g, 0, Option.none⟩) n cap) (some (.int .i64 (i : Int))) Option.none Option.none).run P w = .ok (.slice (some (if cap = i then ⟨g, 0, Option.none⟩ else ⟨g, i * 6, Option.none⟩)) (n - i) (cap - i)) w := by
  obtain ⟨inf, hinf, hs⟩ := Option.map_eq_some_iff.1 hsz
  have h2 : (⟨g, 0, Option.none⟩ : Addr).add (i * 6) = ⟨g, i * 6, Option.none⟩ := by unfold Addr.add; split <;> simp_all
  simp [Instr.slice, Instr.sliceBounds, Instr.sliceBound, asIntOf, run_underlying ht, sizeOf, typeInfo, hinf, hs, hi, h2]
  by_cases h : cap = i <;> simp [h]

theorem run_slice_mid (ht : P.underlying t = some (.slice e)) (hsz : (P.info? e).map (·.size) = some 6) (g n cap i j : Nat) (hi : i ≤ j) (hn : j ≤ cap) (hic : i < cap) :
    (Instr.slice t (.slice (some ⟨g, 0, Option.none⟩) n cap) (some (.int .i64 (i : Int))) (some (.int .i64 (j : Int))) Option.none).run P w = .ok (.slice (some ⟨g, i * 6, Option.none⟩) (j - i) (cap - i)) w := by
  obtain ⟨inf, hinf, hs⟩ := Option.map_eq_some_iff.1 hsz
  have h4 : ¬ cap = i := by omega
  have h2 : (⟨g, 0, Option.none⟩ : Addr).add (i * 6) = ⟨g, i * 6, Option.none⟩ := by unfold Addr.add; split <;> simp_all
  simp [Instr.slice, Instr.sliceBounds, Instr.sliceBound, asIntOf, run_underlying ht, sizeOf, typeInfo, hinf, hs, hi, hn, h2, h4]

theorem run_slice_three (ht : P.underlying t = some (.slice e)) (hsz : (P.info? e).map (·.size) = some 6) (g n cap i j : Nat) (hi : i ≤ j) (hj : j ≤ n) (hn : n ≤ cap) :
    ∃ v, (Instr.slice t (.slice (some ⟨g, 0, Option.none⟩) n cap) (some (.int .i64 (i : Int))) (some (.int .i64 (j : Int))) (some (.int .i64 (n : Int)))).run P w = .ok v w := by
  obtain ⟨inf, hinf, hs⟩ := Option.map_eq_some_iff.1 hsz
  exact ⟨_, by simp [Instr.slice, Instr.sliceBounds, Instr.sliceBound, asIntOf, run_underlying ht, sizeOf, typeInfo, hinf, hs, hi, hj, hn]; rfl⟩

/-- 'clear' of one packet. -/
theorem run_clear_one (ht : P.underlying t = some (.slice e)) (z : Value) (hz : (zeroValue e).run P w = .ok z w) (zs : List Value) (hzs : z.cells = zs.toArray) (g o c : Nat) (cur : Array Value) (T : TypeId) (hg : w.heap[g]? = some (.cells cur T (0, 0))) (hfit : o + zs.length ≤ cur.size) (h1 : ∀ v ∈ zs, v.oneCell' = true) (ty : TypeId) :
    (Builtin.clear_ #[t] ty #[.slice (some ⟨g, o, Option.none⟩) 1 c]).run P w = .ok (.tuple #[]) (w.setRow g (cur.toList.take o ++ zs ++ cur.toList.drop (o + zs.length)).toArray) := by
  have hst := run_storeCells_at P g o T zs 0 cur w hg (by simpa using hfit) h1
  simp only [Nat.add_zero] at hst
  have hzc : (Builtin.zeroCells zs.toArray 1).toList = zs := by
    simp [Builtin.zeroCells]
    apply List.ext_getElem
    · simp
    · intro j h1 h2
      simp [Nat.mod_eq_of_lt h2, List.getElem?_eq_getElem h2]
  simp [Builtin.clear_, run_underlying ht, hz, hzs, hzc, hst, Result.andThen]
variable {o : Oper} {a : Act} {w}
theorem exec_slice (ht : P.underlying t = some (.slice e)) (x : Operand) (lo hi mx : Option Operand) (ho : o.op = .slice t x lo hi mx) (v : Value) (hr : (Instr.slice t (a.eval x) (lo.map a.eval) (hi.map a.eval) (mx.map a.eval)).run P w = .ok v w) :
    (execOp a.eval o).run P w = .ok (.value v) w := by
  simp [execOp, ho, Instr.sliceAt, run_underlying ht, hr, Result.andThen]
theorem exec_append (s x : Operand) (ho : o.op = .call { callee := .builtin .append, args := #[s, x], argTypes := #[t, t] }) (sv xv v : Value) (w' : World) (hs : a.eval s = sv) (hx : a.eval x = xv) (hr : (Builtin.append_ #[t, t] o.type #[sv, xv]).run P w = .ok v w') :
    (execOp a.eval o).run P w = .ok (.value v) w' := by
  subst hs
  subst hx
  unfold execOp
  simp only [ho, resolve, invoke, builtin, Sem.run_bind, Sem.run_pure, Result.andThen_ok, List.map_toArray, List.map_cons, List.map_nil, hr]

variable {ops : Array Oper} {rest : List Oper} {Q : Exit → Act → World → Prop}
theorem wpList_exec {w' : World} {v : Value} (hgd : o.guard = Option.none) (hr : (execOp a.eval o).run P w = .ok (.value v) w') (h : wpList P ops Q rest (a.put o.dst v) w') : wpList P ops Q (o :: rest) a w := by
  refine wpList_plain hgd fun K hK => ?_
  unfold Oper.wp
  rw [hr]
  exact hK _ _ h
theorem exec_clear (x : Operand) (ho : o.op = .call { callee := .builtin .clear, args := #[x], argTypes := #[t] }) (xv v : Value) (w' : World) (hx : a.eval x = xv) (hr : (Builtin.clear_ #[t] o.type #[xv]).run P w = .ok v w') :
    (execOp a.eval o).run P w = .ok (.value v) w' := by
  subst hx
  unfold execOp
  simp only [ho, resolve, invoke, builtin, Sem.run_bind, Sem.run_pure, Result.andThen_ok, List.map_toArray, List.map_cons, List.map_nil, hr]
end

/-- The cells when one packet has gone. -/
theorem Way.cells_take (L : Way) (i : Nat) : (L.cells).take (i * 6) = Way.cells (L.take i) := by
  rcases Nat.lt_or_ge L.length i with h | h
  · rw [List.take_of_length_le (by rw [Way.cells_length]; omega), List.take_of_length_le (by omega)]
  · have : L.cells = Way.cells (L.take i) ++ Way.cells (L.drop i) := by rw [← Way.cells_append, List.take_append_drop]
    rw [this, List.take_left' (by rw [Way.cells_length, List.length_take]; omega)]
theorem Way.cells_drop (L : Way) (i : Nat) : (L.cells).drop (i * 6) = Way.cells (L.drop i) := by
  rcases Nat.lt_or_ge L.length i with h | h
  · rw [List.drop_eq_nil_of_le (by rw [Way.cells_length]; omega), List.drop_eq_nil_of_le (by omega)]; rfl
  · have : L.cells = Way.cells (L.take i) ++ Way.cells (L.drop i) := by rw [← Way.cells_append, List.take_append_drop]
    rw [this, List.drop_left' (by rw [Way.cells_length, List.length_take]; omega)]
end Go.Proofs.Ytcplogdaepmpnaa
