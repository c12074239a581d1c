/- Single operations of drawn regions, by the run of what they do. -/
import Derived.Test.YtcplogdaepmpnaaNetState
import Derived.Test.YtcplogdaepmpnaaWLast
namespace Go.Proofs.Ytcplogdaepmpnaa
open Go.RowKit Go.Maps Go.ChangeMaps Go.WideElems

section
variable {P : Program} {o : Oper} {a : Act} {w : World}

theorem exec_load_pk (x : Operand) (ho : o.op = .load 33 x) (b j : Nat) (p : Pk) (hx : a.eval x = .pointer (some ⟨b, j, Option.none⟩)) (hp : PkAt w b j p) :
    (execOp a.eval o).run Try.prog w = .ok (.value p.val) w := by
  simp only [execOp, ho, hx, Instr.loadAt, Instr.sureAddr, Sem.run_bind, Sem.run_pure, Result.andThen_ok, run_load_pk hp]
theorem exec_load_ad (x : Operand) (ho : o.op = .load 27 x) (b j : Nat) (c : Ad) (hx : a.eval x = .pointer (some ⟨b, j, Option.none⟩)) (h1 : w.cell? ⟨b, j, Option.none⟩ = some (.bool c.1)) (h2 : w.cell? ⟨b, j + 1, Option.none⟩ = some (.int .i64 c.2)) :
    (execOp a.eval o).run Try.prog w = .ok (.value (adV c)) w := by
  simp only [execOp, ho, hx, Instr.loadAt, Instr.sureAddr, Sem.run_bind, Sem.run_pure, Result.andThen_ok, run_load_ad h1 h2]
theorem exec_lookup (t : TypeId) (m x : Operand) (ho : o.op = .lookup t m x false) (mv xv v : Value) (hm : a.eval m = mv) (hx : a.eval x = xv) (hr : (Instr.lookup t mv xv false).run P w = .ok v w) :
    (execOp a.eval o).run P w = .ok (.value v) w := by
  subst hm
  subst hx
  simp [execOp, ho, hr, Result.andThen]
theorem exec_mapEntry (t : TypeId) (m x : Operand) (ho : o.op = .mapEntry t m x) (mv xv v : Value) (w' : World) (hm : a.eval m = mv) (hx : a.eval x = xv) (hr : (Instr.mapEntry t mv xv).run P w = .ok v w') :
    (execOp a.eval o).run P w = .ok (.value v) w' := by
  subst hm
  subst hx
  simp [execOp, ho, hr, Result.andThen]
theorem exec_entryStore (t : TypeId) (m x y : Operand) (ho : o.op = .entryStore t m x y) (mv xv yv : Value) (w' : World) (hm : a.eval m = mv) (hx : a.eval x = xv) (hy : a.eval y = yv) (hr : (Instr.entryStore t mv xv yv).run P w = .ok () w') :
    (execOp a.eval o).run P w = .ok .skip w' := by
  subst hm
  subst hx
  subst hy
  simp [execOp, ho, hr, Result.andThen]
end

theorem wanted_none {o : Oper} {y : Nat → Option Bool} (h : o.guard = Option.none) : Region.wanted o y = true := by simp [Region.wanted, h]
theorem step_append_row {P : Program} (w : World) {ops : Array Oper} {o : Oper} {a : Act} {N : Option Tmp} {K : Act → World → Prop} {Q : Exit → Act → World → Prop} (hw : Region.wanted o (yielded ops a.tmps) = true) (hN : o.dst = N) (s x : Operand) (t : TypeId)
    (ho : o.op = .call { callee := .builtin .append, args := #[s, x], argTypes := #[t, t] })
    (base : Nat) (e : TypeId) (i : TypeInfo) (z : Value) (size bytes : Nat) (ht : P.underlying t = some (.slice e)) (hi : P.info? e = some i) (hz : i.zero = some z)
    (hsize : i.size = size) (hby : i.bytes = bytes) (hzs : z.cells.size = size) (hsz : 0 < size)
    (v : Value) (n : Nat) (xs : List Value) (hs : a.eval s = v) (hown : w.ownsRow base e size v n xs)
    (A : Option Addr) (m c : Nat) (news : List Value) (hx : a.eval x = .slice A m c) (hl : news.length = m * size) (hnil : A = Option.none → c = 0)
    (hsrc : 0 < news.length → ∃ ad, A = some ad ∧ ∀ j u, news[j]? = some u → w.cell? (ad.add j) = some u) (h1 : ∀ u ∈ news, u.oneCell' = true)
    (h63 : n + m ≤ maxLen) (hbytes : (n + m) * bytes ≤ 140737488355328) (hbase : base ≤ w.heap.size)
    (h : ∀ v' w', w'.ownsRow base e size v' (n + m) (xs ++ news) → Keeps (OwnB v) w w' → (v'.ownBlock = v.ownBlock ∨ v'.ownBlock = some w.heap.size) → K (a.put N v') w') :
    if Region.wanted o (yielded ops a.tmps) = true then Oper.wp P o a w K Q else K (a.put N undef) w := by
  obtain ⟨v', w', hr, h2, h3, h4⟩ := run_append_row (P := P) w base t o.type e i z size bytes ht hi hz hsize hby hzs hsz v n xs hown A m c news hl hnil hsrc h1 h63 hbytes hbase
  subst hN
  rw [if_pos hw]
  unfold Oper.wp execOp
  simp only [ho, resolve, invoke, builtin, Sem.run_bind, Sem.run_pure, Result.andThen_ok, List.map_toArray, List.map_cons, List.map_nil, hs, hx, hr]
  exact h v' w' h2 h3 h4

theorem src_cells {w : World} {g t : Nat} {cs : List Value} (h : Blk w g t cs) : 0 < cs.length → ∃ ad, some (⟨g, 0, Option.none⟩ : Addr) = some ad ∧ ∀ j u, cs[j]? = some u → w.cell? (ad.add j) = some u :=
  fun _ => ⟨_, rfl, fun j u hu => by rw [Addr.add_lit, Nat.zero_add]; exact h.cell j u hu⟩

theorem Nums.shun {k : IntKind} {S : Nat → Prop} {w w' : World} {A : Option Addr} {zs : List Int} (h : Nums k w A zs) (hk : Keeps S w w') (hS : ∀ b o x, S b → w.cell? ⟨b, o, Option.none⟩ ≠ some (.int k x)) : Nums k w' A zs := by
  intro j hj
  obtain ⟨b, o, e, hc⟩ := h j hj
  exact ⟨b, o, e, hk.cell hc (fun hs => hS _ _ _ hs hc)⟩
theorem cell_map {w : World} {b : Nat} {es : Array MapEntry} {clock : Nat} (h : w.heap[b]? = some (.map es clock)) (o : Nat) (x : Value) : w.cell? ⟨b, o, Option.none⟩ ≠ some x := by
  unfold World.cell?
  simp [h]

theorem intV_iff (y : Int) : IntV y ↔ -9223372036854775808 ≤ y ∧ y ≤ 9223372036854775807 := by
  have hmin : IntKind.i64.min = -9223372036854775808 := by decide
  simp [IntV, Lit.wf, hmin]
theorem wrap_intV (y : Int) (h : IntV y) : IntKind.i64.wrap y = y := by
  have := (intV_iff y).1 h
  rw [IntKind.wrap_i64]
  omega

theorem infoPkAll : (Try.prog.info? 33).map (fun i => (i.zero, i.size, i.bytes)) = some (some (.agg #[.bool false, .int .i64 0, .int .i64 0, .bool false, .int .i64 0, .slice Option.none 0 0]), 6, 64) := by kernel_rfl
theorem owns_slice {w : World} {base e size n : Nat} {v : Value} {xs : List Value} (h : w.ownsRow base e size v n xs) : ∃ A c, v = .slice A n c := by
  rcases h.2 with ⟨rfl, rfl⟩ | ⟨g, cap, cur, rfl, _⟩
  · exact ⟨_, _, rfl⟩
  · exact ⟨_, _, rfl⟩
theorem Pk.cells_one {p : Pk} (h : p.dv.oneCell' = true) : ∀ u ∈ p.cells, u.oneCell' = true := by
  intro u hu
  simp only [Pk.cells, List.mem_cons, List.not_mem_nil, or_false] at hu
  rcases hu with rfl | rfl | rfl | rfl | rfl | rfl <;> first | rfl | exact h
end Go.Proofs.Ytcplogdaepmpnaa
