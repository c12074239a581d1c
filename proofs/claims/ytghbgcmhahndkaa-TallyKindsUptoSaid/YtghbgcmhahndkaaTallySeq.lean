/- The program's tally of numbers: what Got hands back, ranged over. -/
import Derived.Test.YtghbgcmhahndkaaTallyGot
import Derived.RangeFuncBox
import Derived.RangeFuncLeaves
import Derived.RangeFuncWrites
import Derived.Shelf.Abstract
import Derived.WalkKit
import Derived.OwnWalkIn
import Derived.TacticsInMore
import Derived.LoopNIn
import Derived.LoopIn
import Derived.Maps.AppendAt
namespace Go.Proofs.Ytghbgcmhahndkaa
open Go.RowKit Go.Shelf

attribute [local go_sem] Oper.semAt_some

/-- Two rows of numbers behind two cells, all in blocks below n0. -/
structure Low (n0 : Nat) (W : World) (b1 b2 : Nat) (A1 : Option Addr) (d1 : Nat) (A2 : Option Addr) (d2 : Nat) (xs ys : List Int) : Prop where
  c1 : W.cell? ⟨b1, 0, Option.none⟩ = some (.slice A1 xs.length d1)
  c2 : W.cell? ⟨b2, 0, Option.none⟩ = some (.slice A2 ys.length d2)
  n1 : Nums .i64 W A1 xs
  n2 : Nums .i64 W A2 ys
  lt : b1 < n0 ∧ b2 < n0
  lt1 : ∀ b o, A1 = some ⟨b, o, Option.none⟩ → b < n0
  lt2 : ∀ b o, A2 = some ⟨b, o, Option.none⟩ → b < n0
theorem Low.below {n0 : Nat} {W W' : World} {b1 b2 : Nat} {A1 : Option Addr} {d1 : Nat} {A2 : Option Addr} {d2 : Nat} {xs ys : List Int} (h : Low n0 W b1 b2 A1 d1 A2 d2 xs ys) (hb : Below n0 W W') : Low n0 W' b1 b2 A1 d1 A2 d2 xs ys :=
  ⟨(hb.cell (p := ⟨b1, 0, Option.none⟩) h.lt.1).trans h.c1, (hb.cell (p := ⟨b2, 0, Option.none⟩) h.lt.2).trans h.c2, h.n1.of_block (fun b o e _ => hb.block b (h.lt1 b o e)), h.n2.of_block (fun b o e _ => hb.block b (h.lt2 b o e)), h.lt, h.lt1, h.lt2⟩

theorem take_zip {xs ys : List Int} {k : Nat} {x y : Int} (hx : xs[k]? = some x) (hy : ys[k]? = some y) : (xs.zip ys).take (k + 1) = (xs.zip ys).take k ++ [(x, y)] :=
  take_succ_of ((List.getElem?_zip_eq_some (z := (x, y))).2 ⟨hx, hy⟩)

set_option maxRecDepth 100000 in
set_option maxHeartbeats 2000000 in
theorem seq1_in (F : Fence) (n : Nat) (h50 : F.fn 50) (hro : F.round = Option.none) (hn : 1 ≤ n) (l b1 b2 n0 : Nat) (A1 : Option Addr) (d1 : Nat) (A2 : Option Addr) (d2 : Nat) (xs ys : List Int) (hlen : ys.length = xs.length) (hreach : xs.length ≤ 17592186044416) (J Jx : List (Int × Int) → World → Prop)
    (hY : ∀ pre (x : Int × Int) W, J pre W → pre.length < xs.length → YieldAt F (n - 1) Try.prog l #[.int .i64 x.1, .int .i64 x.2] W fun e W' =>
      (e = .returned (.bool true) ∧ J (pre ++ [x]) W' ∧ Below n0 W W') ∨ (e = .returned (.bool false) ∧ Jx (pre ++ [x]) W'))
    (W : World) (hL : Low n0 W b1 b2 A1 d1 A2 d2 xs ys) (h0 : J [] W) :
    CallsIn F n Try.prog 50 #[.func (.yield l) #[] #[], .pointer (some ⟨b1, 0, Option.none⟩), .pointer (some ⟨b2, 0, Option.none⟩)] W fun e W' => (∃ v, e = .returned v) ∧
      ((∃ zs, zs = xs.zip ys ∧ J zs W') ∨ (∃ pre, (∃ k, k ≤ xs.length ∧ pre = (xs.zip ys).take k) ∧ Jx pre W')) := by
  have c1 := hL.c1
  refine callsIn_of_wp Try.func50 rfl h50 ?_ hro
  simp only [Try.ntmps50, List.size_toArray, List.length_cons, List.length_nil, Nat.reduceAdd, Nat.reduceSub, Array.replicate_succ, Array.replicate_zero, List.push_toArray, List.append_toArray, List.nil_append, List.cons_append]
  gi_wp2
  gi_loopw [8] (fun i wr => ∃ k : Nat, k ≤ xs.length ∧ i = .int .i64 k ∧ J ((xs.zip ys).take k) wr ∧ Below n0 W wr) (fun i _ => xs.length - (intOf i).toNat)
  case atStart => exact ⟨0, Nat.zero_le _, rfl, h0, Below.refl _ _⟩
  case round =>
    obtain ⟨k, hk, rfl, hJs, hnx⟩ := hrel
    have hLr := hL.below hnx
    by_cases hlt : k < xs.length
    · obtain ⟨x, bx, ox, rfl, hcx, hx⟩ := hLr.n1.get k hlt
      obtain ⟨y, by_, oy, rfl, hcy, hy⟩ := hLr.n2.get k (by omega)
      have hly : k < ys.length := by omega
      have c2 := hLr.c2
      obtain ⟨fn, tmps, assign, body, hyl, hR⟩ := hY _ (x, y) wr hJs (by simp; omega)
      dsimp only at hyl
      have HT := Lib.hid (take_zip hx.out hy.out)
      clear hx hy
      gi_wp2
      refine hR.mono ?_
      rintro e W3 (⟨rfl, hJ3, hk3⟩ | ⟨rfl, hJx3⟩)
      · gi_wp2
        go_roundw
        case rel => exact ⟨k + 1, by omega, by simp, by rw [HT.out]; exact hJ3, hnx.trans hk3⟩
        case measure => simp [intOf]; omega
      · gi_wp2
        refine bodyPost_ret (results_none rfl _ _ _) rfl ?_
        exact ⟨⟨_, rfl⟩, .inr ⟨_, ⟨k + 1, by omega, HT.out.symm⟩, hJx3⟩⟩
    · obtain rfl : k = xs.length := by omega
      gi_wp2
      go_end0
      exact ⟨⟨_, rfl⟩, .inl ⟨_, rfl, by rwa [List.take_of_length_le (by simp; omega)] at hJs⟩⟩

theorem seq_stops (F : Fence) (n : Nat) (h50 : F.fn 50) (hro : F.round = Option.none) (hn : 1 ≤ n) (b1 b2 n0 : Nat) (A1 : Option Addr) (d1 : Nat) (A2 : Option Addr) (d2 : Nat) (xs ys : List Int) (hlen : ys.length = xs.length) (hreach : xs.length ≤ 17592186044416) (w : World) (hw : n0 ≤ w.heap.size) (hL : Low n0 w b1 b2 A1 d1 A2 d2 xs ys) :
    SeqStopsK F n Try.prog 50 #[.pointer (some ⟨b1, 0, Option.none⟩), .pointer (some ⟨b2, 0, Option.none⟩)] (fun x : Int × Int => #[.int .i64 x.1, .int .i64 x.2]) (Below n0) (fun zs => zs = xs.zip ys) (fun pre => pre <+: xs.zip ys) xs.length w := fun l J Jx W hW _ _ hY h0 => by
  refine (seq1_in F n h50 hro hn l b1 b2 n0 A1 d1 A2 d2 xs ys hlen hreach J Jx hY W (hL.below (hW.mono hw)) h0).mono ?_
  rintro e W' ⟨he, ⟨zs, rfl, hj⟩ | ⟨pre, ⟨k, hk, rfl⟩, hj⟩⟩
  · exact ⟨he, .inl ⟨_, rfl, hj⟩⟩
  · exact ⟨he, .inr ⟨_, List.take_prefix _ _, hj⟩⟩

theorem Two.swap {w : World} {base b1 b2 : Nat} {v1 v2 : Value} {xs ys : List Int} (h : Two w base b1 b2 v1 v2 xs ys) : Two w base b2 b1 v2 v1 ys xs :=
  ⟨h.blk2, h.blk1, h.row2, h.row1, fun b e => ⟨(h.far2 b e).2, (h.far2 b e).1, fun f => (h.far1 b f).2.2 e⟩, fun b e => ⟨(h.far1 b e).2.1, (h.far1 b e).1⟩, Ne.symm h.ne⟩
/-- One append behind the first cell, and its store. -/
theorem Two.push {w X w1 : World} {base b1 b2 : Nat} {v1 v2 v1' : Value} {xs ys xs' : List Int} (h : Two w base b1 b2 v1 v2 xs ys) (kX : Keeps None w X) (hr : Row .i64 3 w1 base v1' xs') (hk : Keeps (OwnB v1) X w1) (hl : v1'.ownBlock = v1.ownBlock ∨ v1'.ownBlock = some X.heap.size) :
    Two (w1.setCell ⟨b1, 0, Option.none⟩ v1') base b1 b2 v1' v2 xs' ys ∧ Keeps (fun k => k = b1 ∨ v1.ownBlock = some k) w (w1.setCell ⟨b1, 0, Option.none⟩ v1') ∧ w1.cell? ⟨b1, 0, Option.none⟩ = some v1 ∧ w1.frozen? ⟨b1, 0, Option.none⟩ = false := by
  have g1 := h.blk1.lt
  have g2 := h.blk2.lt
  have s1 := kX.size
  have o2 := fun b (e : v2.ownBlock = some b) => h.row2.lt b e
  have n1 : ∀ b, v1'.ownBlock = some b → b ≠ b1 ∧ b ≠ b2 ∧ ¬ v2.ownBlock = some b := by
    intro b e
    rcases hl with l | l
    · exact h.far1 b (l ▸ e)
    · rw [e] at l; cases l
      exact ⟨by omega, by omega, fun f => by have := (o2 _ f).2; omega⟩
  have B1 : Blk w1 b1 27 [v1] := (h.blk1.grew kX).keeps hk (fun e => (h.far1 _ e).1 rfl)
  have B2 : Blk w1 b2 27 [v2] := (h.blk2.grew kX).keeps hk (fun e => (h.far1 _ e).2.1 rfl)
  have R2 := (h.row2.grew kX).keeps hk (fun b e f => (h.far1 b f).2.2 e)
  have KS : Keeps (One b1) w1 (w1.setCell ⟨b1, 0, Option.none⟩ v1') := (Keeps.refl _ _).setCell _ _ (fun _ => rfl)
  refine ⟨⟨B1.set 0 v1', B2.other _ _ (by simpa using Ne.symm h.ne), hr.keeps KS (fun b e f => (n1 b e).1 f), R2.keeps KS (fun b e f => (h.far2 b e).1 f), n1, h.far2, h.ne⟩, ?_, B1.cell 0 _ rfl, B1.free 0⟩
  exact (kX.of_none.andThen hk (fun i _ e => .inr e)).setCell _ _ (fun _ => .inl rfl)

theorem KeepsOthers.of_keeps {S : Nat → Prop} {W W' : World} (hk : Keeps S W W') (hS : ∀ k o, S k → W.heap[k]? = some o → o.isCells = true) : KeepsOthers W W' :=
  ⟨hk.size, fun k o hh ho => (hk.block k (Array.getElem?_eq_some_iff.1 hh).1 (fun e => by rw [hS k o e hh] at ho; cases ho)).trans hh⟩
theorem Two.cells {w : World} {base b1 b2 : Nat} {v1 v2 : Value} {xs ys : List Int} (h : Two w base b1 b2 v1 v2 xs ys) : ∀ k o, (k = b1 ∨ v1.ownBlock = some k) → w.heap[k]? = some o → o.isCells = true := by
  intro k o hk ho
  rcases hk with rfl | e
  · rw [h.blk1.raw] at ho; cases ho; rfl
  · rcases h.row1.2 with ⟨rfl, _⟩ | ⟨g, cap, cur, rfl, _, hg, _⟩
    · simp [Value.ownBlock] at e
    · cases e; rw [hg] at ho; cases ho; rfl
theorem two_own (base b1 b2 : Nat) (f g : List (Int × Int) → List Int) : Own (fun (pre : List (Int × Int)) W => ∃ v1 v2, Two W base b1 b2 v1 v2 (f pre) (g pre)) := by
  rintro pre X Y row ⟨v1, v2, h⟩ hg hrow
  have hk : Keeps (fun k => row = some k) X Y := (Keeps.refl _ _).grown hg (fun k e _ => e)
  have no : ∀ k o, X.heap[k]? = some o → o.isCells = true → ¬ row = some k := by
    intro k o ho hc e
    obtain ⟨o', ho', hc'⟩ := hrow k e
    rw [ho] at ho'; cases ho'; rw [hc] at hc'; cases hc'
  refine ⟨v1, v2, h.keeps hk (no _ _ h.blk1.raw rfl) (no _ _ h.blk2.raw rfl) ?_ ?_⟩
  · intro b e
    obtain ⟨o, ho⟩ : ∃ o, X.heap[b]? = some o := ⟨_, Array.getElem?_eq_getElem (h.row1.lt b e).2⟩
    exact no b o ho (h.cells b o (.inr e) ho)
  · intro b e
    obtain ⟨o, ho⟩ : ∃ o, X.heap[b]? = some o := ⟨_, Array.getElem?_eq_getElem (h.row2.lt b e).2⟩
    exact no b o ho (h.swap.cells b o (.inr e) ho)

theorem wpListIn_append_row {F : Fence} {nF : Nat} {P : Program} (w : World) {ops : Array Oper} {rest : List Oper} {o : Oper} {a : Act} {Q : Exit → Act → World → Prop}
    (hg : o.guard = Option.none) (s x : Operand) (t : TypeId) (hop : o.op = Op.call { callee := Callee.builtin Builtin.append, args := #[s, x], argTypes := #[t, t] })
    (base : Nat) (e : TypeId) (i : TypeInfo) (z : Value) (size bytes : Nat) (ht : P.underlying t = some (.slice e)) (hi : P.info? e = some i) (hz : i.zero = some z)
    (hsize : i.size = size) (hby : i.bytes = bytes) (hzs : z.cells.size = size) (hsz : 0 < size)
    (v : Value) (n : Nat) (xs : List Value) (hs : a.eval s = v) (hown : w.ownsRow base e size v n xs)
    (A : Option Addr) (m c : Nat) (news : List Value) (hx : a.eval x = .slice A m c) (hl : news.length = m * size) (hnil : A = Option.none → c = 0)
    (hsrc : 0 < news.length → ∃ ad, A = some ad ∧ ∀ j u, news[j]? = some u → w.cell? (ad.add j) = some u) (h1 : ∀ u ∈ news, u.oneCell' = true)
    (h63 : n + m ≤ maxLen) (hbytes : (n + m) * bytes ≤ 140737488355328) (hbase : base ≤ w.heap.size)
    (h : ∀ v' w', w'.ownsRow base e size v' (n + m) (xs ++ news) → Keeps (OwnB v) w w' → (v'.ownBlock = v.ownBlock ∨ v'.ownBlock = some w.heap.size) → wpListIn F nF P ops Q rest (a.put o.dst v') w') :
    wpListIn F nF P ops Q (o :: rest) a w := by
  refine wpListIn_plain hg fun K hK' => ?_
  obtain ⟨v', w', hr, h2, h3, h4⟩ := run_append_row (P := P) w base t o.type e i z size bytes ht hi hz hsize hby hzs hsz v n xs hown A m c news hl hnil hsrc h1 h63 hbytes hbase
  unfold Oper.wpIn
  refine ⟨?_, ?_⟩
  · simp [Oper.about, hop, resolve, Target.leads, Sem.run_pure]
  · rw [Oper.semAt_plain F _ _ (by rw [hop]; intro c hc'; cases hc')]
    simp [execOp, hop, resolve, invoke, builtin, hs, hx, hr, Result.andThen]
    exact hK' _ _ (h v' w' h2 h3 h4)
end Go.Proofs.Ytghbgcmhahndkaa
