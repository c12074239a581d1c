/- What a tally's Got hands back, ranged over while one block (the tally's map) and new ones may turn. -/
import Derived.Test.YtghbgcmhahndkaaTallyGots
import Derived.RangeFuncNested
namespace Go.Proofs.Ytghbgcmhahndkaa
open Go.RowKit Go.Shelf

set_option linter.unusedVariables false
attribute [local go_sem] Oper.semAt_some

/-- All below n0 is as it was, but for one block. -/
def KpB (n0 bm : Nat) (W W' : World) : Prop := Keeps (fun k => k = bm ∨ n0 ≤ k) W W'
theorem KpB.trans {n0 bm : Nat} {a b c : World} (h : KpB n0 bm a b) (k : KpB n0 bm b c) : KpB n0 bm a c := Keeps.trans h k
theorem KpB.refl (n0 bm : Nat) (a : World) : KpB n0 bm a a := Keeps.refl _ _
theorem KpB.putObj {n0 bm : Nat} (W : World) (l : Nat) (o o' : Obj) (hl : n0 ≤ l) (ho : W.heap[l]? = some o) : KpB n0 bm W (W.putObj l o') :=
  (Keeps.refl _ W).grown (grownBy_putObj' W l o') (fun k e _ => by cases e; exact .inr hl)
theorem Low.kpb {n0 bm : Nat} {W W' : World} {b1 b2 : Nat} {A1 : Option Addr} {d1 : Nat} {A2 : Option Addr} {d2 : Nat} {xs ys : List Int} (h : Low n0 W b1 b2 A1 d1 A2 d2 xs ys) (hb : KpB n0 bm W W')
    (hne : b1 ≠ bm ∧ b2 ≠ bm ∧ (∀ b o, A1 = some ⟨b, o, Option.none⟩ → b ≠ bm) ∧ (∀ b o, A2 = some ⟨b, o, Option.none⟩ → b ≠ bm)) : Low n0 W' b1 b2 A1 d1 A2 d2 xs ys := by
  obtain ⟨n1, n2, n3, n4⟩ := hne
  have l := h.lt
  refine ⟨hb.cell h.c1 (fun e => ?_), hb.cell h.c2 (fun e => ?_), h.n1.keeps hb (fun b o e f => ?_), h.n2.keeps hb (fun b o e f => ?_), h.lt, h.lt1, h.lt2⟩
  · rcases e with e | e
    · exact n1 e
    · have e : n0 ≤ b1 := e; omega
  · rcases e with e | e
    · exact n2 e
    · have e : n0 ≤ b2 := e; omega
  · have := h.lt1 b o e
    rcases f with f | f
    · exact n3 b o e f
    · omega
  · have := h.lt2 b o e
    rcases f with f | f
    · exact n4 b o e f
    · omega

set_option maxRecDepth 100000 in
set_option maxHeartbeats 2000000 in
theorem seqK_in (F : Fence) (n : Nat) (h50 : F.fn 50) (hro : F.round = Option.none) (hn : 1 ≤ n) (l b1 b2 n0 bm : Nat) (A1 : Option Addr) (d1 : Nat) (A2 : Option Addr) (d2 : Nat) (xs ys : List Int) (hlen : ys.length = xs.length) (hreach : xs.length ≤ 17592186044416)
    (hne : b1 ≠ bm ∧ b2 ≠ bm ∧ (∀ b o, A1 = some ⟨b, o, Option.none⟩ → b ≠ bm) ∧ (∀ b o, A2 = some ⟨b, o, Option.none⟩ → b ≠ bm)) (J Jx : List (Int × Int) → World → Prop)
    (hY : ∀ pre (x : Int × Int) W, J pre W → pre.length < xs.length → YieldAt F (n - 1) Try.prog l #[.int .i64 x.1, .int .i64 x.2] W fun e W' =>
      (e = .returned (.bool true) ∧ J (pre ++ [x]) W' ∧ KpB n0 bm W W') ∨ (e = .returned (.bool false) ∧ Jx (pre ++ [x]) W'))
    (W : World) (hL : Low n0 W b1 b2 A1 d1 A2 d2 xs ys) (h0 : J [] W) :
    CallsIn F n Try.prog 50 #[.func (.yield l) #[] #[], .pointer (some ⟨b1, 0, Option.none⟩), .pointer (some ⟨b2, 0, Option.none⟩)] W fun e W' => (∃ v, e = .returned v) ∧
      ((∃ zs, zs = xs.zip ys ∧ J zs W') ∨ (∃ pre, (∃ k, k ≤ xs.length ∧ pre = (xs.zip ys).take k) ∧ Jx pre W')) := by
  have c1 := hL.c1
  have HNE := Lib.hid hne
  clear hne
  refine callsIn_of_wp Try.func50 rfl h50 ?_ hro
  simp only [Try.ntmps50, List.size_toArray, List.length_cons, List.length_nil, Nat.reduceAdd, Nat.reduceSub, Array.replicate_succ, Array.replicate_zero, List.push_toArray, List.append_toArray, List.nil_append, List.cons_append]
  gi_wp2
  gi_loopw [8] (fun i wr => ∃ k : Nat, k ≤ xs.length ∧ i = .int .i64 k ∧ J ((xs.zip ys).take k) wr ∧ KpB n0 bm W wr) (fun i _ => xs.length - (intOf i).toNat)
  case atStart => exact ⟨0, Nat.zero_le _, rfl, h0, KpB.refl _ _ _⟩
  case round =>
    obtain ⟨k, hk, rfl, hJs, hnx⟩ := hrel
    have hLr := hL.kpb hnx HNE.out
    by_cases hlt : k < xs.length
    · obtain ⟨x, bx, ox, rfl, hcx, hx⟩ := hLr.n1.get k hlt
      obtain ⟨y, by_, oy, rfl, hcy, hy⟩ := hLr.n2.get k (by omega)
      have hly : k < ys.length := by omega
      have c2 := hLr.c2
      obtain ⟨fn, tmps, assign, body, hyl, hR⟩ := hY _ (x, y) wr hJs (by simp; omega)
      dsimp only at hyl
      have HT := Lib.hid (take_zip hx.out hy.out)
      clear hx hy
      gi_wp2
      refine hR.mono ?_
      rintro e W3 (⟨rfl, hJ3, hk3⟩ | ⟨rfl, hJx3⟩)
      · gi_wp2
        go_roundw
        case rel => exact ⟨k + 1, by omega, by simp, by rw [HT.out]; exact hJ3, hnx.trans hk3⟩
        case measure => simp [intOf]; omega
      · gi_wp2
        refine bodyPost_ret (results_none rfl _ _ _) rfl ?_
        exact ⟨⟨_, rfl⟩, .inr ⟨_, ⟨k + 1, by omega, HT.out.symm⟩, hJx3⟩⟩
    · obtain rfl : k = xs.length := by omega
      gi_wp2
      go_end0
      exact ⟨⟨_, rfl⟩, .inl ⟨_, rfl, by rwa [List.take_of_length_le (by simp; omega)] at hJs⟩⟩

theorem seqK_stops (F : Fence) (n : Nat) (h50 : F.fn 50) (hro : F.round = Option.none) (hn : 1 ≤ n) (b1 b2 n0 bm : Nat) (A1 : Option Addr) (d1 : Nat) (A2 : Option Addr) (d2 : Nat) (xs ys : List Int) (hlen : ys.length = xs.length) (hreach : xs.length ≤ 17592186044416)
    (hne : b1 ≠ bm ∧ b2 ≠ bm ∧ (∀ b o, A1 = some ⟨b, o, Option.none⟩ → b ≠ bm) ∧ (∀ b o, A2 = some ⟨b, o, Option.none⟩ → b ≠ bm)) (w : World) (hw : n0 ≤ w.heap.size) (hL : Low n0 w b1 b2 A1 d1 A2 d2 xs ys) :
    SeqStopsK F n Try.prog 50 #[.pointer (some ⟨b1, 0, Option.none⟩), .pointer (some ⟨b2, 0, Option.none⟩)] (fun x : Int × Int => #[.int .i64 x.1, .int .i64 x.2]) (KpB n0 bm) (fun zs => zs = xs.zip ys) (fun pre => pre <+: xs.zip ys) xs.length w := fun l J Jx W hW _ _ hY h0 => by
  refine (seqK_in F n h50 hro hn l b1 b2 n0 bm A1 d1 A2 d2 xs ys hlen hreach hne J Jx hY W (hL.below (hW.mono hw)) h0).mono ?_
  rintro e W' ⟨he, ⟨zs, rfl, hj⟩ | ⟨pre, ⟨k, hk, rfl⟩, hj⟩⟩
  · exact ⟨he, .inl ⟨_, rfl, hj⟩⟩
  · exact ⟨he, .inr ⟨_, List.take_prefix _ _, hj⟩⟩

/-- What is kept is kept through a turn of a block that is new. -/
theorem Keeps.from {B : Nat} {S : Nat → Prop} {W W' : World} (hk : Keeps S W W') (hS : ∀ k o, S k → B ≤ k → W.heap[k]? = some o → o.isCells = true) : KeepsFrom B W W' :=
  ⟨hk.size, fun k o hB hh ho => (hk.block k (Array.getElem?_eq_some_iff.1 hh).1 (fun e => by rw [hS k o e hB hh] at ho; cases ho)).trans hh⟩
theorem ownFrom_keeps {β : Type} {B : Nat} {S : Nat → Prop} {w0 : World} (hB : w0.heap.size ≤ B) : OwnFrom B (fun (_ : β) W => Keeps S w0 W) :=
  fun _ X Y row hs hg hr => hs.grown hg (fun k e hk => by have := (hr k e).1; omega)
theorem ownFrom_cell {β : Type} {B b : Nat} (v : β → Value) (hb : b < B) : OwnFrom B (fun s W => W.cell? ⟨b, 0, Option.none⟩ = some (v s)) :=
  fun _ X Y row hs hg hr => by
    have hk : Keeps (fun k => row = some k) X Y := (Keeps.refl _ _).grown hg (fun k e _ => e)
    exact hk.cell hs (fun e => by have := (hr b e).1; omega)
theorem ownFrom_blk {β : Type} {B b : Nat} (t : TypeId) (cs : β → List Value) (hb : b < B) : OwnFrom B (fun s W => Blk W b t (cs s)) :=
  fun _ X Y row hs hg hr => by
    have hk : Keeps (fun k => row = some k) X Y := (Keeps.refl _ _).grown hg (fun k e _ => e)
    exact hs.keeps hk (fun e => by have := (hr b e).1; omega)
end Go.Proofs.Ytghbgcmhahndkaa
