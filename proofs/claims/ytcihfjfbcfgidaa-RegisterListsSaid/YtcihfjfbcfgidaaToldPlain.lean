/- A read's way, in plain words; a message's cell row allocated and stored within a region that draws. -/
import Derived.Test.YtcihfjfbcfgidaaToldValue
namespace Go.Proofs.Ytcihfjfbcfgidaa
open Go.RowKit Go.Maps

def hRd : Hd := ⟨3, 1, 1, 3, 1, 0, [1, 2, 3, 4, 5], false, [], 4⟩
def stF (how k : Int) : Int × Int := if how = 2 then (0, 0) else if how = 1 ∧ k = 2 then (4, 9) else (5, 2)
def tagF (how : Int) : Int × Int := if how = 2 then (0, 0) else (5, 2)
def datF (how : Int) (zs : List Int) : List Int := if how = 2 then [0, 0, 0, 0] else zs
/-- Where the read stands behind so many values. -/
def pkF (how : Int) (zs : List Int) : Nat → Int × Ph × OutS
  | 0 => (7, .asking [], .msgs 1 7 (0, 0) [] [1, 2, 3, 4, 5])
  | 1 => (7, .asking [⟨1, stF how 1, zs⟩], .no)
  | 2 => (7, .asking [⟨1, stF how 1, zs⟩, ⟨2, stF how 2, zs⟩], .no)
  | _ => if how = 1 then (8, .laying [] (5, 2) zs, .msgs 2 8 (5, 2) zs [1, 2, 3, 4, 5]) else (7, .ended 0 (tagF how) (datF how zs), .no)
/-- ... and behind so many acks of a write back. -/
def akF (how : Int) (zs : List Int) : Nat → Int × Ph
  | 0 => if how = 1 then (8, .laying [] (5, 2) zs) else (7, .ended 0 (tagF how) (datF how zs))
  | 1 => (8, .laying [3] (5, 2) zs)
  | 2 => (8, .laying [3, 4] (5, 2) zs)
  | _ => (8, .ended 0 (5, 2) zs)
def lnO : OutS → Nat
  | .no => 0
  | .msgs _ _ _ _ l => l.length
theorem OutAt.slice {w : World} {B : Nat} {h : Hd} {u : Value} {o : OutS} (ho : OutAt w B h u o) : ∃ A c, u = .slice A (lnO o) c := by
  cases o with
  | no => exact ⟨Option.none, 0, ho⟩
  | msgs kind round tag zs l =>
    obtain ⟨ms, hm⟩ := ho
    obtain ⟨A, c, e, -⟩ := hm.cells
    exact ⟨A, c, e⟩

theorem take_pk (how : Int) (hh : how = 0 ∨ how = 1 ∨ how = 2) (zs : List Int) (k : Nat) (hk : k < 3) :
    takeF hRd (pkF how zs k).1 (pkF how zs k).2.1 11 ((k : Int) + 1) (stF how ((k : Int) + 1)) zs (fitsF hRd (pkF how zs k).1 false true 3 1 7 1 3 1 0) = pkF how zs (k + 1) := by
  obtain rfl | rfl | rfl : k = 0 ∨ k = 1 ∨ k = 2 := by omega
  all_goals rcases hh with rfl | rfl | rfl
  all_goals rfl
theorem take_ak (zs : List Int) (k : Nat) (hk : k < 3) :
    takeF hRd (akF 1 zs k).1 (akF 1 zs k).2 12 ((k : Int) + 3) (0, 0) [] (fitsF hRd (akF 1 zs k).1 false true 3 1 8 1 3 1 0) = ((akF 1 zs (k + 1)).1, (akF 1 zs (k + 1)).2, .no) := by
  obtain rfl | rfl | rfl : k = 0 ∨ k = 1 ∨ k = 2 := by omega
  all_goals rfl

theorem exec_alloc_msg {a : Act} {o : Oper} {w : World} (ho : o.op = .alloc 66) : (execOp a.eval o).run Try.prog w = .ok (.value (.pointer (some ⟨w.heap.size, 0, Option.none⟩))) (w.alloc (.cells (msgL 0 false 0 false 0 0 0 0 0 0 0 0 0 (.slice Option.none 0 0)).toArray 66)) := by
  unfold execOp
  simp only [ho]
  go_simp
  rfl
theorem exec_store_msg {a : Act} {o : Oper} {w : World} (x y : Operand) (ho : o.op = .store 66 x y) (g : Nat) (hx : a.eval x = .pointer (some ⟨g, 0, Option.none⟩)) (cs cs0 : List Value) (hy : a.eval y = .agg cs.toArray) (hB : Blk w g 66 cs0) (hl0 : cs0.length = 30) (hl : cs.length = 30) (h1 : cs.toArray.all (·.oneCell') = true) : (execOp a.eval o).run Try.prog w = .ok .skip (w.setRow g cs.toArray) := by
  unfold execOp
  simp only [ho, hx, hy, Instr.storeAt, Instr.sureAddr, Sem.run_bind, Sem.run_pure, Result.andThen_ok, run_storeVar_row w g 66 66 cs0.toArray cs.toArray hB.raw (sizeMsg (by simpa using hl)) (by simpa using hl0.trans hl.symm) h1]
theorem Mach.down {w : World} {base base' g : Nat} {X : Nat → Prop} {h : Hd} {round : Int} {ph : Ph} (hM : Mach w base X g h round ph) (hb : base' ≤ base) : Mach w base' X g h round ph := by
  obtain ⟨v, bl, st, h1, h2, h3, h4, h5, h6⟩ := hM.out
  refine ⟨⟨v, bl, st, h1, h2.down hb, h3, h4.down hb, h5, ?_⟩, ⟨hM.g.1, Nat.le_trans hb hM.g.2⟩, fun b e => ⟨Nat.le_trans hb (hM.X b e).1, (hM.X b e).2⟩, hM.ok⟩
  cases ph with
  | fresh => exact h6
  | asking qs =>
    obtain ⟨tg, vg, bm, rs, a1, a2, a3, a4, a5⟩ := h6
    exact ⟨tg, vg, bm, rs, a1, a2, a3.down hb, fun r hr => ⟨(a4 r hr).1.down hb, (a4 r hr).2⟩, a5⟩
  | laying ss tag ds =>
    obtain ⟨tg, vg, bm, dv, a1, a2, a3, a5⟩ := h6
    exact ⟨tg, vg, bm, dv, a1, a2.down hb, a3.down hb, a5⟩
  | ended err tag ds =>
    obtain ⟨dv, a1, a2, a3⟩ := h6
    exact ⟨dv, a1, a2.down hb, a3⟩
end Go.Proofs.Ytcihfjfbcfgidaa
