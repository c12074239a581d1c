/- RegisterBook's three machines in plain words. -/
import Derived.Test.YtcihfjfbcfgidaaBook7State
namespace Go.Proofs.Ytcihfjfbcfgidaa
open Go.RowKit

def hdB (data : List Int) (q : Nat) : Hd := if q = 0 then ⟨3, 1, 1, 3, 1, 0, [1, 2, 3, 4, 5], true, data, 0⟩ else hRd
def stB (q : Nat) (k : Int) : Int × Int := if q = 2 then (0, 0) else (k, 2)
/-- Where a machine stands behind so many values. -/
def pB (data other : List Int) (q : Nat) : Nat → Int × Ph × OutS
  | 0 => (7, .asking [], .msgs 1 7 (0, 0) [] [1, 2, 3, 4, 5])
  | 1 => (7, .asking [⟨1, stB q 1, other⟩], .no)
  | 2 => (7, .asking [⟨1, stB q 1, other⟩, ⟨2, stB q 2, other⟩], .no)
  | _ => if q = 0 then (8, .laying [] (4, 3) data, .msgs 2 8 (4, 3) data [1, 2, 3, 4, 5]) else if q = 1 then (8, .laying [] (3, 2) other, .msgs 2 8 (3, 2) other [1, 2, 3, 4, 5]) else (7, .ended 0 (0, 0) [0, 0, 0, 0], .no)
theorem begin_pB (data other : List Int) (q : Nat) (hq : q < 3) : beginF (hdB data q) 7 .fresh = pB data other q 0 := by
  obtain rfl | rfl | rfl : q = 0 ∨ q = 1 ∨ q = 2 := by omega
  all_goals rfl
theorem take_pB (data other : List Int) (q : Nat) (hq : q < 3) (k : Nat) (hk : k < 3) :
    takeF (hdB data q) (pB data other q k).1 (pB data other q k).2.1 11 ((k : Int) + 1) (stB q ((k : Int) + 1)) other (fitsF (hdB data q) (pB data other q k).1 false true 3 1 7 1 3 1 0) = pB data other q (k + 1) := by
  obtain rfl | rfl | rfl : k = 0 ∨ k = 1 ∨ k = 2 := by omega
  all_goals obtain rfl | rfl | rfl : q = 0 ∨ q = 1 ∨ q = 2 := by omega
  all_goals with_unfolding_all rfl
theorem tick_pB (data other : List Int) (q : Nat) (hq : q < 3) : tickF (hdB data q) (pB data other q 3).1 (pB data other q 3).2.1 = (pB data other q 3).2.2 := by
  obtain rfl | rfl | rfl : q = 0 ∨ q = 1 ∨ q = 2 := by omega
  all_goals rfl
theorem len_pB (data other : List Int) (q : Nat) (hq : q < 3) : lnO (pB data other q 3).2.2 = if q = 2 then 0 else 5 := by
  obtain rfl | rfl | rfl : q = 0 ∨ q = 1 ∨ q = 2 := by omega
  all_goals rfl
theorem zs_pB (data other : List Int) (q : Nat) (hq : q < 3) (n : Nat) (h1 : data.length ≤ n) (h2 : other.length ≤ n) : (zsO (pB data other q 3).2.2).length ≤ n := by
  obtain rfl | rfl | rfl : q = 0 ∨ q = 1 ∨ q = 2 := by omega
  · exact h1
  · exact h2
  · exact Nat.zero_le _
theorem OutAt.keeps {S : Nat → Prop} {w w' : World} {B : Nat} {h : Hd} {u : Value} {o : OutS} (ho : OutAt w B h u o) (hk : Keeps S w w') (hS : ∀ b, B ≤ b → ¬ S b) : OutAt w' B h u o := by
  cases o with
  | no => exact ho
  | msgs kind round tag zs l =>
    obtain ⟨ms, hm⟩ := ho
    exact ⟨ms, hm.keeps hk (fun b hb _ => hS b hb)⟩
/-- What was told last: it lies above all. -/
structure Tl (wr : World) (B bm : Nat) (h : Hd) (g : Nat → Nat) (X : Nat → Nat → Prop) (rs : Lot) (l : Value) (o : OutS) : Prop where
  out : OutAt wr B h l o
  x : ∀ r, r < 3 → ∀ b, (X r b ∨ b = g r) → b < B
  r : ∀ b, OwnM rs b → b < B
  m : bm < B
theorem Tl.keeps {S : Nat → Prop} {wr w' : World} {B bm : Nat} {h : Hd} {g : Nat → Nat} {X : Nat → Nat → Prop} {rs : Lot} {l : Value} {o : OutS} (t : Tl wr B bm h g X rs l o) (hk : Keeps S wr w') (hS : ∀ b, B ≤ b → ¬ S b) : Tl w' B bm h g X rs l o := ⟨t.out.keeps hk hS, t.x, t.r, t.m⟩
theorem B7.told {w0 w w' : World} {bm : Nat} {hd : Nat → Hd} {g : Nat → Nat} {X : Nat → Nat → Prop} {ph : Nat → Int × Ph} {rs : Lot} {al : Value} {q B : Nat} {X' : Nat → Prop} {u : Value} {out : OutS} (h : B7 w0 w bm hd g X ph rs al) (hq : q < 3) (ho : OutAt w' B (hd q) u out) (hB : w.heap.size ≤ B) (hX' : ∀ b, X' b → b < B) : Tl w' B bm (hd q) g (updN X q X') rs u out := by
  refine ⟨ho, fun r hr b hb => ?_, fun b hb => Nat.lt_of_lt_of_le (h.all.manyLt hb).2 hB, Nat.lt_of_lt_of_le h.bml.2 hB⟩
  rcases hb with hb | rfl
  · by_cases hrq : r = q
    · subst hrq
      rw [updN_at] at hb
      exact hX' b hb
    · rw [updN_off _ _ _ hrq] at hb
      exact Nat.lt_of_lt_of_le (h.lt hr (.inl hb)).2 hB
  · exact Nat.lt_of_lt_of_le (h.lt hr (.inr rfl)).2 hB
end Go.Proofs.Ytcihfjfbcfgidaa
