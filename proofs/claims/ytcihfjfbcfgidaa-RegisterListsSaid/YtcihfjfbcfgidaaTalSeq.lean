/- The program's tally of blocks: what Got hands back, ranged over. -/
import Derived.Test.YtcihfjfbcfgidaaTalGot
import Derived.Test.YtcihfjfbcfgidaaRangeGood
import Derived.Shelf.Abstract
import Derived.Maps.AppendAt
namespace Go.Proofs.Ytcihfjfbcfgidaa.TB
open Go.RowKit Go.Maps Go.Proofs.Ytcihfjfbcfgidaa.TG

attribute [local go_sem] Oper.semAt_some

def encB (x : Int × BV) : Array Value := #[.int .i64 x.1, x.2.val]

theorem take_zip {xs : List Int} {ys : List BV} {k : Nat} {x : Int} {y : BV} (hx : xs[k]? = some x) (hy : ys[k]? = some y) : (xs.zip ys).take (k + 1) = (xs.zip ys).take k ++ [(x, y)] :=
  take_succ_of ((List.getElem?_zip_eq_some (z := (x, y))).2 ⟨hx, hy⟩)

set_option maxRecDepth 100000 in
set_option maxHeartbeats 2000000 in
theorem seqB (n : Nat) (hn : 1 ≤ n) (base b1 b2 : Nat) (v1 v2 : Value) (xs : List Int) (bs : List BV) (hlen : bs.length = xs.length) (hr : xs.length ≤ 1000) :
    SeqG Fence.wide n Try.prog 107 #[.pointer (some ⟨b1, 0, Option.none⟩), .pointer (some ⟨b2, 0, Option.none⟩)] encB (fun pre x _ _ => (pre ++ [x]) <+: xs.zip bs) (fun W => Two W base b1 b2 v1 v2 xs bs) (fun zs => zs = xs.zip bs) (fun pre => pre <+: xs.zip bs) xs.length := by
  intro l J Jx W hJ hY h0 hS0
  have c1 := hS0.blk1.cell 0 _ rfl
  obtain ⟨A1, d1, rfl⟩ := hS0.row1.slice
  obtain ⟨A2, d2, rfl⟩ := hS0.row2.slice
  refine callsIn_of_wp Try.func107 rfl trivial ?_ rfl
  simp only [Try.ntmps107, List.size_toArray, List.length_cons, List.length_nil, Nat.reduceAdd, Nat.reduceSub, Array.replicate_succ, Array.replicate_zero, List.push_toArray, List.append_toArray, List.nil_append, List.cons_append]
  gi_wp2
  gi_loopw [8] (fun i wr => ∃ k : Nat, k ≤ xs.length ∧ i = .int .i64 k ∧ J ((xs.zip bs).take k) wr ∧ Two wr base b1 b2 (.slice A1 xs.length d1) (.slice A2 bs.length d2) xs bs) (fun i _ => xs.length - (intOf i).toNat)
  case atStart => exact ⟨0, Nat.zero_le _, rfl, h0, hS0⟩
  case round =>
    obtain ⟨k, hk, rfl, hJs, hS⟩ := hrel
    by_cases hlt : k < xs.length
    · obtain ⟨x, bx, ox, rfl, hcx, hx⟩ := (Nums.row hS.row1).1.get k hlt
      obtain ⟨y, hy⟩ : ∃ y, bs[k]? = some y := ⟨_, List.getElem?_eq_getElem (by omega)⟩
      obtain ⟨by_, rfl, -, -, y0, y1, y2⟩ := hS.row2.get k y hy
      have hly : k < bs.length := by omega
      have c2 := hS.blk2.cell 0 _ rfl
      have htz := take_zip hx.out hy
      have hpre : (xs.zip bs).take k ++ [(x, y)] <+: xs.zip bs := by rw [← htz]; exact List.take_prefix _ _
      obtain ⟨fn, tmps, assign, body, hyl, hR⟩ := hY _ (x, y) wr wr hJs (Keeps.refl _ _) hpre hS (by simp; omega)
      dsimp only [encB, BV.val] at hyl
      have HT := Lib.hid htz
      clear hx hy htz hpre
      gi_wp2
      refine hR.mono ?_
      rintro e W3 (⟨rfl, hJ3, hk3⟩ | ⟨rfl, hJx3⟩)
      · gi_wp2
        go_roundw
        case rel => exact ⟨k + 1, by omega, by simp, by rw [HT.out]; exact hJ3, hk3⟩
        case measure => simp [intOf]; omega
      · gi_wp2
        refine bodyPost_ret (results_none rfl _ _ _) rfl ?_
        refine ⟨⟨_, rfl⟩, .inr ⟨_, ?_, hJx3⟩⟩
        rw [← HT.out]
        exact List.take_prefix _ _
    · obtain rfl : k = xs.length := by omega
      gi_wp2
      go_end0
      exact ⟨⟨_, rfl⟩, .inl ⟨_, rfl, by rwa [List.take_of_length_le (by simp; omega)] at hJs⟩⟩
end Go.Proofs.Ytcihfjfbcfgidaa.TB
