/- The reference's Varint, Zigzag, Put. -/
import Derived.Test.YtnhhmkgcgogddaaWriter
namespace Go.Proofs.Ytnhhmkgcgogddaa
open Go.RowKit

def NewRow (zs : List Int) (w : World) (e : Ending) (w' : World) : Prop := ∃ v, e = .returned v ∧ Row .u8 5 w' w.heap.size v zs ∧ Keeps None w w'

set_option maxRecDepth 100000 in
set_option maxHeartbeats 1600000 in
theorem refvarint_any (u : Nat) (w : World) (hu : u < 18446744073709551616) :
    Calls Try.prog 70 #[.int .u64 (u : Int)] w (NewRow (varF u) w) := by
  obtain ⟨i0, hi, hz0, hz1, hz2⟩ := info_parts Try.infoU8
  have hten := varF_ten hu
  go_enter Try.func70, Try.ntmps70
  go_wp2
  go_loopw [0, 3] (fun x y wr => ∃ (m : Nat) (ys : List Int), x = .int .u64 (m : Int) ∧ m < 18446744073709551616 ∧ Row .u8 5 wr w.heap.size y ys ∧ Hid (ys ++ varF m = varF u) ∧ Keeps None w wr) (fun x _ _ => (intOf x).toNat)
  case atStart => exact ⟨u, [], rfl, hu, Row.nil _ _ _ _, Lib.hid rfl, Keeps.refl _ _⟩
  case round =>
    rename_i y _
    obtain ⟨m, ys, rfl, hm, hw, hE, hK⟩ := hrel
    have hlen : ys.length + (varF m).length = (varF u).length := by
      have := congrArg List.length hE.out
      simpa using this
    have hs := hK.size
    obtain ⟨A, c, rfl⟩ := hw.slice
    by_cases hlt : 127 < m
    · obtain ⟨x, hx⟩ : ∃ x : Int, x = ((m % 128 + 128 : Nat) : Int) := ⟨_, rfl⟩
      obtain ⟨x1, hx1⟩ : ∃ x1 : Nat, x1 = m % 128 := ⟨_, rfl⟩
      have e1 : bits .and .u64 (m : Int) 127 = (x1 : Int) := by rw [hx1]; exact and_127 m hm
      have e2 : (x1 : Int) % 256 = x1 := by omega
      have e3 : (x1 : Int) + 128 = x := by omega
      have b1 : x1 < 128 := by omega
      have hE2 : Hid ((ys ++ [x]) ++ varF (m / 128) = varF u) := Lib.hid (by rw [← hE.out, varF_more hlt, hx]; simp)
      have hl2 := congrArg List.length (varF_more hlt)
      rw [List.length_cons] at hl2
      clear hE hx hx1
      go_wp2_with (at_builtin; refine wpList_append_row _ rfl (.tmp 6) (.tmp 11) 23 rfl w.heap.size 5 i0 (.int .u8 0) 1 1 Try.underlying23 hi hz0 hz1 hz2 rfl (by decide) _ ys.length _ rfl (hw.raw.alloc _) (some ⟨wr.heap.size, 0, Option.none⟩) 1 1 [Value.int .u8 x] rfl rfl (fun e => by cases e) (src_new wr 5 _ _ rfl) (ints_oneCell _ [x]) (by unfold maxLen; omega) (by omega) (by simp; omega) ?_; intro v' w1 hown hk1 hloc; have hr1 : Row .u8 5 w1 w.heap.size v' (ys ++ [x]) := Row.of_append rfl rfl hown; have hk2 : Keeps None w w1 := (hK.alloc _).own (hw.raw.alloc _) (Nat.le_refl _) hk1; clear hown)
      go_roundw
      case rel => exact ⟨m / 128, ys ++ [x], by go_num, by omega, hr1, hE2, hk2⟩
      case measure => simp [intOf]; omega
    · have hE2 : Hid ((ys ++ [(m : Int)]) = varF u) := Lib.hid (by rw [← hE.out, varF_last hlt])
      clear hE
      have hl2 : (varF m).length = 1 := congrArg List.length (varF_last hlt)
      have e1 : (m : Int) % 256 = m := by omega
      go_wp2_with (at_builtin; refine wpList_append_row _ rfl (.tmp 15) (.tmp 18) 23 rfl w.heap.size 5 i0 (.int .u8 0) 1 1 Try.underlying23 hi hz0 hz1 hz2 rfl (by decide) _ ys.length _ rfl (hw.raw.alloc _) (some ⟨wr.heap.size, 0, Option.none⟩) 1 1 [Value.int .u8 (m : Int)] rfl rfl (fun e => by cases e) (src_new wr 5 _ _ rfl) (ints_oneCell _ [(m : Int)]) (by unfold maxLen; omega) (by omega) (by simp; omega) ?_; intro v' w1 hown hk1 hloc; have hr1 : Row .u8 5 w1 w.heap.size v' (ys ++ [(m : Int)]) := Row.of_append rfl rfl hown; have hk2 : Keeps None w w1 := (hK.alloc _).own (hw.raw.alloc _) (Nat.le_refl _) hk1; clear hown)
      go_ret
      exact ⟨v', rfl, hr1.cast hE2.out, hk2⟩

set_option maxRecDepth 100000 in
set_option maxHeartbeats 1600000 in
theorem refzig_any (n : Int) (w : World) (hn : -9223372036854775808 ≤ n ∧ n ≤ 9223372036854775807) :
    Calls Try.prog 71 #[.int .i64 n] w fun e w' => e = .returned (.int .u64 (zigF n : Int)) ∧ w' = w := by
  by_cases hneg : n < 0
  · have E : Hid (zigF n = 2 * (-(n + 1)).toNat + 1) := Lib.hid (by unfold zigF; rw [if_pos hneg])
    go_enter Try.func71, Try.ntmps71
    go_wp2
    go_ret
    exact ⟨ret_int (by rw [E.out]; omega), rfl⟩
  · have E : Hid (zigF n = 2 * n.toNat) := Lib.hid (by unfold zigF; rw [if_neg hneg])
    go_enter Try.func71, Try.ntmps71
    go_wp2
    go_ret
    exact ⟨ret_int (by rw [E.out]; omega), rfl⟩

/-- One thing's bytes. -/
def itemF (kind n : Int) (bs : List Int) : List Int :=
  if kind = 1 then varF n.toNat else if kind = 2 then varF (zigF n) else varF bs.length ++ bs

set_option maxRecDepth 100000 in
set_option maxHeartbeats 1600000 in
theorem refput_any (kind n : Int) (A : Option Addr) (len cap : Nat) (bs : List Int) (w : World) (hA : Nums .u8 w A bs) (hl : bs.length = len) (hlen : len ≤ 65536) (hnil : A = Option.none → cap = 0) (hn : -9223372036854775808 ≤ n ∧ n ≤ 9223372036854775807) (hk1 : kind = 1 → 0 ≤ n) :
    Calls Try.prog 59 #[.agg #[.int .i64 kind, .int .i64 n, .slice A len cap]] w (NewRow (itemF kind n bs) w) := by
  obtain ⟨i0, hi, hz0, hz1, hz2⟩ := info_parts Try.infoU8
  subst hl
  by_cases h1 : kind = 1
  · have hn0 := hk1 h1
    have E : itemF kind n bs = varF n.toNat := by unfold itemF; rw [if_pos h1]
    rw [E]
    obtain ⟨k, rfl⟩ := Int.eq_ofNat_of_zero_le hn0
    rw [Int.toNat_natCast]
    have e1 : (k : Int) % 18446744073709551616 = k := by omega
    subst h1
    clear hk1 E
    go_enter Try.func59, Try.ntmps59
    go_wp2_with fail
    refine (refvarint_any k _ (by omega)).mono ?_
    rintro e w1 ⟨v, rfl, hv, hkv⟩
    go_wp2_with fail
    go_ret
    exact ⟨v, rfl, hv.down (by simp), ((Keeps.refl _ _).alloc _).trans hkv⟩
  · by_cases h2 : kind = 2
    · have E : itemF kind n bs = varF (zigF n) := by unfold itemF; rw [if_neg h1, if_pos h2]
      rw [E]
      have hz := zigF_lt hn
      subst h2
      clear hk1 E h1
      go_enter Try.func59, Try.ntmps59
      go_wp2_with fail
      refine (refzig_any n _ hn).mono ?_
      rintro e w0 ⟨rfl, rfl⟩
      go_wp2_with fail
      refine (refvarint_any (zigF n) _ hz).mono ?_
      rintro e w1 ⟨v, rfl, hv, hkv⟩
      go_wp2_with fail
      go_ret
      exact ⟨v, rfl, hv.down (by simp), ((Keeps.refl _ _).alloc _).trans hkv⟩
    · have E : itemF kind n bs = varF bs.length ++ bs := by unfold itemF; rw [if_neg h1, if_neg h2]
      rw [E]
      obtain ⟨t1, t2⟩ := test_ne h1
      obtain ⟨t3, t4⟩ := test_ne h2
      have e1 : (bs.length : Int) % 18446744073709551616 = bs.length := by omega
      have hten := varF_ten (u := bs.length) (by omega)
      obtain ⟨ys, hys⟩ : ∃ ys, ys = varF bs.length := ⟨_, rfl⟩
      rw [← hys] at hten ⊢
      have HY := Lib.hid hys
      clear hk1 E hys
      go_enter Try.func59, Try.ntmps59
      go_wp2_with fail
      refine (refvarint_any bs.length _ (by omega)).mono ?_
      rintro e w1 ⟨v, rfl, hv, hkv⟩
      rw [← HY.out] at hv
      have hK : Keeps None w w1 := ((Keeps.refl _ _).alloc _).trans hkv
      have hv1 := hv.down (base' := w.heap.size) (by simp)
      clear hv
      have hA1 := hA.grew hK
      have hs := hK.size
      have hc2 : w1.cell? ⟨w.heap.size, 2, Option.none⟩ = some (.slice A bs.length cap) := hkv.cell ((Blk.new w 32 [.int .i64 kind, .int .i64 n, .slice A bs.length cap]).cell 2 _ rfl) id
      obtain ⟨A', c', rfl⟩ := hv1.slice
      clear hkv
      go_wp2_with (at_builtin; refine wpList_append_row _ rfl (.tmp 23) (.tmp 25) 23 rfl w.heap.size 5 i0 (.int .u8 0) 1 1 Try.underlying23 hi hz0 hz1 hz2 rfl (by decide) _ ys.length _ rfl hv1.raw A bs.length cap (bs.map (Value.int .u8)) rfl (by rw [List.length_map, Nat.mul_one]) hnil hA1.src (ints_oneCell _ _) (by unfold maxLen; omega) (by omega) hs ?_; intro v' w2 hown hk2 hloc)
      go_ret
      exact ⟨v', rfl, Row.of_append rfl rfl hown, hK.own hv1 (Nat.le_refl _) hk2⟩
end Go.Proofs.Ytnhhmkgcgogddaa
