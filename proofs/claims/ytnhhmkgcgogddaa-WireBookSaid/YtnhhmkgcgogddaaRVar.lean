/- The program's reader: varint. -/
import Derived.Test.YtnhhmkgcgogddaaReader
import Derived.Test.YtnhhmkgcgogddaaBits
namespace Go.Proofs.Ytnhhmkgcgogddaa
open Go.RowKit
set_option linter.unusedVariables false

/-- What a number without a sign is read as: the number and how many bytes it has, or a fault. -/
inductive Dec where
  | ok (u m : Nat)
  | err (e : Int)
def decF : Nat → Nat → List Int → Dec
  | i, _, [] => if i = 10 then .err 11 else .err 10
  | i, u, c :: bs => if i = 10 then .err 11 else if (i = 9 ∧ 1 < c) ∨ (c = 0 ∧ 0 < i) then .err 11 else if c < 128 then .ok (u + c.toNat % 128 * 2 ^ (7 * i)) (i + 1) else decF (i + 1) (u + c.toNat % 128 * 2 ^ (7 * i)) bs

theorem decF_cons (i u : Nat) (c : Int) (bs : List Int) : decF i u (c :: bs) = if i = 10 then .err 11 else if (i = 9 ∧ 1 < c) ∨ (c = 0 ∧ 0 < i) then .err 11 else if c < 128 then .ok (u + c.toNat % 128 * 2 ^ (7 * i)) (i + 1) else decF (i + 1) (u + c.toNat % 128 * 2 ^ (7 * i)) bs := rfl
theorem next_bound {U m k : Nat} (hU : U < 2 ^ (7 * k)) (hm : m < 128) : U + m * 2 ^ (7 * k) < 2 ^ (7 * (k + 1)) := by
  have e : 2 ^ (7 * (k + 1)) = 128 * 2 ^ (7 * k) := by rw [show 7 * (k + 1) = 7 + 7 * k by omega, Nat.pow_add]
  rw [e]
  have : m * 2 ^ (7 * k) ≤ 127 * 2 ^ (7 * k) := Nat.mul_le_mul_right _ (by omega)
  omega
theorem put_bits (U k : Nat) (c : Int) (hU : U < 2 ^ (7 * k)) (hc : 0 ≤ c ∧ c ≤ 255) (h : U + c.toNat % 128 * 2 ^ (7 * k) < 18446744073709551616) :
    bits .or .u64 (U : Int) (IntKind.u64.wrap (IntKind.u64.wrap (bits .and .u8 c 127) * 2 ^ (7 * k))) = ((U + c.toNat % 128 * 2 ^ (7 * k) : Nat) : Int) := by
  obtain ⟨n, rfl⟩ : ∃ n : Nat, c = n := ⟨c.toNat, by omega⟩
  rw [Int.toNat_natCast] at h ⊢
  have e1 : bits .and .u8 (n : Int) 127 = ((n % 128 : Nat) : Int) := by
    rw [show (127 : Int) = ((127 : Nat) : Int) from rfl, bits_nat_and .u8 n 127 (by show n < 2 ^ 8; omega) (by show 127 < 2 ^ 8; omega), show n &&& 127 = n % 128 from Nat.and_two_pow_sub_one_eq_mod n 7, wrap_u8_nat _ (by omega)]
  have hp : 0 < 2 ^ (7 * k) := Nat.pow_pos (by omega)
  have h1 : n % 128 * 2 ^ (7 * k) < 18446744073709551616 := by omega
  rw [e1, wrap_u64_nat _ (by omega), show ((n % 128 : Nat) : Int) * 2 ^ (7 * k) = ((n % 128 * 2 ^ (7 * k) : Nat) : Int) by push_cast; rfl, wrap_u64_nat _ (by omega), bits_nat_or .u64 U _ (by show U < 2 ^ 64; omega) (by show _ < 2 ^ 64; omega)]
  rw [Nat.or_comm, Nat.mul_comm, ← Nat.two_pow_add_eq_or_of_lt hU, Nat.mul_comm, Nat.add_comm, wrap_u64_nat _ (by omega)]

def RVar (g base : Nat) (v : Value) (zs : List Int) (p : Nat) (err place : Int) (w : World) (e : Ending) (w' : World) : Prop :=
  (∃ u m, decF 0 0 (zs.drop p) = .ok u m ∧ u < 18446744073709551616 ∧ e = .returned (.int .u64 u) ∧ Rd w' g base v zs (p + m) err place ∧ Keeps (One g) w w') ∨
  (∃ k p', decF 0 0 (zs.drop p) = .err k ∧ e = .panicked (faultV k) ∧ Rd w' g base v zs p' err place ∧ Keeps (One g) w w')

set_option maxRecDepth 100000 in
set_option maxHeartbeats 3200000 in
theorem rvarint_any (g base : Nat) (v : Value) (zs : List Int) (p : Nat) (err place : Int) (w : World) (h : Rd w g base v zs p err place) (hr : zs.length ≤ 140737488351232) (hb : Bytes zs) :
    Calls Try.prog 68 #[.pointer (some ⟨g, 0, Option.none⟩)] w (RVar g base v zs p err place w) := by
  obtain ⟨R, hR⟩ : ∃ R, R = RVar g base v zs p err place w := ⟨_, rfl⟩
  rw [← hR]
  have HR := Lib.hid hR
  have HB := Lib.hid hb
  clear hR hb
  go_enter Try.func68, Try.ntmps68
  go_wp2_with fail
  go_loopw [3, 6] (fun y i wr => ∃ (k U : Nat), k ≤ 9 ∧ i = .int .i64 k ∧ y = .int .u64 U ∧ U < 2 ^ (7 * k) ∧ Rd wr g base v zs (p + k) err place ∧ Hid (decF 0 0 (zs.drop p) = decF k U (zs.drop (p + k))) ∧ Keeps (One g) w wr) (fun _ i _ => 10 - (intOf i).toNat)
  case atStart => exact ⟨0, 0, by omega, rfl, rfl, by simp, h, Lib.hid rfl, Keeps.refl _ _⟩
  case round =>
    clear h
    obtain ⟨k, U, hk, rfl, rfl, hU, h, hD, hK⟩ := hrel
    have hk10 : (k : Int) < 10 := by omega
    by_cases hend : p + k = zs.length
    · have hD2 : Hid (decF 0 0 (zs.drop p) = .err 10) := Lib.hid (by rw [hD.out, List.drop_of_length_le (by omega)]; unfold decF; rw [if_neg (by omega)])
      go_wp2_with fail
      refine (next_cut g base v zs (p + k) err place wr h hend hr).mono ?_
      rintro e w2 ⟨rfl, hd2⟩
      have hR2 : RVar g base v zs p err place w (.panicked (faultV 10)) w2 := .inr ⟨10, p + k, hD2.out, rfl, h.grew (hd2.keeps None), hK.trans (hd2.keeps _)⟩
      go_wp2_with fail
      exact ⟨rfl, by rw [HR.out]; exact hR2⟩
    · obtain ⟨c, hc⟩ : ∃ c, zs[p + k]? = some c := ⟨_, List.getElem?_eq_getElem (by have := h.le; omega)⟩
      have hcb := HB.out c (List.mem_of_getElem? hc)
      have hdrop : zs.drop (p + k) = c :: zs.drop (p + k + 1) := by
        obtain ⟨hlt, he⟩ := List.getElem?_eq_some_iff.1 hc
        rw [List.drop_eq_getElem_cons hlt, he]
      rw [hdrop] at hD
      clear hdrop
      have HC := Lib.hid hc
      have hc256 : c.toNat % 128 < 128 := Nat.mod_lt _ (by omega)
      by_cases hk9 : k = 9
      · obtain ⟨t1, t2⟩ := test_eq (show (k : Int) = 9 by omega)
        by_cases h1 : 1 < c
        · have hDE : Hid (decF 0 0 (zs.drop p) = .err 11) := Lib.hid (by rw [hD.out, decF_cons, if_neg (by omega), if_pos (.inl ⟨hk9, h1⟩)])
          go_wp2_with fail
          refine (next_byte g base v zs (p + k) c err place wr h HC.out hr).mono ?_
          rintro e w2 ⟨rfl, hR2, hk2⟩
          have hRV : RVar g base v zs p err place w (.panicked (faultV 11)) w2 := .inr ⟨11, p + k + 1, hDE.out, rfl, hR2, hK.trans hk2⟩
          go_wp2_with fail
          exact ⟨rfl, by rw [HR.out]; exact hRV⟩
        · by_cases hz : c = 0
          · obtain ⟨t3, t4⟩ := test_eq hz
            have hk0 : (0 : Int) < (k : Int) := by omega
            have hDE : Hid (decF 0 0 (zs.drop p) = .err 11) := Lib.hid (by rw [hD.out, decF_cons, if_neg (by omega), if_pos (.inr ⟨hz, by omega⟩)])
            go_wp2_with fail
            refine (next_byte g base v zs (p + k) c err place wr h HC.out hr).mono ?_
            rintro e w2 ⟨rfl, hR2, hk2⟩
            have hRV : RVar g base v zs p err place w (.panicked (faultV 11)) w2 := .inr ⟨11, p + k + 1, hDE.out, rfl, hR2, hK.trans hk2⟩
            go_wp2_with fail
            exact ⟨rfl, by rw [HR.out]; exact hRV⟩
          · obtain ⟨t3, t4⟩ := test_ne hz
            have hl : c < 128 := by omega
            have hDE : Hid (decF 0 0 (zs.drop p) = .ok (U + c.toNat % 128 * 2 ^ (7 * k)) (k + 1)) := Lib.hid (by rw [hD.out, decF_cons, if_neg (by omega), if_neg (by omega), if_pos hl])
            have hlt64 : U + c.toNat % 128 * 2 ^ (7 * k) < 18446744073709551616 := by
              obtain rfl : c = 1 := by omega
              subst hk9
              simp at hU ⊢; omega
            go_wp2_with fail
            refine (next_byte g base v zs (p + k) c err place wr h HC.out hr).mono ?_
            rintro e w2 ⟨rfl, hR2, hk2⟩
            have hRV : RVar g base v zs p err place w (.returned (.int .u64 ((U + c.toNat % 128 * 2 ^ (7 * k) : Nat) : Int))) w2 := .inl ⟨_, k + 1, hDE.out, hlt64, rfl, hR2, hK.trans hk2⟩
            have hpb := Lib.hid (put_bits U k c hU hcb hlt64)
            go_wp2_with fail
            have e63 : (2 : Int) ^ (7 * 9) = 9223372036854775808 := by decide
            have hq := hpb.out
            rw [show (2 : Int) ^ (7 * k) = 9223372036854775808 by rw [hk9]; exact e63] at hq
            rw [HR.out]
            exact Eq.mp (congrArg (fun x => RVar g base v zs p err place w (.returned (.int .u64 x)) w2) hq.symm) hRV
      · obtain ⟨t1, t2⟩ := test_ne (show ¬ (k : Int) = 9 by omega)
        have hb := next_bound hU hc256
        have hb2 : 2 ^ (7 * (k + 1)) ≤ 2 ^ 63 := Nat.pow_le_pow_right (by omega) (by omega)
        have hlt64 : U + c.toNat % 128 * 2 ^ (7 * k) < 18446744073709551616 := by omega
        by_cases hz : c = 0
        · obtain ⟨t3, t4⟩ := test_eq hz
          by_cases hk0 : 0 < k
          · have hk0' : (0 : Int) < (k : Int) := by omega
            have hDE : Hid (decF 0 0 (zs.drop p) = .err 11) := Lib.hid (by rw [hD.out, decF_cons, if_neg (by omega), if_pos (.inr ⟨hz, hk0⟩)])
            go_wp2_with fail
            refine (next_byte g base v zs (p + k) c err place wr h HC.out hr).mono ?_
            rintro e w2 ⟨rfl, hR2, hk2⟩
            have hRV : RVar g base v zs p err place w (.panicked (faultV 11)) w2 := .inr ⟨11, p + k + 1, hDE.out, rfl, hR2, hK.trans hk2⟩
            go_wp2_with fail
            exact ⟨rfl, by rw [HR.out]; exact hRV⟩
          · have hk0' : ¬ (0 : Int) < (k : Int) := by omega
            have hl : c < 128 := by omega
            have hDE : Hid (decF 0 0 (zs.drop p) = .ok (U + c.toNat % 128 * 2 ^ (7 * k)) (k + 1)) := Lib.hid (by rw [hD.out, decF_cons, if_neg (by omega), if_neg (by omega), if_pos hl])
            go_wp2_with fail
            refine (next_byte g base v zs (p + k) c err place wr h HC.out hr).mono ?_
            rintro e w2 ⟨rfl, hR2, hk2⟩
            have hRV : RVar g base v zs p err place w (.returned (.int .u64 ((U + c.toNat % 128 * 2 ^ (7 * k) : Nat) : Int))) w2 := .inl ⟨_, k + 1, hDE.out, hlt64, rfl, hR2, hK.trans hk2⟩
            have hpb := Lib.hid (put_bits U k c hU hcb hlt64)
            go_wp2_with fail
            have hq := hpb.out
            rw [show bits .and .u8 c 127 = bits .and .u8 0 127 by rw [hz]] at hq
            rw [HR.out]
            exact Eq.mp (congrArg (fun x => RVar g base v zs p err place w (.returned (.int .u64 x)) w2) hq.symm) hRV
        · obtain ⟨t3, t4⟩ := test_ne hz
          by_cases hl : c < 128
          · have hDE : Hid (decF 0 0 (zs.drop p) = .ok (U + c.toNat % 128 * 2 ^ (7 * k)) (k + 1)) := Lib.hid (by rw [hD.out, decF_cons, if_neg (by omega), if_neg (by omega), if_pos hl])
            go_wp2_with fail
            refine (next_byte g base v zs (p + k) c err place wr h HC.out hr).mono ?_
            rintro e w2 ⟨rfl, hR2, hk2⟩
            have hRV : RVar g base v zs p err place w (.returned (.int .u64 ((U + c.toNat % 128 * 2 ^ (7 * k) : Nat) : Int))) w2 := .inl ⟨_, k + 1, hDE.out, hlt64, rfl, hR2, hK.trans hk2⟩
            have hpb := Lib.hid (put_bits U k c hU hcb hlt64)
            go_wp2_with fail
            rw [HR.out]
            exact Eq.mp (congrArg (fun x => RVar g base v zs p err place w (.returned (.int .u64 x)) w2) hpb.out.symm) hRV
          · have hDE : Hid (decF 0 0 (zs.drop p) = decF (k + 1) (U + c.toNat % 128 * 2 ^ (7 * k)) (zs.drop (p + (k + 1)))) := Lib.hid (by rw [hD.out, decF_cons, if_neg (by omega), if_neg (by omega), if_neg hl]; rfl)
            go_wp2_with fail
            refine (next_byte g base v zs (p + k) c err place wr h HC.out hr).mono ?_
            rintro e w2 ⟨rfl, hR2, hk2⟩
            go_wp2_with fail
            rw [put_bits U k c hU hcb (by omega)]
            go_roundw
            case rel => exact ⟨k + 1, U + c.toNat % 128 * 2 ^ (7 * k), by omega, by go_num, rfl, hb, hR2, hDE, hK.trans hk2⟩
            case measure => simp [intOf]; omega
end Go.Proofs.Ytnhhmkgcgogddaa
