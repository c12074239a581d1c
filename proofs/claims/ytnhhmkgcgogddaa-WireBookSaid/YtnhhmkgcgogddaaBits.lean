/- Bit operations of Go's unsigned kinds as operations on natural numbers. -/
import Derived.Test.YtnhhmkgcgogddaaBase
import Derived.Laws.BitsLemmas
namespace Go.Proofs.Ytnhhmkgcgogddaa

theorem wrap_u32_nat (n : Nat) (h : n < 2 ^ 32) : IntKind.u32.wrap (n : Int) = n := by rw [IntKind.wrap_u32]; omega
theorem wrap_u8_nat (n : Nat) (h : n < 2 ^ 8) : IntKind.u8.wrap (n : Int) = n := by rw [IntKind.wrap_u8]; omega
theorem wrap_u64_nat (n : Nat) (h : n < 2 ^ 64) : IntKind.u64.wrap (n : Int) = n := by
  simp [IntKind.wrap, IntKind.bits, IntKind.signed]; omega
theorem wrap_i64_nat (n : Nat) (h : n < 2 ^ 63) : IntKind.i64.wrap (n : Int) = n := by rw [IntKind.wrap_i64]; omega

theorem bits_nat_xor (k : IntKind) (a b : Nat) (ha : a < 2 ^ k.bits) (hb : b < 2 ^ k.bits) : bits .xor k (a : Int) (b : Int) = k.wrap ((a ^^^ b : Nat) : Int) := by
  simp only [bits, BitVec.ofInt_natCast, BitVec.toNat_xor, BitVec.toNat_ofNat]
  rw [Nat.mod_eq_of_lt ha, Nat.mod_eq_of_lt hb]
theorem bits_nat_and (k : IntKind) (a b : Nat) (ha : a < 2 ^ k.bits) (hb : b < 2 ^ k.bits) : bits .and k (a : Int) (b : Int) = k.wrap ((a &&& b : Nat) : Int) := by
  simp only [bits, BitVec.ofInt_natCast, BitVec.toNat_and, BitVec.toNat_ofNat]
  rw [Nat.mod_eq_of_lt ha, Nat.mod_eq_of_lt hb]
theorem bits_nat_or (k : IntKind) (a b : Nat) (ha : a < 2 ^ k.bits) (hb : b < 2 ^ k.bits) : bits .or k (a : Int) (b : Int) = k.wrap ((a ||| b : Nat) : Int) := by
  simp only [bits, BitVec.ofInt_natCast, BitVec.toNat_or, BitVec.toNat_ofNat]
  rw [Nat.mod_eq_of_lt ha, Nat.mod_eq_of_lt hb]

theorem bits_xor_u32 (a b : Nat) (ha : a < 4294967296) (hb : b < 4294967296) : bits .xor .u32 (a : Int) (b : Int) = ((a ^^^ b : Nat) : Int) := by
  rw [bits_nat_xor .u32 a b ha hb]
  exact wrap_u32_nat _ (Nat.xor_lt_two_pow (by omega) (by omega))
theorem bits_and_u32 (a b : Nat) (ha : a < 4294967296) (hb : b < 4294967296) : bits .and .u32 (a : Int) (b : Int) = ((a &&& b : Nat) : Int) := by
  rw [bits_nat_and .u32 a b ha hb]
  exact wrap_u32_nat _ (Nat.and_lt_two_pow _ (by omega))
theorem bits_and1_u32 (a : Nat) (ha : a < 4294967296) : bits .and .u32 (a : Int) 1 = ((a % 2 : Nat) : Int) := by
  have h := bits_and_u32 a 1 ha (by omega)
  rw [Nat.and_one_is_mod] at h
  exact h
theorem bits_and15_u32 (a : Nat) (ha : a < 4294967296) : bits .and .u32 (a : Int) 15 = ((a % 16 : Nat) : Int) := by
  have h := bits_and_u32 a 15 ha (by omega)
  rw [show (15 : Nat) = 2 ^ 4 - 1 from rfl, Nat.and_two_pow_sub_one_eq_mod] at h
  exact h
/-- Low bits or'ed to high ones: their sum. -/
theorem bits_or_i64 (i : Nat) (x y : Int) (hx0 : 0 ≤ x) (hx : x < 2 ^ i) (hy0 : 0 ≤ y) (h : x + y * 2 ^ i < 9223372036854775808) : bits .or .i64 x (y * 2 ^ i) = x + y * 2 ^ i := by
  obtain ⟨a, rfl⟩ := Int.eq_ofNat_of_zero_le hx0
  obtain ⟨b, rfl⟩ := Int.eq_ofNat_of_zero_le hy0
  have ha : a < 2 ^ i := by exact_mod_cast hx
  have e : ((b : Int) * 2 ^ i) = ((b * 2 ^ i : Nat) : Int) := by rw [Int.natCast_mul, Int.natCast_pow]; rfl
  rw [e] at h
  have hs : a + b * 2 ^ i < 9223372036854775808 := by
    generalize b * 2 ^ i = q at h
    omega
  have h1 : b * 2 ^ i < 2 ^ 64 := by omega
  have h2 : a < 2 ^ 64 := by omega
  have h3 : a ||| (b * 2 ^ i) = a + b * 2 ^ i := by
    have := Nat.two_pow_add_eq_or_of_lt ha b
    rw [Nat.mul_comm b, Nat.or_comm, ← this, Nat.add_comm]
  rw [e, bits_nat_or .i64 a (b * 2 ^ i) h2 h1, h3, wrap_i64_nat _ (by omega)]
  rfl
/-- Two bytes' exclusive or. -/
def xorB (y x : Int) : Int := ((y.toNat ^^^ x.toNat : Nat) : Int)
theorem xorB_byte {y x : Int} (hy : 0 ≤ y ∧ y ≤ 255) (hx : 0 ≤ x ∧ x ≤ 255) : 0 ≤ xorB y x ∧ xorB y x ≤ 255 := by
  have h : y.toNat ^^^ x.toNat < 2 ^ 8 := Nat.xor_lt_two_pow (by omega) (by omega)
  unfold xorB; omega
theorem bits_xor_u8 {y x : Int} (hy : 0 ≤ y ∧ y ≤ 255) (hx : 0 ≤ x ∧ x ≤ 255) : bits .xor .u8 y x = xorB y x := by
  obtain ⟨a, rfl⟩ := Int.eq_ofNat_of_zero_le hy.1
  obtain ⟨b, rfl⟩ := Int.eq_ofNat_of_zero_le hx.1
  rw [bits_nat_xor .u8 a b (by simp [IntKind.bits]; omega) (by simp [IntKind.bits]; omega)]
  exact wrap_u8_nat _ (Nat.xor_lt_two_pow (by omega) (by omega))
end Go.Proofs.Ytnhhmkgcgogddaa
