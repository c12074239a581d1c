/- The plain law of the checksum: four steps bit by bit are one step by the table. No Go here. -/
namespace Go.Proofs.Ytnhhmkgcgogddaa.Crc

def poly : Nat := 2197175160
def stp (x : Nat) : Nat := (x / 2) ^^^ (if x % 2 = 1 then poly else 0)
def it : Nat → Nat → Nat
  | 0, x => x
  | n + 1, x => stp (it n x)
def tab (i : Nat) : Nat := it 4 i
def byt (x : Nat) (c : Int) : Nat := it 8 (x ^^^ c.toNat)
def from_ (x : Nat) (l : List Int) : Nat := l.foldl byt x
/-- The checksum of these bytes. -/
def crc (l : List Int) : Nat := from_ 4294967295 l ^^^ 4294967295

theorem xor_div2 (a b : Nat) : (a ^^^ b) / 2 = (a / 2) ^^^ (b / 2) := by
  have h := Nat.shiftRight_xor_distrib (a := a) (b := b) (i := 1)
  simpa [Nat.shiftRight_eq_div_pow] using h
theorem xor_mod2 (a b : Nat) : (a ^^^ b) % 2 = (a % 2 + b % 2) % 2 := by
  have h := Nat.xor_mod_two_pow (a := a) (b := b) (n := 1)
  simp at h
  rw [h]
  rcases Nat.mod_two_eq_zero_or_one a with ha | ha <;> rcases Nat.mod_two_eq_zero_or_one b with hb | hb <;> simp [ha, hb]

theorem stp_xor (a b : Nat) : stp (a ^^^ b) = stp a ^^^ stp b := by
  unfold stp
  rw [xor_div2, xor_mod2]
  rcases Nat.mod_two_eq_zero_or_one a with ha | ha <;> rcases Nat.mod_two_eq_zero_or_one b with hb | hb <;> simp [ha, hb]
  · ac_rfl
  · ac_rfl
  · have : ((a / 2) ^^^ poly) ^^^ ((b / 2) ^^^ poly) = (a / 2) ^^^ (b / 2) ^^^ (poly ^^^ poly) := by ac_rfl
    rw [this]; simp

theorem it_xor (n a b : Nat) : it n (a ^^^ b) = it n a ^^^ it n b := by
  induction n with
  | zero => rfl
  | succ n ih => simp only [it, ih, stp_xor]

theorem stp_even (m : Nat) : stp (2 * m) = m := by
  unfold stp
  have h1 : 2 * m / 2 = m := by omega
  have h2 : 2 * m % 2 = 0 := by omega
  simp [h1, h2]

theorem it4_high (q : Nat) : it 4 (16 * q) = q := by
  have e : 16 * q = 2 * (2 * (2 * (2 * q))) := by omega
  simp only [it]
  rw [e, stp_even, stp_even, stp_even, stp_even]

theorem split16 (x : Nat) : x = (16 * (x / 16)) ^^^ (x % 16) := by
  have h := Nat.div_add_mod x 16
  have hlt : x % 16 < 2 ^ 4 := by omega
  have e := Nat.two_pow_add_eq_or_of_lt hlt (x / 16)
  have e2 : (2 ^ 4 * (x / 16)) ^^^ (x % 16) = (2 ^ 4 * (x / 16)) ||| (x % 16) := by
    apply Nat.eq_of_testBit_eq
    intro i
    rw [Nat.testBit_xor, Nat.testBit_or, Nat.testBit_two_pow_mul, show (16 : Nat) = 2 ^ 4 from rfl, Nat.testBit_mod_two_pow]
    by_cases h4 : 4 ≤ i
    · simp [h4, show ¬ i < 4 from by omega]
    · simp [h4, show i < 4 from by omega]
  rw [show (16 : Nat) = 2 ^ 4 from rfl] at *
  rw [e2, ← e]; omega

theorem it4 (x : Nat) : it 4 x = (x / 16) ^^^ tab (x % 16) := by
  conv => lhs; rw [split16 x, it_xor, it4_high]
  rfl

theorem it_add (m n x : Nat) : it m (it n x) = it (m + n) x := by
  induction m with
  | zero => simp [it]
  | succ m ih => rw [show m + 1 + n = (m + n) + 1 from by omega]; simp only [it, ih]

theorem it8 (x : Nat) : it 8 x = ((it 4 x) / 16) ^^^ tab ((it 4 x) % 16) := by
  rw [← it4, it_add]

theorem stp_lt (x : Nat) (h : x < 4294967296) : stp x < 4294967296 := by
  unfold stp
  have h1 : x / 2 < 2 ^ 32 := by omega
  split
  · exact Nat.xor_lt_two_pow h1 (by decide)
  · simp; omega
theorem it_lt (n x : Nat) (h : x < 4294967296) : it n x < 4294967296 := by
  induction n with
  | zero => exact h
  | succ n ih => exact stp_lt _ ih
theorem byt_lt (x : Nat) (c : Int) (h : x < 4294967296) (hc : c ≤ 255) : byt x c < 4294967296 :=
  it_lt 8 _ (Nat.xor_lt_two_pow (n := 32) h (by omega))
theorem from_lt (x : Nat) (l : List Int) (h : x < 4294967296) (hl : ∀ c ∈ l, c ≤ 255) : from_ x l < 4294967296 := by
  induction l generalizing x with
  | nil => exact h
  | cons c l ih => exact ih _ (byt_lt x c h (hl c (by simp))) (fun d hd => hl d (by simp [hd]))
theorem crc_lt (l : List Int) (hl : ∀ c ∈ l, c ≤ 255) : crc l < 4294967296 :=
  Nat.xor_lt_two_pow (n := 32) (from_lt _ l (by omega) hl) (by omega)
theorem from_snoc (x : Nat) (l : List Int) (c : Int) : from_ x (l ++ [c]) = byt (from_ x l) c := by simp [from_]
theorem tab_lt (i : Nat) (h : i < 16) : tab i < 4294967296 := it_lt 4 i (by omega)
end Go.Proofs.Ytnhhmkgcgogddaa.Crc
