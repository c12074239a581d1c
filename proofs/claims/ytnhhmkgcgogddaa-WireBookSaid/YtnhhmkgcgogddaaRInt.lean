/- The closure that reads a number with its sign. -/
import Derived.Test.YtnhhmkgcgogddaaRNumEnd
namespace Go.Proofs.Ytnhhmkgcgogddaa
open Go.RowKit
set_option linter.unusedVariables false

/-- A number with its sign. -/
def unzF (u : Nat) : Int := if u % 2 = 0 then ((u / 2 : Nat) : Int) else -((u / 2 : Nat) : Int) - 1

theorem unz_bits (u : Nat) (hu : u < 18446744073709551616) : bits .xor .i64 ((u : Int) / 2) (wrap64 (-wrap64 (bits .and .u64 (u : Int) 1))) = unzF u := by
  have e1 : bits .and .u64 (u : Int) 1 = ((u % 2 : Nat) : Int) := by
    rw [show (1 : Int) = ((1 : Nat) : Int) from rfl, bits_nat_and .u64 u 1 (by simp [IntKind.bits]; omega) (by simp [IntKind.bits]), Nat.and_one_is_mod, wrap_u64_nat _ (by omega)]
  rw [e1, show (u : Int) / 2 = ((u / 2 : Nat) : Int) by omega]
  unfold unzF
  by_cases h : u % 2 = 0
  · rw [h, if_pos rfl, show wrap64 (-wrap64 ((0 : Nat) : Int)) = ((0 : Nat) : Int) by decide +kernel, bits_nat_xor .i64 _ 0 (by simp [IntKind.bits]; omega) (by simp [IntKind.bits]), Nat.xor_zero, wrap_i64_nat _ (by omega)]
  · rw [if_neg h, show u % 2 = 1 by omega, show wrap64 (-wrap64 ((1 : Nat) : Int)) = -1 by decide +kernel]
    have e2 : bits .xor .i64 ((u / 2 : Nat) : Int) (-1) = bits .xor .i64 ((u / 2 : Nat) : Int) ((18446744073709551615 : Nat) : Int) := by
      have q : BitVec.ofInt IntKind.i64.bits (-1) = BitVec.ofInt IntKind.i64.bits ((18446744073709551615 : Nat) : Int) := by decide
      unfold bits
      rw [q]
    rw [e2, bits_nat_xor .i64 _ _ (by simp [IntKind.bits]; omega) (by simp [IntKind.bits]), xor_all _ (18446744073709551615 - u / 2) (by omega), IntKind.wrap_i64]
    omega

def IntOne (g base : Nat) (v : Value) (zs : List Int) (p : Nat) (place : Int) (nc : Nat) (w : World) (e : Ending) (w' : World) : Prop :=
  (∃ u m, decF 0 0 (zs.drop p) = .ok u m ∧ u < 18446744073709551616 ∧ e = .returned (.tuple #[]) ∧ Rd w' g base v zs (p + m) 0 place ∧ Blk w' nc 3 [.int .i64 (unzF u)] ∧ Keeps (Two2 g nc) w w') ∨
  (∃ k p', decF 0 0 (zs.drop p) = .err k ∧ e = .panicked (faultV k) ∧ Rd w' g base v zs p' 0 place ∧ Keeps (Two2 g nc) w w')

set_option maxRecDepth 100000 in
set_option maxHeartbeats 1600000 in
theorem int1_any (g base : Nat) (v : Value) (zs : List Int) (p : Nat) (place x : Int) (rc nc : Nat) (w : World) (h : Rd w g base v zs p 0 place) (hr : zs.length ≤ 140737488351232) (hb : Bytes zs)
    (hrc : w.cell? ⟨rc, 0, Option.none⟩ = some (.pointer (some ⟨g, 0, Option.none⟩))) (hn : Blk w nc 3 [.int .i64 x]) (hne : g ≠ nc) (hvn : ∀ b, v.ownBlock = some b → b ≠ nc) :
    Calls Try.prog 67 #[.pointer (some ⟨rc, 0, Option.none⟩), .pointer (some ⟨nc, 0, Option.none⟩)] w (IntOne g base v zs p place nc w) := by
  obtain ⟨R, hR⟩ : ∃ R, R = IntOne g base v zs p place nc w := ⟨_, rfl⟩
  rw [← hR]
  have HR := Lib.hid hR
  clear hR
  go_enter Try.func67, Try.ntmps67
  go_wp2_with fail
  refine (rvarint_any g base v zs p 0 place w h hr hb).mono ?_
  rintro e w2 (⟨u, m, hd, hu, rfl, hR2, hk2⟩ | ⟨k, p', hd, rfl, hR2, hk2⟩)
  · have hn2 := hn.keeps hk2 (fun e => hne e.symm)
    have f0 := hn2.free 0
    have g0 := hn2.cell 0 _ rfl
    have HD := Lib.hid (show IntOne g base v zs p place nc w (.returned (.tuple #[])) (w2.setCell ⟨nc, 0, Option.none⟩ (.int .i64 (unzF u))) from .inl ⟨u, m, hd, hu, rfl, hR2.keeps (S := One nc) ((Keeps.refl _ _).setCell ⟨nc, 0, Option.none⟩ _ (fun _ => rfl)) (fun e => hne e) (fun b e f => hvn b e f), hn2.set 0 _, (hk2.mono (fun k _ e => .inl e)).setCell _ _ (fun _ => .inr rfl)⟩)
    clear hd
    go_wp2_with fail
    rw [unz_bits u hu]
    go_end0
    rw [HR.out]; exact HD.out
  · have HD := Lib.hid (show IntOne g base v zs p place nc w (.panicked (faultV k)) w2 from .inr ⟨k, p', hd, rfl, hR2, hk2.mono (fun k _ e => .inl e)⟩)
    clear hd
    go_wp2_with fail
    exact ⟨rfl, by rw [HR.out]; exact HD.out⟩
end Go.Proofs.Ytnhhmkgcgogddaa
