/- The program's reader: num; the closures that read. -/
import Derived.Test.YtnhhmkgcgogddaaRVar
namespace Go.Proofs.Ytnhhmkgcgogddaa
open Go.RowKit
set_option linter.unusedVariables false

/-- A number that an int holds. -/
def numD : Dec → Dec
  | .ok u m => if u < 9223372036854775808 then .ok u m else .err 11
  | .err k => .err k

def RNum (g base : Nat) (v : Value) (zs : List Int) (p : Nat) (err place : Int) (w : World) (e : Ending) (w' : World) : Prop :=
  (∃ u m, numD (decF 0 0 (zs.drop p)) = .ok u m ∧ u < 9223372036854775808 ∧ e = .returned (.int .i64 u) ∧ Rd w' g base v zs (p + m) err place ∧ Keeps (One g) w w') ∨
  (∃ k p', numD (decF 0 0 (zs.drop p)) = .err k ∧ e = .panicked (faultV k) ∧ Rd w' g base v zs p' err place ∧ Keeps (One g) w w')

set_option maxRecDepth 100000 in
set_option maxHeartbeats 3200000 in
theorem rnum_any (g base : Nat) (v : Value) (zs : List Int) (p : Nat) (err place : Int) (w : World) (h : Rd w g base v zs p err place) (hr : zs.length ≤ 140737488351232) (hb : Bytes zs) :
    Calls Try.prog 64 #[.pointer (some ⟨g, 0, Option.none⟩)] w (RNum g base v zs p err place w) := by
  obtain ⟨R, hR⟩ : ∃ R, R = RNum g base v zs p err place w := ⟨_, rfl⟩
  rw [← hR]
  have HR := Lib.hid hR
  clear hR
  go_enter Try.func64, Try.ntmps64
  go_wp2_with fail
  refine (rvarint_any g base v zs p err place w h hr hb).mono ?_
  rintro e w2 (⟨u, m, hd, hu, rfl, hR2, hk2⟩ | ⟨k, p', hd, rfl, hR2, hk2⟩)
  · by_cases h63 : u < 9223372036854775808
    · have hsh : ((u : Int) / 9223372036854775808) = 0 := by omega
      have HD := Lib.hid (show RNum g base v zs p err place w (.returned (.int .i64 u)) w2 from .inl ⟨u, m, by rw [hd]; exact if_pos h63, h63, rfl, hR2, hk2⟩)
      clear hd
      go_wp2_with fail
      rw [HR.out]; exact HD.out
    · have hsh : ((u : Int) / 9223372036854775808) = 1 := by omega
      have HD := Lib.hid (show RNum g base v zs p err place w (.panicked (faultV 11)) w2 from .inr ⟨11, p + m, by rw [hd]; exact if_neg h63, rfl, hR2, hk2⟩)
      clear hd
      go_wp2_with fail
      exact ⟨rfl, by rw [HR.out]; exact HD.out⟩
  · have HD := Lib.hid (show RNum g base v zs p err place w (.panicked (faultV k)) w2 from .inr ⟨k, p', by rw [hd]; rfl, rfl, hR2, hk2⟩)
    clear hd
    go_wp2_with fail
    exact ⟨rfl, by rw [HR.out]; exact HD.out⟩

/-- The one block, and a cell's. -/
def Two2 (a b : Nat) : Nat → Prop := fun k => k = a ∨ k = b

def NumOne (g base : Nat) (v : Value) (zs : List Int) (p : Nat) (place : Int) (nc : Nat) (w : World) (e : Ending) (w' : World) : Prop :=
  (∃ u m, numD (decF 0 0 (zs.drop p)) = .ok u m ∧ u < 9223372036854775808 ∧ e = .returned (.tuple #[]) ∧ Rd w' g base v zs (p + m) 0 place ∧ Blk w' nc 3 [.int .i64 u] ∧ Keeps (Two2 g nc) w w') ∨
  (∃ k p', numD (decF 0 0 (zs.drop p)) = .err k ∧ e = .panicked (faultV k) ∧ Rd w' g base v zs p' 0 place ∧ Keeps (Two2 g nc) w w')

set_option maxRecDepth 100000 in
set_option maxHeartbeats 1600000 in
theorem num1_any (g base : Nat) (v : Value) (zs : List Int) (p : Nat) (place x : Int) (rc nc : Nat) (w : World) (h : Rd w g base v zs p 0 place) (hr : zs.length ≤ 140737488351232) (hb : Bytes zs)
    (hrc : w.cell? ⟨rc, 0, Option.none⟩ = some (.pointer (some ⟨g, 0, Option.none⟩))) (hn : Blk w nc 3 [.int .i64 x]) (hne : g ≠ nc) (hvn : ∀ b, v.ownBlock = some b → b ≠ nc) :
    Calls Try.prog 63 #[.pointer (some ⟨rc, 0, Option.none⟩), .pointer (some ⟨nc, 0, Option.none⟩)] w (NumOne g base v zs p place nc w) := by
  obtain ⟨R, hR⟩ : ∃ R, R = NumOne g base v zs p place nc w := ⟨_, rfl⟩
  rw [← hR]
  have HR := Lib.hid hR
  clear hR
  go_enter Try.func63, Try.ntmps63
  go_wp2_with fail
  refine (rnum_any g base v zs p 0 place w h hr hb).mono ?_
  rintro e w2 (⟨u, m, hd, hu, rfl, hR2, hk2⟩ | ⟨k, p', hd, rfl, hR2, hk2⟩)
  · have hn2 := hn.keeps hk2 (fun e => hne e.symm)
    have f0 := hn2.free 0
    have g0 := hn2.cell 0 _ rfl
    have HD := Lib.hid (show NumOne g base v zs p place nc w (.returned (.tuple #[])) (w2.setCell ⟨nc, 0, Option.none⟩ (.int .i64 u)) from .inl ⟨u, m, hd, hu, rfl, hR2.keeps (S := One nc) ((Keeps.refl _ _).setCell ⟨nc, 0, Option.none⟩ _ (fun _ => rfl)) (fun e => hne e) (fun b e f => hvn b e f), hn2.set 0 _, (hk2.mono (fun k _ e => .inl e)).setCell _ _ (fun _ => .inr rfl)⟩)
    clear hd
    go_wp2_with fail
    go_end0
    rw [HR.out]; exact HD.out
  · have HD := Lib.hid (show NumOne g base v zs p place nc w (.panicked (faultV k)) w2 from .inr ⟨k, p', hd, rfl, hR2, hk2.mono (fun k _ e => .inl e)⟩)
    clear hd
    go_wp2_with fail
    exact ⟨rfl, by rw [HR.out]; exact HD.out⟩
end Go.Proofs.Ytnhhmkgcgogddaa
