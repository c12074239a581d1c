/- The reference's reader: its state; fail, varint. -/
import Derived.Test.YtnhhmkgcgogddaaRMore
namespace Go.Proofs.Ytnhhmkgcgogddaa
open Go.RowKit Go.Proofs.YtnhhmkgcgogddaaW.PrintLast
set_option linter.unusedVariables false

/-- Numbers stay where their block does, if there are any. -/
theorem Nums.keeps0 {k : IntKind} {S : Nat → Prop} {w w' : World} {A : Option Addr} {zs : List Int} (h : Nums k w A zs) (hk : Keeps S w w') (hA : 0 < zs.length → Off A S) : Nums k w' A zs := by
  rcases Nat.eq_zero_or_pos zs.length with e | e
  · rw [List.eq_nil_of_length_eq_zero e]; exact Nums.nil _ _ _
  · exact h.keeps hk (hA e)

/-- The reference's reader over the caller's bytes. -/
structure RR (w : World) (r : Nat) (A : Option Addr) (n cap : Nat) (s : St) : Prop where
  blk : Blk w r 81 [.slice A n cap, .int .i64 s.p, .int .i64 s.err, .int .i64 s.place]
  le : s.p ≤ n
theorem RR.keeps {S : Nat → Prop} {w w' : World} {r : Nat} {A : Option Addr} {n cap : Nat} {s : St} (h : RR w r A n cap s) (hk : Keeps S w w') (hr : ¬ S r) : RR w' r A n cap s := ⟨h.blk.keeps hk hr, h.le⟩
theorem RR.grew {w w' : World} {r : Nat} {A : Option Addr} {n cap : Nat} {s : St} (h : RR w r A n cap s) (hk : Keeps None w w') : RR w' r A n cap s := h.keeps hk id

set_option maxRecDepth 100000 in
set_option maxHeartbeats 1600000 in
theorem fail_any (r : Nat) (A : Option Addr) (n cap : Nat) (s : St) (e0 pl : Int) (w : World) (h : RR w r A n cap s) :
    Calls Try.prog 66 #[.pointer (some ⟨r, 0, Option.none⟩), .int .i64 e0, .int .i64 pl] w fun e w' => e = .returned (.tuple #[]) ∧ RR w' r A n cap ⟨s.p, e0, pl⟩ ∧ Keeps (One r) w w' := by
  have c2 := h.blk.cell 2 _ rfl
  have c3 := h.blk.cell 3 _ rfl
  have f2 := h.blk.free 2
  have f3 := h.blk.free 3
  have kk : Keeps (One r) w ((w.setCell ⟨r, 2, Option.none⟩ (.int .i64 e0)).setCell ⟨r, 3, Option.none⟩ (.int .i64 pl)) := ((Keeps.refl (One r) w).setCell ⟨r, 2, Option.none⟩ _ (fun _ => rfl)).setCell ⟨r, 3, Option.none⟩ _ (fun _ => rfl)
  have h3 : RR ((w.setCell ⟨r, 2, Option.none⟩ (.int .i64 e0)).setCell ⟨r, 3, Option.none⟩ (.int .i64 pl)) r A n cap ⟨s.p, e0, pl⟩ := ⟨(h.blk.set 2 _).set 3 _, h.le⟩
  go_enter Try.func66, Try.ntmps66
  go_wp2_with fail
  go_end0
  exact ⟨rfl, h3, kk⟩

/-- What the reference reads a number as. -/
def decS (sg : Bool) : Nat → Nat → List Int → Dec
  | i, _, [] => if i = 10 then .err 11 else .err 10
  | i, u, c :: bs => if i = 10 then .err 11 else if (i = 9 ∧ (1 < c ∨ sg = false)) ∨ (c = 0 ∧ 0 < i) then .err 11 else if c < 128 then .ok (u + c.toNat % 128 * 2 ^ (7 * i)) (i + 1) else decS sg (i + 1) (u + c.toNat % 128 * 2 ^ (7 * i)) bs
theorem decS_cons (sg : Bool) (i u : Nat) (c : Int) (bs : List Int) : decS sg i u (c :: bs) = if i = 10 then .err 11 else if (i = 9 ∧ (1 < c ∨ sg = false)) ∨ (c = 0 ∧ 0 < i) then .err 11 else if c < 128 then .ok (u + c.toNat % 128 * 2 ^ (7 * i)) (i + 1) else decS sg (i + 1) (u + c.toNat % 128 * 2 ^ (7 * i)) bs := rfl
theorem decS_true : ∀ (bs : List Int) (i u : Nat), decS true i u bs = decF i u bs
  | [], i, u => rfl
  | c :: bs, i, u => by rw [decS_cons, decF_cons, decS_true bs]; simp
theorem decS_false : ∀ (bs : List Int) (i u : Nat), Bytes bs → i ≤ 9 → u < 2 ^ (7 * i) → decS false i u bs = numD (decF i u bs)
  | [], i, u, _, hi, _ => by unfold decS decF; rw [if_neg (by omega)]; rfl
  | c :: bs, i, u, hb, hi, hu => by
    rw [decS_cons, decF_cons, if_neg (show ¬ i = 10 by omega), if_neg (show ¬ i = 10 by omega)]
    have hc := hb c (by simp)
    have hc256 : c.toNat % 128 < 128 := Nat.mod_lt _ (by omega)
    by_cases h9 : i = 9
    · rw [if_pos (show (i = 9 ∧ (1 < c ∨ false = false)) ∨ (c = 0 ∧ 0 < i) from .inl ⟨h9, .inr rfl⟩)]
      by_cases hz : (i = 9 ∧ 1 < c) ∨ (c = 0 ∧ 0 < i)
      · rw [if_pos hz]; rfl
      · rw [if_neg hz, if_pos (show c < 128 by omega)]
        have e1 : c.toNat % 128 = 1 := by omega
        have e2 : 2 ^ (7 * 9) = 9223372036854775808 := by decide
        have e3 : ¬ u + c.toNat % 128 * 2 ^ (7 * i) < 9223372036854775808 := by
          rw [e1, h9, Nat.one_mul, e2]
          exact Nat.not_lt.2 (Nat.le_add_left _ _)
        exact (if_neg e3).symm
    · have hb9 := next_bound hu hc256
      have hp : 2 ^ (7 * (i + 1)) ≤ 2 ^ 63 := Nat.pow_le_pow_right (by omega) (by omega)
      by_cases hz : (c = 0 ∧ 0 < i)
      · rw [if_pos (show (i = 9 ∧ (1 < c ∨ false = false)) ∨ (c = 0 ∧ 0 < i) from .inr hz), if_pos (show (i = 9 ∧ 1 < c) ∨ (c = 0 ∧ 0 < i) from .inr hz)]; rfl
      · rw [if_neg (show ¬ ((i = 9 ∧ (1 < c ∨ false = false)) ∨ (c = 0 ∧ 0 < i)) from fun h => h.elim (fun q => h9 q.1) hz), if_neg (show ¬ ((i = 9 ∧ 1 < c) ∨ (c = 0 ∧ 0 < i)) from fun h => h.elim (fun q => h9 q.1) hz)]
        by_cases hl : c < 128
        · rw [if_pos hl, if_pos hl]
          have e3 : u + c.toNat % 128 * 2 ^ (7 * i) < 9223372036854775808 := Nat.lt_of_lt_of_le hb9 hp
          exact (if_pos e3).symm
        · rw [if_neg hl, if_neg hl]
          exact decS_false bs (i + 1) _ (fun x hx => hb x (by simp [hx])) (by omega) hb9

def RefVar (sg : Bool) (zs : List Int) (r : Nat) (A : Option Addr) (n cap : Nat) (s : St) (w : World) (e : Ending) (w' : World) : Prop :=
  (∃ u m, decS sg 0 0 (zs.drop s.p) = .ok u m ∧ u < 18446744073709551616 ∧ 1 ≤ m ∧ s.p + m ≤ n ∧ e = .returned (.tuple #[.int .u64 u, .int .i64 m]) ∧ RR w' r A n cap s ∧ Keeps (One r) w w') ∨
  (∃ k, decS sg 0 0 (zs.drop s.p) = .err k ∧ e = .returned (.tuple #[.int .u64 0, .int .i64 0]) ∧ RR w' r A n cap ⟨s.p, k, s.p⟩ ∧ Keeps (One r) w w')

set_option maxRecDepth 100000 in
set_option maxHeartbeats 3200000 in
theorem rrvar_any (sg : Bool) (zs : List Int) (r : Nat) (A : Option Addr) (n cap : Nat) (s : St) (w : World) (h : RR w r A n cap s) (hA : Nums .u8 w A zs) (hn : zs.length = n) (hr : n ≤ 140737488351232) (hb : Bytes zs) (hoff : 0 < zs.length → Off A (One r)) :
    Calls Try.prog 65 #[.pointer (some ⟨r, 0, Option.none⟩), .bool sg] w (RefVar sg zs r A n cap s w) := by
  subst hn
  obtain ⟨R, hR⟩ : ∃ R, R = RefVar sg zs r A zs.length cap s w := ⟨_, rfl⟩
  rw [← hR]
  have HR := Lib.hid hR
  have HB := Lib.hid hb
  clear hR hb
  have hle := h.le
  obtain ⟨p, err, place⟩ := s
  simp only at hle
  have c0 := h.blk.cell 0 _ rfl
  have c1 := h.blk.cell 1 _ rfl
  cases sg with
  | true =>
    go_enter Try.func65, Try.ntmps65
    go_wp2_with fail
    go_loopw [6, 7] (fun y i wr => ∃ (k U : Nat), k ≤ 9 ∧ i = .int .i64 k ∧ y = .int .u64 U ∧ U < 2 ^ (7 * k) ∧ p + k ≤ zs.length ∧ Hid (decS true 0 0 (zs.drop p) = decS true k U (zs.drop (p + k))) ∧ Drew w wr) (fun _ i _ => 10 - (intOf i).toNat)
    case atStart => exact ⟨0, 0, by omega, rfl, rfl, by simp, hle, Lib.hid rfl, Drew.refl _⟩
    case round =>
      obtain ⟨k, U, hk, rfl, rfl, hU, hpk, hD, ⟨⟨nd, rfl⟩⟩⟩ := hrel
      have hk10 : (k : Int) < 10 := by omega
      have hwr : IntKind.i64.wrap ((p : Int) + (k : Int)) = (p : Int) + (k : Int) := by rw [IntKind.wrap_i64]; omega
      have hp0 : (0 : Int) ≤ (p : Int) + (k : Int) := by omega
      by_cases hend : p + k = zs.length
      · have hge : (zs.length : Int) ≤ (p : Int) + (k : Int) := by omega
        have hDE : Hid (decS true 0 0 (zs.drop p) = .err 10) := Lib.hid (by rw [hD.out, List.drop_of_length_le (by omega)]; unfold decS; rw [if_neg (by omega)])
        go_wp2_with fail
        go_quiet (fail)
        go_wp2_with fail
        refine (fail_any r A zs.length cap ⟨p, err, place⟩ 10 p _ (h.grew ((Keeps.refl None w).drewN _))).mono ?_
        rintro e w2 ⟨rfl, hR2, hk2⟩
        have HV := Lib.hid (show RefVar true zs r A zs.length cap ⟨p, err, place⟩ w (.returned (.tuple #[.int .u64 0, .int .i64 0])) w2 from .inr ⟨10, hDE.out, rfl, hR2, ((Keeps.refl _ w).drewN _).trans hk2⟩)
        go_wp2_with fail
        rw [HR.out]; exact HV.out
      · have hlt : ¬ (zs.length : Int) ≤ (p : Int) + (k : Int) := by omega
        have hlt2 : (p : Int) + (k : Int) < (zs.length : Int) := by omega
        obtain ⟨c, b, o, rfl, hcell, hc⟩ := hA.get (p + k) (by omega)
        have hcb := HB.out c (List.mem_of_getElem? hc.out)
        have hdrop : zs.drop (p + k) = c :: zs.drop (p + (k + 1)) := by
          obtain ⟨hl', he⟩ := List.getElem?_eq_some_iff.1 hc.out
          rw [List.drop_eq_getElem_cons hl', he]; rfl
        rw [hdrop] at hD
        clear hdrop
        have hc256 : c.toNat % 128 < 128 := Nat.mod_lt _ (by omega)
        by_cases hk9 : k = 9
        · subst hk9
          have hwr9 : IntKind.i64.wrap ((p : Int) + 9) = (p : Int) + 9 := by rw [IntKind.wrap_i64]; omega
          have hlt9 : ¬ (zs.length : Int) ≤ (p : Int) + 9 := by omega
          have hlt29 : (p : Int) + 9 < (zs.length : Int) := by omega
          have hp09 : (0 : Int) ≤ (p : Int) + 9 := by omega
          have hn9 : ((p : Int) + 9).toNat = p + 9 := by omega
          by_cases h1 : 1 < c
          · have hDE : Hid (decS true 0 0 (zs.drop p) = .err 11) := Lib.hid (by rw [hD.out, decS_cons, if_neg (show ¬ 9 = 10 by omega), if_pos (show (9 = 9 ∧ (1 < c ∨ true = false)) ∨ (c = 0 ∧ 0 < 9) from .inl ⟨rfl, .inl h1⟩)])
            go_wp2_with fail
            go_quiet (fail)
            go_wp2_with fail
            go_quiet (fail)
            go_wp2_with fail
            refine (fail_any r (some ⟨b, o, Option.none⟩) zs.length cap ⟨p, err, place⟩ 11 p _ (h.grew ((Keeps.refl None w).drewN _))).mono ?_
            rintro e w2 ⟨rfl, hR2, hk2⟩
            have HV := Lib.hid (show RefVar true zs r (some ⟨b, o, Option.none⟩) zs.length cap ⟨p, err, place⟩ w (.returned (.tuple #[.int .u64 0, .int .i64 0])) w2 from .inr ⟨11, hDE.out, rfl, hR2, ((Keeps.refl _ w).drewN _).trans hk2⟩)
            go_wp2_with fail
            rw [HR.out]; exact HV.out
          · by_cases hz : c = 0
            · obtain ⟨t3, t4⟩ := test_eq hz
              have hk0 : (0 : Int) < (9 : Int) := by omega
              have hDE : Hid (decS true 0 0 (zs.drop p) = .err 11) := Lib.hid (by rw [hD.out, decS_cons, if_neg (show ¬ 9 = 10 by omega), if_pos (show (9 = 9 ∧ (1 < c ∨ true = false)) ∨ (c = 0 ∧ 0 < 9) from .inr ⟨hz, by omega⟩)])
              go_wp2_with fail
              go_quiet (fail)
              go_wp2_with fail
              go_quiet (fail)
              go_wp2_with fail
              refine (fail_any r (some ⟨b, o, Option.none⟩) zs.length cap ⟨p, err, place⟩ 11 p _ (h.grew ((Keeps.refl None w).drewN _))).mono ?_
              rintro e w2 ⟨rfl, hR2, hk2⟩
              have HV := Lib.hid (show RefVar true zs r (some ⟨b, o, Option.none⟩) zs.length cap ⟨p, err, place⟩ w (.returned (.tuple #[.int .u64 0, .int .i64 0])) w2 from .inr ⟨11, hDE.out, rfl, hR2, ((Keeps.refl _ w).drewN _).trans hk2⟩)
              go_wp2_with fail
              rw [HR.out]; exact HV.out
            · obtain ⟨t3, t4⟩ := test_ne hz
              have hl : c < 128 := by omega
              have hDE : Hid (decS true 0 0 (zs.drop p) = .ok (U + c.toNat % 128 * 2 ^ (7 * 9)) (9 + 1)) := Lib.hid (by rw [hD.out, decS_cons, if_neg (show ¬ 9 = 10 by omega), if_neg (show ¬ ((9 = 9 ∧ (1 < c ∨ true = false)) ∨ (c = 0 ∧ 0 < 9)) by simp; omega), if_pos hl])
              have hlt64 : U + c.toNat % 128 * 2 ^ (7 * 9) < 18446744073709551616 := by
                obtain rfl : c = 1 := by omega
                simp at hU ⊢; omega
              have HRV : Hid (∀ n, RefVar true zs r (some ⟨b, o, Option.none⟩) zs.length cap ⟨p, err, place⟩ w (.returned (.tuple #[.int .u64 ((U + c.toNat % 128 * 2 ^ (7 * 9) : Nat) : Int), .int .i64 10])) (w.drewN n)) := Lib.hid (fun n => .inl ⟨_, 10, hDE.out, hlt64, by omega, by simp only; omega, rfl, h.grew ((Keeps.refl None w).drewN _), (Keeps.refl _ w).drewN _⟩)
              have hpb := Lib.hid (put_bits U 9 c hU hcb hlt64)
              go_wp2_with fail
              go_quiet (fail)
              go_wp2_with fail
              go_quiet (fail)
              go_wp2_with fail
              have hq := hpb.out
              rw [show (2 : Int) ^ (7 * 9) = 9223372036854775808 by decide] at hq
              rw [HR.out]
              exact Eq.mp (congrArg (fun x => RefVar true zs r (some ⟨b, o, Option.none⟩) zs.length cap ⟨p, err, place⟩ w (.returned (.tuple #[.int .u64 x, .int .i64 10])) _) hq.symm) (HRV.out _)
        · obtain ⟨t1, t2⟩ := test_ne (show ¬ (k : Int) = 9 by omega)
          have hb9 := next_bound hU hc256
          have hb2 : 2 ^ (7 * (k + 1)) ≤ 2 ^ 63 := Nat.pow_le_pow_right (by omega) (by omega)
          have hlt64 : U + c.toNat % 128 * 2 ^ (7 * k) < 18446744073709551616 := by omega
          by_cases hz : c = 0
          · obtain ⟨t3, t4⟩ := test_eq hz
            by_cases hk0 : 0 < k
            · have hk0' : (0 : Int) < (k : Int) := by omega
              have hDE : Hid (decS true 0 0 (zs.drop p) = .err 11) := Lib.hid (by rw [hD.out, decS_cons, if_neg (show ¬ k = 10 by omega), if_pos (show (k = 9 ∧ (1 < c ∨ true = false)) ∨ (c = 0 ∧ 0 < k) from .inr ⟨hz, hk0⟩)])
              go_wp2_with fail
              go_quiet (fail)
              go_wp2_with fail
              go_quiet (fail)
              go_wp2_with fail
              refine (fail_any r (some ⟨b, o, Option.none⟩) zs.length cap ⟨p, err, place⟩ 11 p _ (h.grew ((Keeps.refl None w).drewN _))).mono ?_
              rintro e w2 ⟨rfl, hR2, hk2⟩
              have HV := Lib.hid (show RefVar true zs r (some ⟨b, o, Option.none⟩) zs.length cap ⟨p, err, place⟩ w (.returned (.tuple #[.int .u64 0, .int .i64 0])) w2 from .inr ⟨11, hDE.out, rfl, hR2, ((Keeps.refl _ w).drewN _).trans hk2⟩)
              go_wp2_with fail
              rw [HR.out]; exact HV.out
            · have hk0' : ¬ (0 : Int) < (k : Int) := by omega
              have hl : c < 128 := by omega
              have hDE : Hid (decS true 0 0 (zs.drop p) = .ok (U + c.toNat % 128 * 2 ^ (7 * k)) (k + 1)) := Lib.hid (by rw [hD.out, decS_cons, if_neg (show ¬ k = 10 by omega), if_neg (show ¬ ((k = 9 ∧ (1 < c ∨ true = false)) ∨ (c = 0 ∧ 0 < k)) from fun h => h.elim (fun q => hk9 q.1) (fun q => hk0 q.2)), if_pos hl])
              have HRV : Hid (∀ n, RefVar true zs r (some ⟨b, o, Option.none⟩) zs.length cap ⟨p, err, place⟩ w (.returned (.tuple #[.int .u64 ((U + c.toNat % 128 * 2 ^ (7 * k) : Nat) : Int), .int .i64 ((k : Int) + 1)])) (w.drewN n)) := Lib.hid (fun n => .inl ⟨_, k + 1, hDE.out, hlt64, by omega, by simp only; omega, rfl, h.grew ((Keeps.refl None w).drewN _), (Keeps.refl _ w).drewN _⟩)
              have hpb := Lib.hid (put_bits U k c hU hcb hlt64)
              go_wp2_with fail
              go_quiet (fail)
              go_wp2_with fail
              go_quiet (fail)
              go_wp2_with fail
              have hq := hpb.out
              rw [show bits .and .u8 c 127 = bits .and .u8 0 127 by rw [hz]] at hq
              rw [HR.out]
              exact Eq.mp (congrArg (fun x => RefVar true zs r (some ⟨b, o, Option.none⟩) zs.length cap ⟨p, err, place⟩ w (.returned (.tuple #[.int .u64 x, .int .i64 ((k : Int) + 1)])) _) hq.symm) (HRV.out _)
          · obtain ⟨t3, t4⟩ := test_ne hz
            by_cases hl : c < 128
            · have hDE : Hid (decS true 0 0 (zs.drop p) = .ok (U + c.toNat % 128 * 2 ^ (7 * k)) (k + 1)) := Lib.hid (by rw [hD.out, decS_cons, if_neg (show ¬ k = 10 by omega), if_neg (show ¬ ((k = 9 ∧ (1 < c ∨ true = false)) ∨ (c = 0 ∧ 0 < k)) from fun h => h.elim (fun q => hk9 q.1) (fun q => hz q.1)), if_pos hl])
              have HRV : Hid (∀ n, RefVar true zs r (some ⟨b, o, Option.none⟩) zs.length cap ⟨p, err, place⟩ w (.returned (.tuple #[.int .u64 ((U + c.toNat % 128 * 2 ^ (7 * k) : Nat) : Int), .int .i64 ((k : Int) + 1)])) (w.drewN n)) := Lib.hid (fun n => .inl ⟨_, k + 1, hDE.out, hlt64, by omega, by simp only; omega, rfl, h.grew ((Keeps.refl None w).drewN _), (Keeps.refl _ w).drewN _⟩)
              have hpb := Lib.hid (put_bits U k c hU hcb hlt64)
              go_wp2_with fail
              go_quiet (fail)
              go_wp2_with fail
              go_quiet (fail)
              go_wp2_with fail
              have hq := hpb.out
              rw [HR.out]
              exact Eq.mp (congrArg (fun x => RefVar true zs r (some ⟨b, o, Option.none⟩) zs.length cap ⟨p, err, place⟩ w (.returned (.tuple #[.int .u64 x, .int .i64 ((k : Int) + 1)])) _) hq.symm) (HRV.out _)
            · have hDE : Hid (decS true 0 0 (zs.drop p) = decS true (k + 1) (U + c.toNat % 128 * 2 ^ (7 * k)) (zs.drop (p + (k + 1)))) := Lib.hid (by rw [hD.out, decS_cons, if_neg (show ¬ k = 10 by omega), if_neg (show ¬ ((k = 9 ∧ (1 < c ∨ true = false)) ∨ (c = 0 ∧ 0 < k)) from fun h => h.elim (fun q => hk9 q.1) (fun q => hz q.1)), if_neg hl])
              go_wp2_with fail
              go_quiet (fail)
              go_wp2_with fail
              go_quiet (fail)
              go_wp2_with fail
              rw [put_bits U k c hU hcb (by omega)]
              go_roundw
              case rel => exact ⟨k + 1, U + c.toNat % 128 * 2 ^ (7 * k), by omega, by go_num, rfl, hb9, by omega, hDE, ⟨_, rfl⟩⟩
              case measure => simp [intOf]; omega
  | false =>
    go_enter Try.func65, Try.ntmps65
    go_wp2_with fail
    go_loopw [6, 7] (fun y i wr => ∃ (k U : Nat), k ≤ 9 ∧ i = .int .i64 k ∧ y = .int .u64 U ∧ U < 2 ^ (7 * k) ∧ p + k ≤ zs.length ∧ Hid (decS false 0 0 (zs.drop p) = decS false k U (zs.drop (p + k))) ∧ Drew w wr) (fun _ i _ => 10 - (intOf i).toNat)
    case atStart => exact ⟨0, 0, by omega, rfl, rfl, by simp, hle, Lib.hid rfl, Drew.refl _⟩
    case round =>
      obtain ⟨k, U, hk, rfl, rfl, hU, hpk, hD, ⟨⟨nd, rfl⟩⟩⟩ := hrel
      have hk10 : (k : Int) < 10 := by omega
      have hwr : IntKind.i64.wrap ((p : Int) + (k : Int)) = (p : Int) + (k : Int) := by rw [IntKind.wrap_i64]; omega
      have hp0 : (0 : Int) ≤ (p : Int) + (k : Int) := by omega
      by_cases hend : p + k = zs.length
      · have hge : (zs.length : Int) ≤ (p : Int) + (k : Int) := by omega
        have hDE : Hid (decS false 0 0 (zs.drop p) = .err 10) := Lib.hid (by rw [hD.out, List.drop_of_length_le (by omega)]; unfold decS; rw [if_neg (by omega)])
        go_wp2_with fail
        go_quiet (fail)
        go_wp2_with fail
        refine (fail_any r A zs.length cap ⟨p, err, place⟩ 10 p _ (h.grew ((Keeps.refl None w).drewN _))).mono ?_
        rintro e w2 ⟨rfl, hR2, hk2⟩
        have HV := Lib.hid (show RefVar false zs r A zs.length cap ⟨p, err, place⟩ w (.returned (.tuple #[.int .u64 0, .int .i64 0])) w2 from .inr ⟨10, hDE.out, rfl, hR2, ((Keeps.refl _ w).drewN _).trans hk2⟩)
        go_wp2_with fail
        rw [HR.out]; exact HV.out
      · have hlt : ¬ (zs.length : Int) ≤ (p : Int) + (k : Int) := by omega
        have hlt2 : (p : Int) + (k : Int) < (zs.length : Int) := by omega
        obtain ⟨c, b, o, rfl, hcell, hc⟩ := hA.get (p + k) (by omega)
        have hcb := HB.out c (List.mem_of_getElem? hc.out)
        have hdrop : zs.drop (p + k) = c :: zs.drop (p + (k + 1)) := by
          obtain ⟨hl', he⟩ := List.getElem?_eq_some_iff.1 hc.out
          rw [List.drop_eq_getElem_cons hl', he]; rfl
        rw [hdrop] at hD
        clear hdrop
        have hc256 : c.toNat % 128 < 128 := Nat.mod_lt _ (by omega)
        by_cases hk9 : k = 9
        · subst hk9
          have hwr9 : IntKind.i64.wrap ((p : Int) + 9) = (p : Int) + 9 := by rw [IntKind.wrap_i64]; omega
          have hlt9 : ¬ (zs.length : Int) ≤ (p : Int) + 9 := by omega
          have hlt29 : (p : Int) + 9 < (zs.length : Int) := by omega
          have hp09 : (0 : Int) ≤ (p : Int) + 9 := by omega
          have hn9 : ((p : Int) + 9).toNat = p + 9 := by omega
          have hDE : Hid (decS false 0 0 (zs.drop p) = .err 11) := Lib.hid (by rw [hD.out, decS_cons, if_neg (show ¬ 9 = 10 by omega), if_pos (show (9 = 9 ∧ (1 < c ∨ false = false)) ∨ (c = 0 ∧ 0 < 9) from .inl ⟨rfl, .inr rfl⟩)])
          by_cases h1 : 1 < c
          · skip
            go_wp2_with fail
            go_quiet (fail)
            go_wp2_with fail
            go_quiet (fail)
            go_wp2_with fail
            refine (fail_any r (some ⟨b, o, Option.none⟩) zs.length cap ⟨p, err, place⟩ 11 p _ (h.grew ((Keeps.refl None w).drewN _))).mono ?_
            rintro e w2 ⟨rfl, hR2, hk2⟩
            have HV := Lib.hid (show RefVar false zs r (some ⟨b, o, Option.none⟩) zs.length cap ⟨p, err, place⟩ w (.returned (.tuple #[.int .u64 0, .int .i64 0])) w2 from .inr ⟨11, hDE.out, rfl, hR2, ((Keeps.refl _ w).drewN _).trans hk2⟩)
            go_wp2_with fail
            rw [HR.out]; exact HV.out
          · skip
            go_wp2_with fail
            go_quiet (fail)
            go_wp2_with fail
            go_quiet (fail)
            go_wp2_with fail
            refine (fail_any r (some ⟨b, o, Option.none⟩) zs.length cap ⟨p, err, place⟩ 11 p _ (h.grew ((Keeps.refl None w).drewN _))).mono ?_
            rintro e w2 ⟨rfl, hR2, hk2⟩
            have HV := Lib.hid (show RefVar false zs r (some ⟨b, o, Option.none⟩) zs.length cap ⟨p, err, place⟩ w (.returned (.tuple #[.int .u64 0, .int .i64 0])) w2 from .inr ⟨11, hDE.out, rfl, hR2, ((Keeps.refl _ w).drewN _).trans hk2⟩)
            go_wp2_with fail
            rw [HR.out]; exact HV.out
        · obtain ⟨t1, t2⟩ := test_ne (show ¬ (k : Int) = 9 by omega)
          have hb9 := next_bound hU hc256
          have hb2 : 2 ^ (7 * (k + 1)) ≤ 2 ^ 63 := Nat.pow_le_pow_right (by omega) (by omega)
          have hlt64 : U + c.toNat % 128 * 2 ^ (7 * k) < 18446744073709551616 := by omega
          by_cases hz : c = 0
          · obtain ⟨t3, t4⟩ := test_eq hz
            by_cases hk0 : 0 < k
            · have hk0' : (0 : Int) < (k : Int) := by omega
              have hDE : Hid (decS false 0 0 (zs.drop p) = .err 11) := Lib.hid (by rw [hD.out, decS_cons, if_neg (show ¬ k = 10 by omega), if_pos (show (k = 9 ∧ (1 < c ∨ false = false)) ∨ (c = 0 ∧ 0 < k) from .inr ⟨hz, hk0⟩)])
              go_wp2_with fail
              go_quiet (fail)
              go_wp2_with fail
              go_quiet (fail)
              go_wp2_with fail
              refine (fail_any r (some ⟨b, o, Option.none⟩) zs.length cap ⟨p, err, place⟩ 11 p _ (h.grew ((Keeps.refl None w).drewN _))).mono ?_
              rintro e w2 ⟨rfl, hR2, hk2⟩
              have HV := Lib.hid (show RefVar false zs r (some ⟨b, o, Option.none⟩) zs.length cap ⟨p, err, place⟩ w (.returned (.tuple #[.int .u64 0, .int .i64 0])) w2 from .inr ⟨11, hDE.out, rfl, hR2, ((Keeps.refl _ w).drewN _).trans hk2⟩)
              go_wp2_with fail
              rw [HR.out]; exact HV.out
            · have hk0' : ¬ (0 : Int) < (k : Int) := by omega
              have hl : c < 128 := by omega
              have hDE : Hid (decS false 0 0 (zs.drop p) = .ok (U + c.toNat % 128 * 2 ^ (7 * k)) (k + 1)) := Lib.hid (by rw [hD.out, decS_cons, if_neg (show ¬ k = 10 by omega), if_neg (show ¬ ((k = 9 ∧ (1 < c ∨ false = false)) ∨ (c = 0 ∧ 0 < k)) from fun h => h.elim (fun q => hk9 q.1) (fun q => hk0 q.2)), if_pos hl])
              have HRV : Hid (∀ n, RefVar false zs r (some ⟨b, o, Option.none⟩) zs.length cap ⟨p, err, place⟩ w (.returned (.tuple #[.int .u64 ((U + c.toNat % 128 * 2 ^ (7 * k) : Nat) : Int), .int .i64 ((k : Int) + 1)])) (w.drewN n)) := Lib.hid (fun n => .inl ⟨_, k + 1, hDE.out, hlt64, by omega, by simp only; omega, rfl, h.grew ((Keeps.refl None w).drewN _), (Keeps.refl _ w).drewN _⟩)
              have hpb := Lib.hid (put_bits U k c hU hcb hlt64)
              go_wp2_with fail
              go_quiet (fail)
              go_wp2_with fail
              go_quiet (fail)
              go_wp2_with fail
              have hq := hpb.out
              rw [show bits .and .u8 c 127 = bits .and .u8 0 127 by rw [hz]] at hq
              rw [HR.out]
              exact Eq.mp (congrArg (fun x => RefVar false zs r (some ⟨b, o, Option.none⟩) zs.length cap ⟨p, err, place⟩ w (.returned (.tuple #[.int .u64 x, .int .i64 ((k : Int) + 1)])) _) hq.symm) (HRV.out _)
          · obtain ⟨t3, t4⟩ := test_ne hz
            by_cases hl : c < 128
            · have hDE : Hid (decS false 0 0 (zs.drop p) = .ok (U + c.toNat % 128 * 2 ^ (7 * k)) (k + 1)) := Lib.hid (by rw [hD.out, decS_cons, if_neg (show ¬ k = 10 by omega), if_neg (show ¬ ((k = 9 ∧ (1 < c ∨ false = false)) ∨ (c = 0 ∧ 0 < k)) from fun h => h.elim (fun q => hk9 q.1) (fun q => hz q.1)), if_pos hl])
              have HRV : Hid (∀ n, RefVar false zs r (some ⟨b, o, Option.none⟩) zs.length cap ⟨p, err, place⟩ w (.returned (.tuple #[.int .u64 ((U + c.toNat % 128 * 2 ^ (7 * k) : Nat) : Int), .int .i64 ((k : Int) + 1)])) (w.drewN n)) := Lib.hid (fun n => .inl ⟨_, k + 1, hDE.out, hlt64, by omega, by simp only; omega, rfl, h.grew ((Keeps.refl None w).drewN _), (Keeps.refl _ w).drewN _⟩)
              have hpb := Lib.hid (put_bits U k c hU hcb hlt64)
              go_wp2_with fail
              go_quiet (fail)
              go_wp2_with fail
              go_quiet (fail)
              go_wp2_with fail
              have hq := hpb.out
              rw [HR.out]
              exact Eq.mp (congrArg (fun x => RefVar false zs r (some ⟨b, o, Option.none⟩) zs.length cap ⟨p, err, place⟩ w (.returned (.tuple #[.int .u64 x, .int .i64 ((k : Int) + 1)])) _) hq.symm) (HRV.out _)
            · have hDE : Hid (decS false 0 0 (zs.drop p) = decS false (k + 1) (U + c.toNat % 128 * 2 ^ (7 * k)) (zs.drop (p + (k + 1)))) := Lib.hid (by rw [hD.out, decS_cons, if_neg (show ¬ k = 10 by omega), if_neg (show ¬ ((k = 9 ∧ (1 < c ∨ false = false)) ∨ (c = 0 ∧ 0 < k)) from fun h => h.elim (fun q => hk9 q.1) (fun q => hz q.1)), if_neg hl])
              go_wp2_with fail
              go_quiet (fail)
              go_wp2_with fail
              go_quiet (fail)
              go_wp2_with fail
              rw [put_bits U k c hU hcb (by omega)]
              go_roundw
              case rel => exact ⟨k + 1, U + c.toNat % 128 * 2 ^ (7 * k), by omega, by go_num, rfl, hb9, by omega, hDE, ⟨_, rfl⟩⟩
              case measure => simp [intOf]; omega
end Go.Proofs.Ytnhhmkgcgogddaa
