/- Opening a sealed body: the contracts of wire.Open and of the reference's, by one plain function on lists of bytes. -/
import Derived.Test.YtnhhmkgcgogddaaSeal
import Derived.Deep.RegionHeld3
import Derived.Deep.DeepCutAuto
namespace Go.Proofs.Ytnhhmkgcgogddaa
open Go.RowKit

/-- What opening tells: the body, and the error's number. -/
def openF (b : List Int) : List Int × Int :=
  if b.length < 8 then ([], 10) else
  if numF (b.drop 4) ≠ Crc.crc (b.take 4) then ([], 12) else
  if 131072 < numF b then ([], 2) else
  if b.length < numF b + 12 then ([], 10) else
  if numF b + 12 < b.length then ([], 11) else
  if numF (b.drop (numF b + 8)) ≠ Crc.crc (b.take (numF b + 8)) then ([], 12) else
  ((b.drop 8).take (numF b), 0)

def OpenEnd (zs : List Int) (w : World) (e : Ending) (w' : World) : Prop :=
  ∃ v, e = .returned (.tuple #[v, .int .i64 (openF zs).2]) ∧ Row .u8 5 w' w.heap.size v (openF zs).1 ∧ Keeps None w w'

theorem OpenEnd.of {zs l : List Int} {k : Int} {w w' : World} {v : Value} (h : openF zs = (l, k)) (hr : Row .u8 5 w' w.heap.size v l) (hk : Keeps None w w') : OpenEnd zs w (.returned (.tuple #[v, .int .i64 k])) w' :=
  ⟨v, by rw [h], by rw [h]; exact hr, hk⟩
theorem OpenEnd.nil {zs : List Int} {k : Int} {w w' : World} (h : openF zs = ([], k)) (hk : Keeps None w w') : OpenEnd zs w (.returned (.tuple #[.slice Option.none 0 0, .int .i64 k])) w' :=
  OpenEnd.of h (Row.nil _ _ _ _) hk

theorem numF_lt (b : List Int) (hb : Bytes b) : numF b < 4294967296 := by
  have h : ∀ i, 0 ≤ b.getD i 0 ∧ b.getD i 0 ≤ 255 := by
    intro i
    rw [List.getD_eq_getElem?_getD]
    cases hx : b[i]? with
    | none => simp
    | some x => exact hb.at hx
  have h0 := h 0
  have h1 := h 1
  have h2 := h 2
  have h3 := h 3
  unfold numF
  omega

theorem Bytes.drop {zs : List Int} (h : Bytes zs) (n : Nat) : Bytes (zs.drop n) := fun c hc => h c (List.mem_of_mem_drop hc)

set_option maxRecDepth 100000 in
set_option maxHeartbeats 1600000 in
theorem open_any (A : Option Addr) (n cap : Nat) (zs : List Int) (w : World) (hA : Nums .u8 w A zs) (hb : Bytes zs) (hn : zs.length = n) (hr : n ≤ 140737488351232) (hc : n ≤ cap) :
    Calls Try.prog 25 #[.slice A n cap] w (OpenEnd zs w) := by
  by_cases h8 : n < 8
  · go_enter Try.func25, Try.ntmps25
    go_wp2
    go_ret2
    exact OpenEnd.nil (by unfold openF; rw [if_pos (by omega)]) (Keeps.refl _ _)
  · obtain ⟨x0, b, o, rfl, _, _⟩ := hA.get 0 (by omega)
    have hd4 : Nums .u8 w (some ⟨b, o + 4, Option.none⟩) (zs.drop 4) := hA.drop 4
    have ht4 : Nums .u8 w (some ⟨b, o, Option.none⟩) (zs.take 4) := hA.take 4
    have hcap4 : ¬ cap = 4 := by omega
    have hi1 : (4 : Int) ≤ (n : Int) := by omega
    have hi2 : (4 : Int) ≤ (cap : Int) := by omega
    have hi3 : (n : Int) ≤ (cap : Int) := by omega
    have c1 := fun w' (hk : Keeps None w w') => number_any (some ⟨b, o + 4, Option.none⟩) (n - 4) (cap - 4) (zs.drop 4) w' (hd4.grew hk) (hb.drop 4) (by simp; omega) (by omega) (by omega)
    have C1 := Lib.hid c1
    have c2 := fun w' (hk : Keeps None w w') => sum_any (some ⟨b, o, Option.none⟩) 4 cap (zs.take 4) w' (ht4.grew hk) (hb.take 4) (by simp; omega) (by omega)
    have C2 := Lib.hid c2
    clear c1 c2 hd4 ht4
    obtain ⟨s1, es1⟩ : ∃ s, s = numF (zs.drop 4) := ⟨_, rfl⟩
    obtain ⟨s2, es2⟩ : ∃ s, s = Crc.crc (zs.take 4) := ⟨_, rfl⟩
    rw [← es1] at C1
    go_enter Try.func25, Try.ntmps25
    go_wp2
    go_region_held3 (fun w' => Keeps None w w') (first | assumption | exact Keeps.refl _ _ | exact (Keeps.refl _ _).drew)
      (first
        | (go_at_call 49; refine (C1.out _ (by assumption)).mono ?_; rintro e w1 ⟨rfl, hd⟩; have hk1 : Keeps None w w1 := Keeps.trans (by assumption) (hd.keeps _))
        | (go_at_call 15; refine (C2.out _ (by assumption)).mono ?_; rintro e w2 ⟨rfl, hk⟩; have hk2 : Keeps None w w2 := Keeps.trans (by assumption) hk))
    clear C1 C2
    by_cases hs : s1 = s2
    · obtain ⟨t1, t2⟩ := test_eq (a := (s1 : Int)) (b := s2) (by rw [hs])
      have HS := Lib.hid hs
      clear hs
      have hA2 := hA.grew hk2
      go_wp2_with fail
      refine (number_any (some ⟨b, o, Option.none⟩) n cap zs w2 hA2 hb hn (by omega) hr).mono ?_
      rintro e w3 ⟨rfl, hd3⟩
      have hk3 := hk2.trans (hd3.keeps None)
      obtain ⟨N, eN⟩ : ∃ s, s = numF zs := ⟨_, rfl⟩
      have hN : N < 4294967296 := by rw [eN]; exact numF_lt zs hb
      rw [← eN]
      have HN := Lib.hid eN
      clear eN
      have pre : ∀ l k, (if 131072 < N then ([], 2) else if zs.length < N + 12 then ([], 10) else if N + 12 < zs.length then ([], 11) else if numF (zs.drop (N + 8)) ≠ Crc.crc (zs.take (N + 8)) then ([], 12) else ((zs.drop 8).take N, 0)) = ((l, k) : List Int × Int) → openF zs = (l, k) := by
        intro l k h
        rw [← h]
        unfold openF
        rw [if_neg (by omega), if_neg (by rw [← es1, ← es2, HS.out]; exact fun h => h rfl), ← HN.out]
      have HP := Lib.hid pre
      have HE1 := Lib.hid es1
      have HE2 := Lib.hid es2
      clear pre es1 es2
      by_cases h2 : 131072 < N
      · go_wp2
        go_ret2
        exact OpenEnd.nil (HP.out _ _ (by rw [if_pos h2])) hk3
      · by_cases h3 : n < N + 12
        · go_wp2
          go_ret2
          exact OpenEnd.nil (HP.out _ _ (by rw [if_neg h2, if_pos (by omega)])) hk3
        · by_cases h4 : N + 12 < n
          · go_wp2
            go_ret2
            exact OpenEnd.nil (HP.out _ _ (by rw [if_neg h2, if_neg (by omega), if_pos (by omega)])) hk3
          · have hcapN : ¬ cap = N + 8 := by omega
            have hcap8 : ¬ cap = 8 := by omega
            have q1 : (8 : Int) ≤ (cap : Int) := by omega
            have q2 : (N : Int) + 8 ≤ (cap : Int) := by omega
            have q3 : (N : Int) + 8 ≤ (n : Int) := by omega
            have q4 : (0 : Int) ≤ (N : Int) := by omega
            go_wp2
            obtain ⟨M, eM⟩ : ∃ M, M = 8 + N := ⟨_, rfl⟩
            have hM : ¬ cap = M := by omega
            have m1 : IntKind.i64.wrap (8 + (N : Int)) = (M : Int) := by rw [IntWalk.i64_in _ (by omega)]; omega
            have m2 : (M : Int) ≤ (cap : Int) := by omega
            have m3 : (M : Int) ≤ (n : Int) := by omega
            have m5 : IntKind.i64.wrap ((M : Int) + 4) = (M : Int) + 4 := IntWalk.i64_in _ (by omega)
            have hdM := hA.drop M
            have htM := hA.take M
            have c1 := fun w' (hk : Keeps None w w') => number_any (some ⟨b, o + M, Option.none⟩) (n - M) (cap - M) (zs.drop M) w' (hdM.grew hk) (hb.drop M) (by simp; omega) (by omega) (by omega)
            have C1 := Lib.hid c1
            have c2 := fun w' (hk : Keeps None w w') => sum_any (some ⟨b, o, Option.none⟩) M cap (zs.take M) w' (htM.grew hk) (hb.take M) (by simp; omega) (by omega)
            have C2 := Lib.hid c2
            have EM := Lib.hid eM
            clear c1 c2 hdM htM eM
            obtain ⟨u1, eu1⟩ : ∃ s, s = numF (zs.drop M) := ⟨_, rfl⟩
            obtain ⟨u2, eu2⟩ : ∃ s, s = Crc.crc (zs.take M) := ⟨_, rfl⟩
            rw [← eu1] at C1
            go_region_held3 (fun w' => Keeps None w w') (first | assumption | exact Keeps.drew (by assumption))
              (first
                | (go_at_call 49; refine (C1.out _ (by assumption)).mono ?_; rintro e w4 ⟨rfl, hd⟩; have hk4 : Keeps None w w4 := Keeps.trans (by assumption) (hd.keeps _))
                | (go_at_call 15; refine (C2.out _ (by assumption)).mono ?_; rintro e w5 ⟨rfl, hk⟩; have hk5 : Keeps None w w5 := Keeps.trans (by assumption) hk))
            clear C1 C2
            by_cases hu : u1 = u2
            · obtain ⟨t1, t2⟩ := test_eq (a := (u1 : Int)) (b := u2) (by rw [hu])
              have m6 : (8 : Int) ≤ (M : Int) := by have := EM.out; omega
              have hA5 := hA.grew hk5
              go_wp2_with fail
              refine (clone_any (some ⟨b, o + 8, Option.none⟩) (M - 8) (cap - 8) ((zs.drop 8).take N) w5 ((hA5.drop 8).take N) (by have := EM.out; simp; omega) (by omega)).mono ?_
              rintro e w6 ⟨v, rfl, hv, hk6⟩
              go_wp2
              go_ret2
              exact OpenEnd.of (HP.out _ _ (by rw [if_neg h2, if_neg (by omega), if_neg (by omega), if_neg (by rw [show N + 8 = M from by rw [EM.out]; omega, ← eu1, ← eu2, hu]; exact fun h => h rfl)])) (hv.down hk5.size) (hk5.trans hk6)
            · obtain ⟨t1, t2⟩ := test_ne (a := (u1 : Int)) (b := u2) (by omega)
              go_wp2
              go_ret2
              exact OpenEnd.nil (HP.out _ _ (by rw [if_neg h2, if_neg (by omega), if_neg (by omega), if_pos (by rw [show N + 8 = M from by rw [EM.out]; omega, ← eu1, ← eu2]; exact hu)])) hk5
    · obtain ⟨t1, t2⟩ := test_ne (a := (s1 : Int)) (b := s2) (by omega)
      go_wp2
      go_ret2
      exact OpenEnd.nil (by unfold openF; rw [if_neg (by omega), if_pos (by rw [← es1, ← es2]; omega)]) hk2
end Go.Proofs.Ytnhhmkgcgogddaa
