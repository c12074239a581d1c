/- The reference's Seal and Open: the same plain functions. -/
import Derived.Test.YtnhhmkgcgogddaaOpenF
namespace Go.Proofs.Ytnhhmkgcgogddaa
open Go.RowKit

theorem FourEnd.row {n : Nat} {w w' : World} (h : Blk w' w.heap.size 5 ((fourF n).map (Value.int .u8))) {base : Nat} (hb : base ≤ w.heap.size) : Row .u8 5 w' base (.slice (some ⟨w.heap.size, 0, Option.none⟩) 4 4) (fourF n) :=
  Row.of_blk (zs := fourF n) h hb (by unfold maxLen; rw [fourF_len]; omega)

set_option maxRecDepth 100000 in
set_option maxHeartbeats 1600000 in
theorem refseal_any (A : Option Addr) (n cap : Nat) (zs : List Int) (w : World) (hA : Nums .u8 w A zs) (hb : Bytes zs) (hn : zs.length = n) (hnil : A = Option.none → cap = 0) :
    Calls Try.prog 22 #[.slice A n cap] w (SealEnd zs w) := by
  obtain ⟨i0, hi, hz0, hz1, hz2⟩ := info_parts Try.infoU8
  subst hn
  by_cases hlong : 131072 < zs.length
  · go_enter Try.func22, Try.ntmps22
    go_wp2
    go_ret
    exact ⟨_, rfl, by unfold sealF; rw [if_pos hlong]; exact Row.nil _ _ _ _, Keeps.refl _ _⟩
  · go_enter Try.func22, Try.ntmps22
    go_wp2_with fail
    refine (reffour_any zs.length w).mono ?_
    rintro e w1 ⟨rfl, hb1, hK1⟩
    have hr1 := FourEnd.row hb1 (Nat.le_refl _)
    clear hb1
    obtain ⟨h1, eh1⟩ : ∃ l, l = fourF zs.length := ⟨_, rfl⟩
    have hr1 : Row .u8 5 w1 w.heap.size (.slice (some ⟨w.heap.size, 0, Option.none⟩) 4 4) h1 := hr1.cast (by rw [eh1])
    have bh1 : Bytes h1 := by rw [eh1]; exact fourF_bytes _
    have lh1 : h1.length = 4 := by rw [eh1]; rfl
    obtain ⟨hn1, -, -, -⟩ := Nums.row hr1
    have S1 := Lib.hid (sum_any (some ⟨w.heap.size, 0, Option.none⟩) 4 4 h1 w1 hn1 bh1 lh1 (by omega))
    have S1' := Lib.hid (refsum_any (some ⟨w.heap.size, 0, Option.none⟩) 4 4 h1 w1 hn1 bh1 lh1 (by omega))
    have HE1 := Lib.hid eh1
    have HL1 := Lib.hid lh1
    clear eh1 lh1 hn1 S1
    go_wp2_with fail
    refine S1'.out.mono ?_
    rintro e w2 ⟨rfl, hk2⟩
    have hr2 := hr1.grew hk2
    have hK2 := hK1.trans hk2
    have hs2 := Crc.crc_lt h1 bh1.le
    obtain ⟨s1, es1⟩ : ∃ s, s = Crc.crc h1 := ⟨_, rfl⟩
    rw [← es1] at hs2 ⊢
    clear S1' hr1 hK1 hk2
    have HS1 := Lib.hid es1
    clear es1
    go_wp2_with fail
    refine (reffour_any s1 w2).mono ?_
    rintro e w3 ⟨rfl, hb3, hk3⟩
    have hn3 := (Nums.row (FourEnd.row hb3 (Nat.le_refl _))).1
    have hr3 := hr2.grew hk3
    have hK3 := hK2.trans hk3
    have hr3' : w3.ownsRow w.heap.size 5 1 (.slice (some ⟨w.heap.size, 0, Option.none⟩) 4 4) 4 (h1.map (Value.int .u8)) := by have := hr3.raw; rwa [HL1.out] at this
    have l2 : (h1 ++ fourF s1).length ≤ 8 := by rw [List.length_append, fourF_len, HL1.out]; omega
    have L2 := Lib.hid l2
    clear l2
    go_wp2_with (first
      | (at_builtin; refine wpList_append_row _ rfl (.tmp 13) (.tmp 15) 23 rfl w.heap.size 5 i0 (.int .u8 0) 1 1 Try.underlying23 hi hz0 hz1 hz2 rfl (by decide) _ 4 _ rfl hr3' (some ⟨w2.heap.size, 0, Option.none⟩) 4 4 ((fourF s1).map (Value.int .u8)) rfl rfl (fun e => by cases e) hn3.src (ints_oneCell _ _) (by unfold maxLen; omega) (by omega) hK3.size ?_; intro v4 w4 hown4 hk4 _; have hr4 := Row.of_append (zs := h1) (ys := fourF s1) HL1.out rfl hown4; have hK4 := hK3.own hr3 (Nat.le_refl _) hk4; have hA4 := hA.grew hK4)
      | (at_builtin; refine wpList_append_row _ rfl (.tmp 17) (.tmp 18) 23 rfl w.heap.size 5 i0 (.int .u8 0) 1 1 Try.underlying23 hi hz0 hz1 hz2 rfl (by decide) _ (h1 ++ fourF s1).length _ rfl hr4.raw A zs.length cap (zs.map (Value.int .u8)) rfl (by rw [List.length_map, Nat.mul_one]) hnil hA4.src (ints_oneCell _ _) (by have := L2.out; unfold maxLen; omega) (by have := L2.out; omega) hK4.size ?_; intro v5 w5 hown5 hk5 _))
    have hr5 : Row .u8 5 w5 w.heap.size v5 ((h1 ++ fourF s1) ++ zs) := Row.of_append rfl rfl hown5
    obtain ⟨h3, eh3⟩ : ∃ l, l = (h1 ++ fourF s1) ++ zs := ⟨_, rfl⟩
    rw [← eh3] at hr5
    have hK5 := hK4.own hr4 (Nat.le_refl _) hk5
    have bh3 : Bytes h3 := by rw [eh3]; exact (bh1.append (fourF_bytes _)).append hb
    have lh3 : h3.length ≤ 131080 := by have := L2.out; rw [eh3, List.length_append]; omega
    have HE3 := Lib.hid eh3
    clear eh3 hr4 hK4 hk5 hown5 hA4 hown4 hk4 hr3 hr3' hK3
    obtain ⟨A5, c5, rfl, -, hn5, -⟩ := hr5.open_
    go_wp2_with fail
    refine (refsum_any A5 h3.length c5 h3 w5 hn5 bh3 rfl (by omega)).mono ?_
    rintro e w6 ⟨rfl, hk6⟩
    have hr6 := hr5.grew hk6
    have hK6 := hK5.trans hk6
    obtain ⟨s2, es2⟩ : ∃ s, s = Crc.crc h3 := ⟨_, rfl⟩
    rw [← es2]
    have HS2 := Lib.hid es2
    clear hr5 hn5 hK5 hk6 es2
    go_wp2_with fail
    refine (reffour_any s2 w6).mono ?_
    rintro e w7 ⟨rfl, hb7, hk7⟩
    have hn7 := (Nums.row (FourEnd.row hb7 (Nat.le_refl _))).1
    have hr7 := hr6.grew hk7
    have hK7 := hK6.trans hk7
    go_wp2_with (at_builtin; refine wpList_append_row _ rfl (.tmp 22) (.tmp 24) 23 rfl w.heap.size 5 i0 (.int .u8 0) 1 1 Try.underlying23 hi hz0 hz1 hz2 rfl (by decide) _ h3.length _ rfl hr7.raw (some ⟨w6.heap.size, 0, Option.none⟩) 4 4 ((fourF s2).map (Value.int .u8)) rfl rfl (fun e => by cases e) hn7.src (ints_oneCell _ _) (by unfold maxLen; omega) (by omega) hK7.size ?_; intro v8 w8 hown8 hk8 _)
    go_ret
    refine ⟨v8, rfl, (Row.of_append rfl rfl hown8).cast ?_, hK7.own hr7 (Nat.le_refl _) hk8⟩
    unfold sealF
    rw [if_neg hlong, HS2.out, HE3.out, HS1.out, HE1.out]

theorem numF_take (b : List Int) (n : Nat) (h : 4 ≤ n) : numF (b.take n) = numF b := by
  unfold numF
  have e : ∀ i, i < n → (b.take n).getD i 0 = b.getD i 0 := by
    intro i hi
    rw [List.getD_eq_getElem?_getD, List.getD_eq_getElem?_getD, List.getElem?_take, if_pos hi]
  rw [e 0 (by omega), e 1 (by omega), e 2 (by omega), e 3 (by omega)]

set_option maxRecDepth 100000 in
set_option maxHeartbeats 1600000 in
theorem refopen_any (A : Option Addr) (n cap : Nat) (zs : List Int) (w : World) (hA : Nums .u8 w A zs) (hb : Bytes zs) (hn : zs.length = n) (hr : n ≤ 140737488351232) (hc : n ≤ cap) :
    Calls Try.prog 48 #[.slice A n cap] w (OpenEnd zs w) := by
  obtain ⟨i0, hi, hz0, hz1, hz2⟩ := info_parts Try.infoU8
  by_cases h8 : n < 8
  · go_enter Try.func48, Try.ntmps48
    go_wp2
    go_ret2
    exact OpenEnd.nil (by unfold openF; rw [if_pos (by omega)]) (Keeps.refl _ _)
  · obtain ⟨x0, b, o, rfl, _, _⟩ := hA.get 0 (by omega)
    have hd4 : Nums .u8 w (some ⟨b, o + 4, Option.none⟩) ((zs.drop 4).take 4) := (hA.drop 4).take 4
    have ht4 : Nums .u8 w (some ⟨b, o, Option.none⟩) (zs.take 4) := hA.take 4
    have hcap4 : ¬ cap = 4 := by omega
    have hi1 : (4 : Int) ≤ (n : Int) := by omega
    have hi0 : (8 : Int) ≤ (cap : Int) := by omega
    have hi2 : (4 : Int) ≤ (cap : Int) := by omega
    have hi3 : (n : Int) ≤ (cap : Int) := by omega
    have c1 := fun w' (hk : Keeps None w w') => refnumber_any (some ⟨b, o + 4, Option.none⟩) 4 (cap - 4) ((zs.drop 4).take 4) w' (hd4.grew hk) ((hb.drop 4).take 4) (by simp; omega) (by omega) (by omega)
    have C1 := Lib.hid c1
    have c2 := fun w' (hk : Keeps None w w') => refsum_any (some ⟨b, o, Option.none⟩) 4 cap (zs.take 4) w' (ht4.grew hk) (hb.take 4) (by simp; omega) (by omega)
    have C2 := Lib.hid c2
    have c3 := fun w' (hk : Keeps None w w') => refnumber_any (some ⟨b, o, Option.none⟩) 4 cap (zs.take 4) w' (ht4.grew hk) (hb.take 4) (by simp; omega) (by omega) (by omega)
    have C3 := Lib.hid c3
    clear c1 c2 c3 hd4 ht4
    rw [numF_take _ 4 (by omega)] at C1 C3
    obtain ⟨s1, es1⟩ : ∃ s, s = numF (zs.drop 4) := ⟨_, rfl⟩
    obtain ⟨s2, es2⟩ : ∃ s, s = Crc.crc (zs.take 4) := ⟨_, rfl⟩
    rw [← es1] at C1
    go_enter Try.func48, Try.ntmps48
    go_wp2
    go_region_held3 (fun w' => Keeps None w w') (first | assumption | exact Keeps.refl _ _ | exact (Keeps.refl _ _).drew)
      (first
        | (go_at_call 61; refine (C1.out _ (by assumption)).mono ?_; rintro e w1 ⟨rfl, hd⟩; have hk1 : Keeps None w w1 := Keeps.trans (by assumption) (hd.keeps _))
        | (go_at_call 17; refine (C2.out _ (by assumption)).mono ?_; rintro e w2 ⟨rfl, hk⟩; have hk2 : Keeps None w w2 := Keeps.trans (by assumption) hk))
    clear C1 C2
    by_cases hs : s1 = s2
    · obtain ⟨t1, t2⟩ := test_eq (a := (s1 : Int)) (b := s2) (by rw [hs])
      have HS := Lib.hid hs
      clear hs
      have hA2 := hA.grew hk2
      go_wp2_with fail
      refine (C3.out w2 hk2).mono ?_
      rintro e w3 ⟨rfl, hd3⟩
      have hk3 := hk2.trans (hd3.keeps None)
      obtain ⟨N, eN⟩ : ∃ s, s = numF zs := ⟨_, rfl⟩
      have hN : N < 4294967296 := by rw [eN]; exact numF_lt zs hb
      rw [← eN]
      have HN := Lib.hid eN
      clear eN C3
      have pre : ∀ l k, (if 131072 < N then ([], 2) else if zs.length < N + 12 then ([], 10) else if N + 12 < zs.length then ([], 11) else if numF (zs.drop (N + 8)) ≠ Crc.crc (zs.take (N + 8)) then ([], 12) else ((zs.drop 8).take N, 0)) = ((l, k) : List Int × Int) → openF zs = (l, k) := by
        intro l k h
        rw [← h]
        unfold openF
        rw [if_neg (by omega), if_neg (by rw [← es1, ← es2, HS.out]; exact fun h => h rfl), ← HN.out]
      have HP := Lib.hid pre
      have HE1 := Lib.hid es1
      have HE2 := Lib.hid es2
      clear pre es1 es2
      by_cases h2 : 131072 < N
      · go_wp2
        go_ret2
        exact OpenEnd.nil (HP.out _ _ (by rw [if_pos h2])) hk3
      · by_cases h3 : n < N + 12
        · go_wp2
          go_ret2
          exact OpenEnd.nil (HP.out _ _ (by rw [if_neg h2, if_pos (by omega)])) hk3
        · by_cases h4 : N + 12 < n
          · go_wp2
            go_ret2
            exact OpenEnd.nil (HP.out _ _ (by rw [if_neg h2, if_neg (by omega), if_pos (by omega)])) hk3
          · have hcapN : ¬ cap = N + 8 := by omega
            have hcap8 : ¬ cap = 8 := by omega
            have q1 : (8 : Int) ≤ (cap : Int) := by omega
            have q2 : (N : Int) + 8 ≤ (cap : Int) := by omega
            have q3 : (N : Int) + 8 ≤ (n : Int) := by omega
            have q4 : (0 : Int) ≤ (N : Int) := by omega
            go_wp2
            obtain ⟨M, eM⟩ : ∃ M, M = N + 8 := ⟨_, rfl⟩
            have hM : ¬ cap = M := by omega
            have m1 : IntKind.i64.wrap ((N : Int) + 8) = (M : Int) := by rw [IntWalk.i64_in _ (by omega)]; omega
            have m2 : (M : Int) ≤ (cap : Int) := by omega
            have m3 : (M : Int) ≤ (n : Int) := by omega
            have hdM := hA.drop M
            have htM := hA.take M
            have c1 := fun w' (hk : Keeps None w w') => refnumber_any (some ⟨b, o + M, Option.none⟩) (n - M) (cap - M) (zs.drop M) w' (hdM.grew hk) (hb.drop M) (by simp; omega) (by omega) (by omega)
            have C1 := Lib.hid c1
            have c2 := fun w' (hk : Keeps None w w') => refsum_any (some ⟨b, o, Option.none⟩) M cap (zs.take M) w' (htM.grew hk) (hb.take M) (by simp; omega) (by omega)
            have C2 := Lib.hid c2
            have EM := Lib.hid eM
            clear c1 c2 hdM htM eM
            obtain ⟨u1, eu1⟩ : ∃ s, s = numF (zs.drop M) := ⟨_, rfl⟩
            obtain ⟨u2, eu2⟩ : ∃ s, s = Crc.crc (zs.take M) := ⟨_, rfl⟩
            rw [← eu1] at C1
            go_region_held3 (fun w' => Keeps None w w') (first | assumption | exact Keeps.drew (by assumption))
              (first
                | (go_at_call 61; refine (C1.out _ (by assumption)).mono ?_; rintro e w4 ⟨rfl, hd⟩; have hk4 : Keeps None w w4 := Keeps.trans (by assumption) (hd.keeps _))
                | (go_at_call 17; refine (C2.out _ (by assumption)).mono ?_; rintro e w5 ⟨rfl, hk⟩; have hk5 : Keeps None w w5 := Keeps.trans (by assumption) hk))
            clear C1 C2
            by_cases hu : u1 = u2
            · obtain ⟨t1, t2⟩ := test_eq (a := (u1 : Int)) (b := u2) (by rw [hu])
              have m6 : (8 : Int) ≤ (M : Int) := by have := EM.out; omega
              have hA5 := hA.grew hk5
              have hl5 : (((zs.drop 8).take N).map (Value.int .u8)).length = (M - 8) * 1 := by have := EM.out; simp; omega
              have HL5 := Lib.hid hl5
              have hn5 := (hA5.drop 8).take N
              clear hl5
              go_wp2_with (at_builtin; refine wpList_append_row _ rfl (.tmp 42) (.tmp 46) 23 rfl w.heap.size 5 i0 (.int .u8 0) 1 1 Try.underlying23 hi hz0 hz1 hz2 rfl (by decide) _ 0 _ rfl (World.ownsRow_nil _ _ _ _) (some ⟨b, o + 8, Option.none⟩) (M - 8) (cap - 8) (((zs.drop 8).take N).map (Value.int .u8)) rfl HL5.out (fun e => by cases e) hn5.src (ints_oneCell _ _) (by unfold maxLen; omega) (by omega) hk5.size ?_; intro v6 w6 hown6 hk6 _)
              go_ret2
              refine OpenEnd.of (HP.out _ _ (by rw [if_neg h2, if_neg (by omega), if_neg (by omega), if_neg (by rw [← EM.out, ← eu1, ← eu2, hu]; exact fun h => h rfl)]; rfl)) (Row.of_append (zs := []) rfl ?_ hown6) (hk5.andThen hk6 (fun i hi e => by cases e))
              have := EM.out; simp; omega
            · obtain ⟨t1, t2⟩ := test_ne (a := (u1 : Int)) (b := u2) (by omega)
              go_wp2
              go_ret2
              exact OpenEnd.nil (HP.out _ _ (by rw [if_neg h2, if_neg (by omega), if_neg (by omega), if_pos (by rw [← EM.out, ← eu1, ← eu2]; exact hu)])) hk5
    · obtain ⟨t1, t2⟩ := test_ne (a := (s1 : Int)) (b := s2) (by omega)
      go_wp2
      go_ret2
      exact OpenEnd.nil (by unfold openF; rw [if_neg (by omega), if_pos (by rw [← es1, ← es2]; omega)]) hk2
end Go.Proofs.Ytnhhmkgcgogddaa
