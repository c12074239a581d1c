/- The plain law of sealing: a sealed body is opened; a front of it is cut, one byte more is too many, one byte turned is refused. -/
import Derived.Test.YtnhhmkgcgogddaaOpened
namespace Go.Proofs.Ytnhhmkgcgogddaa

namespace Crc
theorem xor_left_inj {a b c : Nat} (h : a ^^^ c = b ^^^ c) : a = b := by
  have h1 : (a ^^^ c) ^^^ c = (b ^^^ c) ^^^ c := by rw [h]
  rwa [Nat.xor_assoc, Nat.xor_assoc, Nat.xor_self, Nat.xor_zero, Nat.xor_zero] at h1
theorem xor_zero_eq {a b : Nat} (h : a ^^^ b = 0) : a = b := xor_left_inj (c := b) (by rw [h, Nat.xor_self])
theorem stp_zero (y : Nat) (hy : y < 4294967296) (h : stp y = 0) : y = 0 := by
  unfold stp at h
  have h2 := xor_zero_eq h
  split at h2
  · unfold poly at h2; omega
  · omega
theorem stp_inj (a b : Nat) (ha : a < 4294967296) (hb : b < 4294967296) (h : stp a = stp b) : a = b := by
  have h1 : stp (a ^^^ b) = 0 := by rw [stp_xor, h]; simp
  have h2 := stp_zero _ (Nat.xor_lt_two_pow (n := 32) ha hb) h1
  exact xor_zero_eq h2
theorem it_inj (n a b : Nat) (ha : a < 4294967296) (hb : b < 4294967296) (h : it n a = it n b) : a = b := by
  induction n with
  | zero => exact h
  | succ n ih => exact ih (stp_inj _ _ (it_lt n a ha) (it_lt n b hb) h)
theorem xor_right_inj {a b c : Nat} (h : c ^^^ a = c ^^^ b) : a = b := by
  rw [Nat.xor_comm c a, Nat.xor_comm c b] at h; exact xor_left_inj h
theorem byt_inj (a b : Nat) (c : Int) (ha : a < 4294967296) (hb : b < 4294967296) (hc : c ≤ 255) (h : byt a c = byt b c) : a = b :=
  xor_left_inj (it_inj 8 _ _ (Nat.xor_lt_two_pow (n := 32) ha (by omega)) (Nat.xor_lt_two_pow (n := 32) hb (by omega)) h)
theorem byt_inj2 (a : Nat) (c d : Int) (ha : a < 4294967296) (hc : 0 ≤ c ∧ c ≤ 255) (hd : 0 ≤ d ∧ d ≤ 255) (h : byt a c = byt a d) : c = d := by
  have := xor_right_inj (it_inj 8 _ _ (Nat.xor_lt_two_pow (n := 32) ha (by omega)) (Nat.xor_lt_two_pow (n := 32) ha (by omega)) h)
  omega
theorem from_inj (l : List Int) (hl : ∀ c ∈ l, c ≤ 255) : ∀ a b : Nat, a < 4294967296 → b < 4294967296 → from_ a l = from_ b l → a = b := by
  induction l with
  | nil => intro a b _ _ h; exact h
  | cons c l ih =>
    intro a b ha hb h
    have hc : c ≤ 255 := hl c (by simp)
    exact byt_inj a b c ha hb hc (ih (fun d hd => hl d (by simp [hd])) _ _ (byt_lt a c ha hc) (byt_lt b c hb hc) h)
theorem from_append (x : Nat) (l m : List Int) : from_ x (l ++ m) = from_ (from_ x l) m := by simp [from_]
/-- One byte turned is seen. -/
theorem crc_set (l : List Int) (K : Nat) (c d : Int) (hl : Bytes l) (hK : l[K]? = some c) (hd : 0 ≤ d ∧ d ≤ 255) (hne : c ≠ d) : crc (l.set K d) ≠ crc l := by
  intro h
  obtain ⟨hlt, hc⟩ := List.getElem?_eq_some_iff.1 hK
  have hcb := hl.at hK
  have e1 : l = l.take K ++ c :: l.drop (K + 1) := by
    rw [← hc, List.getElem_cons_drop, List.take_append_drop]
  have e2 : l.set K d = l.take K ++ d :: l.drop (K + 1) := by rw [List.set_eq_take_append_cons_drop, if_pos hlt]
  have h1 : from_ 4294967295 (l.set K d) = from_ 4294967295 l := xor_left_inj h
  have h2 : from_ 4294967295 (l.take K ++ d :: l.drop (K + 1)) = from_ 4294967295 (l.take K ++ c :: l.drop (K + 1)) := by rw [← e1, ← e2]; exact h1
  rw [from_append, from_append] at h2
  have hs := from_lt 4294967295 (l.take K) (by omega) (hl.take K).le
  have h3 := from_inj (l.drop (K + 1)) (hl.drop (K + 1)).le _ _ (byt_lt _ d hs hd.2) (byt_lt _ c hs hcb.2) h2
  exact hne (byt_inj2 _ d c hs hd hcb h3).symm
end Crc

theorem numF_four (n : Nat) (r : List Int) (hn : n < 4294967296) : numF (fourF n ++ r) = n := by
  unfold numF fourF
  simp
  omega
theorem numF_set (l : List Int) (j : Nat) (c d : Int) (hl : Bytes l) (h4 : 4 ≤ l.length) (hj : j < 4) (hc : l[j]? = some c) (hd : 0 ≤ d ∧ d ≤ 255) (hne : c ≠ d) : numF (l.set j d) ≠ numF l := by
  match l, h4 with
  | a0 :: a1 :: a2 :: a3 :: r, _ =>
    have b0 := hl a0 (by simp)
    have b1 := hl a1 (by simp)
    have b2 := hl a2 (by simp)
    have b3 := hl a3 (by simp)
    rcases (by omega : j = 0 ∨ j = 1 ∨ j = 2 ∨ j = 3) with rfl | rfl | rfl | rfl <;> simp at hc <;> subst hc <;> simp [numF] <;> omega

/-- A sealed body by its parts. -/
theorem sealF_parts (zs : List Int) (h : zs.length ≤ 131072) (hb : Bytes zs) :
    ∃ (h1 h3 : List Int), h1.length = 4 ∧ h3.length = zs.length + 8 ∧ Bytes h3 ∧ sealF zs = h3 ++ fourF (Crc.crc h3) ∧ h3 = h1 ++ fourF (Crc.crc h1) ++ zs ∧ h1 = fourF zs.length ∧ Crc.crc h1 < 4294967296 ∧ Crc.crc h3 < 4294967296 := by
  refine ⟨fourF zs.length, fourF zs.length ++ fourF (Crc.crc (fourF zs.length)) ++ zs, rfl, ?_, ?_, ?_, rfl, rfl, ?_, ?_⟩
  · simp only [List.length_append, fourF_len]; omega
  · exact ((fourF_bytes _).append (fourF_bytes _)).append hb
  · unfold sealF; rw [if_neg (by omega)]
  · exact Crc.crc_lt _ (fourF_bytes _).le
  · exact Crc.crc_lt _ (((fourF_bytes _).append (fourF_bytes _)).append hb).le

/-- What openF asks of bytes whose head is right. -/
theorem openF_head (b zs h1 : List Int) (r : List Int) (hl : zs.length ≤ 131072) (h1l : h1 = fourF zs.length) (hs : Crc.crc h1 < 4294967296) (hb : b = h1 ++ (fourF (Crc.crc h1) ++ r)) :
    openF b = if b.length < zs.length + 12 then ([], 10) else if zs.length + 12 < b.length then ([], 11) else if numF (b.drop (zs.length + 8)) ≠ Crc.crc (b.take (zs.length + 8)) then ([], 12) else ((b.drop 8).take zs.length, 0) := by
  have l1 : h1.length = 4 := by rw [h1l]; rfl
  have hd4 : b.drop 4 = fourF (Crc.crc h1) ++ r := by rw [hb, ← l1]; simp
  have ht4 : b.take 4 = h1 := by rw [hb, ← l1]; simp
  have hn : numF b = zs.length := by rw [hb, h1l, numF_four _ _ (by omega)]
  have hlen : 8 ≤ b.length := by rw [hb]; simp only [List.length_append, fourF_len, l1]; omega
  unfold openF
  rw [if_neg (by omega), hd4, ht4, numF_four _ _ hs, if_neg (by simp), hn, if_neg (by omega)]

theorem openF_seal (zs : List Int) (h : zs.length ≤ 131072) (hb : Bytes zs) : openF (sealF zs) = (zs, 0) := by
  obtain ⟨h1, h3, l1, l3, b3, e, e3, e1, s1, s3⟩ := sealF_parts zs h hb
  have hlen := sealF_len zs h
  rw [openF_head (sealF zs) zs h1 (zs ++ fourF (Crc.crc h3)) h e1 s1 (by rw [e, e3]; simp only [List.append_assoc]), if_neg (by omega), if_neg (by omega)]
  have hd : (sealF zs).drop (zs.length + 8) = fourF (Crc.crc h3) := by rw [e, ← l3]; simp
  have ht : (sealF zs).take (zs.length + 8) = h3 := by rw [e, ← l3]; simp
  have hn : numF (fourF (Crc.crc h3)) = Crc.crc h3 := by have := numF_four (Crc.crc h3) [] s3; rwa [List.append_nil] at this
  rw [hd, ht, hn, if_neg (by simp)]
  have h8 : (sealF zs).drop 8 = zs ++ fourF (Crc.crc h3) := by
    have l2 : (h1 ++ fourF (Crc.crc h1)).length = 8 := by rw [List.length_append, fourF_len, l1]
    rw [e, e3, List.append_assoc, ← l2]; simp
  rw [h8]; simp

theorem openF_front (zs : List Int) (h : zs.length ≤ 131072) (hb : Bytes zs) (K : Nat) (hK : K < (sealF zs).length) : openF ((sealF zs).take K) = ([], 10) := by
  obtain ⟨h1, h3, l1, l3, b3, e, e3, e1, s1, s3⟩ := sealF_parts zs h hb
  have hlen := sealF_len zs h
  have htl : ((sealF zs).take K).length = K := by rw [List.length_take]; omega
  by_cases h8 : K < 8
  · unfold openF; rw [if_pos (by omega)]
  · have l2 : (h1 ++ fourF (Crc.crc h1)).length = 8 := by rw [List.length_append, fourF_len, l1]
    rw [openF_head ((sealF zs).take K) zs h1 ((zs ++ fourF (Crc.crc h3)).take (K - 8)) h e1 s1 ?_, if_pos (by omega)]
    rw [e, e3, List.append_assoc, List.take_append, l2, List.take_of_length_le (by omega), List.append_assoc]

theorem openF_more (zs : List Int) (h : zs.length ≤ 131072) (hb : Bytes zs) (x : Int) : openF (sealF zs ++ [x]) = ([], 11) := by
  obtain ⟨h1, h3, l1, l3, b3, e, e3, e1, s1, s3⟩ := sealF_parts zs h hb
  have hlen := sealF_len zs h
  rw [openF_head (sealF zs ++ [x]) zs h1 (zs ++ fourF (Crc.crc h3) ++ [x]) h e1 s1 (by rw [e, e3]; simp only [List.append_assoc]), if_neg (by simp; omega), if_pos (by simp; omega)]

/-- One byte of a sealed body turned: refused. -/
theorem openF_turned (zs : List Int) (h : zs.length ≤ 131072) (hb : Bytes zs) (K : Nat) (c d : Int) (hc : (sealF zs)[K]? = some c) (hd : 0 ≤ d ∧ d ≤ 255) (hne : c ≠ d) : ∃ e, openF ((sealF zs).set K d) = ([], e) ∧ e ≠ 0 := by
  obtain ⟨h1, h3, l1, l3, b3, e, e3, e1, s1, s3⟩ := sealF_parts zs h hb
  have hlen := sealF_len zs h
  have hK : K < (sealF zs).length := (List.getElem?_eq_some_iff.1 hc).1
  have b1 : Bytes h1 := by rw [e1]; exact fourF_bytes _
  obtain ⟨S, eS⟩ : ∃ S, S = sealF zs := ⟨_, rfl⟩
  rw [← eS] at hc hlen hK e ⊢
  have e4 : S = h1 ++ (fourF (Crc.crc h1) ++ (zs ++ fourF (Crc.crc h3))) := by rw [e, e3]; simp only [List.append_assoc]
  have bS : Bytes S := by rw [eS]; exact sealF_bytes zs hb
  have hlen' : (S.set K d).length = zs.length + 12 := by rw [List.length_set]; exact hlen
  have hd4 : S.drop 4 = fourF (Crc.crc h1) ++ (zs ++ fourF (Crc.crc h3)) := by rw [e4, ← l1]; simp
  have ht4 : S.take 4 = h1 := by rw [e4, ← l1]; simp
  have hn4 : numF (S.drop 4) = Crc.crc h1 := by rw [hd4, numF_four _ _ s1]
  by_cases k8 : K < 8
  · refine ⟨12, ?_, by decide⟩
    have hdiff : numF ((S.set K d).drop 4) ≠ Crc.crc ((S.set K d).take 4) := by
      by_cases k4 : K < 4
      · have q1 : (S.set K d).drop 4 = S.drop 4 := List.drop_set_of_lt k4
        have q2 : (S.set K d).take 4 = h1.set K d := by rw [List.take_set, ht4]
        rw [q1, q2, hn4]
        have hc1 : h1[K]? = some c := by rw [← ht4, List.getElem?_take, if_pos k4]; exact hc
        exact fun h => Crc.crc_set h1 K c d b1 hc1 hd hne h.symm
      · have q1 : (S.set K d).drop 4 = (S.drop 4).set (K - 4) d := by rw [List.drop_set, if_neg (by omega)]
        have q2 : (S.set K d).take 4 = h1 := by rw [List.take_set_of_le (by omega), ht4]
        rw [q1, q2, ← hn4]
        have hc1 : (S.drop 4)[K - 4]? = some c := by rw [List.getElem?_drop, show 4 + (K - 4) = K by omega]; exact hc
        exact numF_set (S.drop 4) (K - 4) c d (bS.drop 4) (by simp; omega) (by omega) hc1 hd hne
    unfold openF
    rw [if_neg (by omega), if_pos hdiff]
  · refine ⟨12, ?_, by decide⟩
    have l2 : (h1 ++ fourF (Crc.crc h1)).length = 8 := by rw [List.length_append, fourF_len, l1]
    have q0 : S.set K d = h1 ++ (fourF (Crc.crc h1) ++ (zs ++ fourF (Crc.crc h3)).set (K - 8) d) := by
      rw [e4, ← List.append_assoc, List.set_append_right _ _ (by omega), l2, List.append_assoc]
    rw [openF_head (S.set K d) zs h1 _ h e1 s1 q0, if_neg (by omega), if_neg (by omega)]
    have hdM : S.drop (zs.length + 8) = fourF (Crc.crc h3) := by rw [e, ← l3]; simp
    have htM : S.take (zs.length + 8) = h3 := by rw [e, ← l3]; simp
    have hnM : numF (S.drop (zs.length + 8)) = Crc.crc h3 := by rw [hdM]; have := numF_four (Crc.crc h3) [] s3; rwa [List.append_nil] at this
    have hdiff : numF ((S.set K d).drop (zs.length + 8)) ≠ Crc.crc ((S.set K d).take (zs.length + 8)) := by
      by_cases kM : K < zs.length + 8
      · have q1 : (S.set K d).drop (zs.length + 8) = S.drop (zs.length + 8) := List.drop_set_of_lt kM
        have q2 : (S.set K d).take (zs.length + 8) = h3.set K d := by rw [List.take_set, htM]
        rw [q1, q2, hnM]
        have hc1 : h3[K]? = some c := by rw [← htM, List.getElem?_take, if_pos kM]; exact hc
        exact fun h => Crc.crc_set h3 K c d b3 hc1 hd hne h.symm
      · have q1 : (S.set K d).drop (zs.length + 8) = (S.drop (zs.length + 8)).set (K - (zs.length + 8)) d := by rw [List.drop_set, if_neg (by omega)]
        have q2 : (S.set K d).take (zs.length + 8) = h3 := by rw [List.take_set_of_le (by omega), htM]
        rw [q1, q2, ← hnM]
        have hc1 : (S.drop (zs.length + 8))[K - (zs.length + 8)]? = some c := by rw [List.getElem?_drop, show (zs.length + 8) + (K - (zs.length + 8)) = K by omega]; exact hc
        exact numF_set _ _ c d (bS.drop _) (by simp; omega) (by omega) hc1 hd hne
    rw [if_pos hdiff]

theorem xorB_ne {y x : Int} (hy : 0 ≤ y) (hx : 0 < x) : y ≠ xorB y x := by
  unfold xorB
  intro h
  have h1 : y.toNat ^^^ x.toNat = y.toNat ^^^ 0 := by rw [Nat.xor_zero]; omega
  have := Crc.xor_right_inj h1
  omega
/-- A head that says more than may be. -/
theorem openF_big (n : Nat) (r : List Int) (h : 131072 < n) (hn : n < 4294967296) : openF (fourF n ++ fourF (Crc.crc (fourF n)) ++ r) = ([], 2) := by
  have hs : Crc.crc (fourF n) < 4294967296 := Crc.crc_lt _ (fourF_bytes _).le
  have hd4 : (fourF n ++ fourF (Crc.crc (fourF n)) ++ r).drop 4 = fourF (Crc.crc (fourF n)) ++ r := by
    rw [List.append_assoc]; exact List.drop_left' (fourF_len n)
  have ht4 : (fourF n ++ fourF (Crc.crc (fourF n)) ++ r).take 4 = fourF n := by
    rw [List.append_assoc]; exact List.take_left' (fourF_len n)
  have hnn : numF (fourF n ++ fourF (Crc.crc (fourF n)) ++ r) = n := by rw [List.append_assoc]; exact numF_four n _ hn
  have hl : ¬ (fourF n ++ fourF (Crc.crc (fourF n)) ++ r).length < 8 := by simp only [List.length_append, fourF_len]; omega
  unfold openF
  rw [if_neg hl, hd4, ht4, numF_four _ _ hs, if_neg (by simp), hnn, if_pos h]
end Go.Proofs.Ytnhhmkgcgogddaa
