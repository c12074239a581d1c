/- A sealed body with one byte turned is refused with the sum's error. -/
import Derived.Test.YtnhhmkgcgogddaaSealLaw
namespace Go.Proofs.Ytnhhmkgcgogddaa
open Go.RowKit

theorem openF_turned12 (zs : List Int) (h : zs.length ≤ 131072) (hb : Bytes zs) (K : Nat) (c d : Int) (hc : (sealF zs)[K]? = some c) (hd : 0 ≤ d ∧ d ≤ 255) (hne : c ≠ d) : openF ((sealF zs).set K d) = ([], 12) := by
  obtain ⟨h1, h3, l1, l3, b3, e, e3, e1, s1, s3⟩ := sealF_parts zs h hb
  have hlen := sealF_len zs h
  have hK : K < (sealF zs).length := (List.getElem?_eq_some_iff.1 hc).1
  have b1 : Bytes h1 := by rw [e1]; exact fourF_bytes _
  obtain ⟨S, eS⟩ : ∃ S, S = sealF zs := ⟨_, rfl⟩
  rw [← eS] at hc hlen hK e ⊢
  have e4 : S = h1 ++ (fourF (Crc.crc h1) ++ (zs ++ fourF (Crc.crc h3))) := by rw [e, e3]; simp only [List.append_assoc]
  have bS : Bytes S := by rw [eS]; exact sealF_bytes zs hb
  have hlen' : (S.set K d).length = zs.length + 12 := by rw [List.length_set]; exact hlen
  have hd4 : S.drop 4 = fourF (Crc.crc h1) ++ (zs ++ fourF (Crc.crc h3)) := by rw [e4, ← l1]; simp
  have ht4 : S.take 4 = h1 := by rw [e4, ← l1]; simp
  have hn4 : numF (S.drop 4) = Crc.crc h1 := by rw [hd4, numF_four _ _ s1]
  by_cases k8 : K < 8
  · skip
    have hdiff : numF ((S.set K d).drop 4) ≠ Crc.crc ((S.set K d).take 4) := by
      by_cases k4 : K < 4
      · have q1 : (S.set K d).drop 4 = S.drop 4 := List.drop_set_of_lt k4
        have q2 : (S.set K d).take 4 = h1.set K d := by rw [List.take_set, ht4]
        rw [q1, q2, hn4]
        have hc1 : h1[K]? = some c := by rw [← ht4, List.getElem?_take, if_pos k4]; exact hc
        exact fun h => Crc.crc_set h1 K c d b1 hc1 hd hne h.symm
      · have q1 : (S.set K d).drop 4 = (S.drop 4).set (K - 4) d := by rw [List.drop_set, if_neg (by omega)]
        have q2 : (S.set K d).take 4 = h1 := by rw [List.take_set_of_le (by omega), ht4]
        rw [q1, q2, ← hn4]
        have hc1 : (S.drop 4)[K - 4]? = some c := by rw [List.getElem?_drop, show 4 + (K - 4) = K by omega]; exact hc
        exact numF_set (S.drop 4) (K - 4) c d (bS.drop 4) (by simp; omega) (by omega) hc1 hd hne
    unfold openF
    rw [if_neg (by omega), if_pos hdiff]
  · skip
    have l2 : (h1 ++ fourF (Crc.crc h1)).length = 8 := by rw [List.length_append, fourF_len, l1]
    have q0 : S.set K d = h1 ++ (fourF (Crc.crc h1) ++ (zs ++ fourF (Crc.crc h3)).set (K - 8) d) := by
      rw [e4, ← List.append_assoc, List.set_append_right _ _ (by omega), l2, List.append_assoc]
    rw [openF_head (S.set K d) zs h1 _ h e1 s1 q0, if_neg (by omega), if_neg (by omega)]
    have hdM : S.drop (zs.length + 8) = fourF (Crc.crc h3) := by rw [e, ← l3]; simp
    have htM : S.take (zs.length + 8) = h3 := by rw [e, ← l3]; simp
    have hnM : numF (S.drop (zs.length + 8)) = Crc.crc h3 := by rw [hdM]; have := numF_four (Crc.crc h3) [] s3; rwa [List.append_nil] at this
    have hdiff : numF ((S.set K d).drop (zs.length + 8)) ≠ Crc.crc ((S.set K d).take (zs.length + 8)) := by
      by_cases kM : K < zs.length + 8
      · have q1 : (S.set K d).drop (zs.length + 8) = S.drop (zs.length + 8) := List.drop_set_of_lt kM
        have q2 : (S.set K d).take (zs.length + 8) = h3.set K d := by rw [List.take_set, htM]
        rw [q1, q2, hnM]
        have hc1 : h3[K]? = some c := by rw [← htM, List.getElem?_take, if_pos kM]; exact hc
        exact fun h => Crc.crc_set h3 K c d b3 hc1 hd hne h.symm
      · have q1 : (S.set K d).drop (zs.length + 8) = (S.drop (zs.length + 8)).set (K - (zs.length + 8)) d := by rw [List.drop_set, if_neg (by omega)]
        have q2 : (S.set K d).take (zs.length + 8) = h3 := by rw [List.take_set_of_le (by omega), htM]
        rw [q1, q2, ← hnM]
        have hc1 : (S.drop (zs.length + 8))[K - (zs.length + 8)]? = some c := by rw [List.getElem?_drop, show (zs.length + 8) + (K - (zs.length + 8)) = K by omega]; exact hc
        exact numF_set _ _ c d (bS.drop _) (by simp; omega) (by omega) hc1 hd hne
    rw [if_pos hdiff]
end Go.Proofs.Ytnhhmkgcgogddaa
