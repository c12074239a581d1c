/- cairnlaw6.shows: the tally tells what the reference's tells. -/
import Derived.Test.YtghbgcmhahndkaaRefNew
namespace Go.Proofs.Ytghbgcmhahndkaa
open Go.RowKit Go.Maps
set_option linter.unusedVariables false

theorem sameB_self (l : List Int) : SameB l l = true := by simp [SameB]

set_option maxRecDepth 100000 in
set_option maxHeartbeats 3200000 in
theorem shows_any (g base : Nat) (v : Value) (bm : Nat) (r rbase : Nat) (G : Value) (bv bh : Nat) (grp : List Int) (need : Int) (got : List (Int × Int)) (w : World)
    (hT : Tal w g base v grp need bm got) (hR : RT w r rbase G bv bh grp need got) (hwf : ∀ s ∈ grp, (Lit.int .i64 s).wf = true) (hgl : grp.length ≤ 17592186044416) (hfit : Fit grp got) :
    Calls Try.prog 21 #[.pointer (some ⟨g, 0, Option.none⟩), .pointer (some ⟨r, 0, Option.none⟩)] w (Known w) := by
  have WF := Lib.hid hwf
  have HF := Lib.hid hfit
  have hh : (hasF grp got).length ≤ grp.length := List.length_filter_le _ _
  have ha := ansF_len grp got
  have hm : (missF grp got).length ≤ grp.length := List.length_filter_le _ _
  obtain ⟨xs, hxs⟩ : ∃ xs, xs = hasF grp got := ⟨_, rfl⟩
  obtain ⟨ys, hys⟩ : ∃ ys, ys = ansF grp got := ⟨_, rfl⟩
  obtain ⟨zs, hzs⟩ : ∃ zs, zs = missF grp got := ⟨_, rfl⟩
  rw [← hxs] at hh
  rw [← hxs, ← hys] at ha
  rw [← hzs] at hm
  have hy : ys.length ≤ grp.length := by omega
  have XS := Lib.hid hxs
  have YS := Lib.hid hys
  have ZS := Lib.hid hzs
  clear hwf hfit hxs hys hzs ha
  go_enter Try.func21, Try.ntmps21
  go_wp2_with fail
  refine (got_any g base v grp need bm got w hT WF.out hgl).mono ?_
  rintro e w1 ⟨v1, v2, rfl, hr1, hr2, hk1⟩
  rw [← XS.out] at hr1
  rw [← YS.out] at hr2
  have hT1 := hT.grew hk1
  have hR1 := hR.grew hk1
  obtain ⟨A1, c1, rfl, -, m1, -⟩ := hr1.open_
  obtain ⟨A2, c2, rfl, -, m2, -⟩ := hr2.open_
  clear hr1 hr2 hT hR
  go_wp2_with fail
  refine (refgot_any r rbase G bv bh grp need got w1 hR1 hgl).mono ?_
  rintro e w2 ⟨v3, v4, rfl, hr3, hr4, hk2⟩
  rw [← XS.out] at hr3
  rw [← YS.out] at hr4
  have hT2 := hT1.grew hk2
  have hR2 := hR1.grew hk2
  have hK2 := hk1.trans hk2
  have n1 := m1.grew hk2
  have n2 := m2.grew hk2
  obtain ⟨A3, c3, rfl, -, n3, -⟩ := hr3.open_
  obtain ⟨A4, c4, rfl, -, n4, -⟩ := hr4.open_
  clear hr3 hr4 m1 m2 hT1 hR1 hk1 hk2
  go_wp2_with fail
  refine (sameints_any A1 xs.length c1 xs A3 xs.length c3 xs w2 n1 rfl n3 rfl (by omega)).mono ?_
  rintro e w3 ⟨rfl, hd3⟩
  rw [sameB_self]
  have hT3 := Drew.tal hT2 hd3
  have hR3 := hR2.drew hd3
  have hK3 := hK2.trans (hd3.keeps None)
  have q2 := n2.grew (hd3.keeps None)
  have q4 := n4.grew (hd3.keeps None)
  clear hT2 hR2 hK2 n1 n2 n3 n4 hd3
  go_wp2_with fail
  refine (sameints_any A2 ys.length c2 ys A4 ys.length c4 ys w3 q2 rfl q4 rfl (by omega)).mono ?_
  rintro e w4 ⟨rfl, hd4⟩
  rw [sameB_self]
  have hT4 := Drew.tal hT3 hd4
  have hR4 := hR3.drew hd4
  have hK4 := hK3.trans (hd4.keeps None)
  clear hT3 hR3 hK3 q2 q4 hd4
  go_wp2_with fail
  refine (missing_any g base v grp need bm got w4 hT4 WF.out hgl).mono ?_
  rintro e w5 ⟨v5, rfl, hr5, hk5⟩
  rw [← ZS.out] at hr5
  have hT5 := hT4.grew hk5
  have hR5 := hR4.grew hk5
  have hK5 := hK4.trans hk5
  obtain ⟨A5, c5, rfl, -, n5, -⟩ := hr5.open_
  clear hr5 hT4 hR4 hK4 hk5
  go_wp2_with fail
  refine (refmissing_any r rbase G bv bh grp need got w5 hR5 hgl).mono ?_
  rintro e w6 ⟨v6, rfl, hr6, hk6⟩
  rw [← ZS.out] at hr6
  have hT6 := hT5.grew hk6
  have hR6 := hR5.grew hk6
  have hK6 := hK5.trans hk6
  have q5 := n5.grew hk6
  obtain ⟨A6, c6, rfl, -, n6, -⟩ := hr6.open_
  clear hr6 hT5 hR5 hK5 hk6 n5
  go_wp2_with fail
  refine (sameints_any A5 zs.length c5 zs A6 zs.length c6 zs w6 q5 rfl n6 rfl (by omega)).mono ?_
  rintro e w7 ⟨rfl, hd7⟩
  rw [sameB_self]
  have hT7 := Drew.tal hT6 hd7
  have hR7 := hR6.drew hd7
  have hK7 := hK6.trans (hd7.keeps None)
  clear hT6 hR6 hK6 q5 n6 hd7
  go_wp2_with fail
  refine (enough_any g base v grp need bm got w7 hT7).mono ?_
  rintro e w8 ⟨hd8, rfl⟩
  have hR8 := hR7.drew hd8
  have hK8 := hK7.trans (hd8.keeps None)
  obtain ⟨B, hB⟩ : ∃ B, B = decide (need ≤ (got.length : Int)) := ⟨_, rfl⟩
  rw [← hB]
  have HB := Lib.hid hB
  clear hB hT7 hR7 hK7 hd8
  go_wp2_with fail
  refine (refenough_any r rbase G bv bh grp need got w8 hR8 hgl).mono ?_
  rintro e w9 ⟨hd9, rfl⟩
  have hK9 := hK8.trans (hd9.keeps None)
  rw [HF.out, ← HB.out]
  clear hR8 hK8 hd9
  go_wp2_with fail
  go_ret
  exact ⟨by simp, hK9⟩
end Go.Proofs.Ytghbgcmhahndkaa
