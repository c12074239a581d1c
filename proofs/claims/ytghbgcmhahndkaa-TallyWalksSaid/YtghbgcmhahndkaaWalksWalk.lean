/- The walk of TallyWalks: what Got hands back, ranged over within itself while answers are taken. -/
import Derived.Test.YtghbgcmhahndkaaSeqKeep
import Derived.Test.YtghbgcmhahndkaaKnown
import Derived.Test.YtghbgcmhahndkaaVotes
import Derived.StillTailTactics
import Derived.Laws.EntriesVeiled
import Derived.Deep.DeepCutAuto
import Derived.Deep.CutBlock
namespace Go.Proofs.Ytghbgcmhahndkaa.tallyWalks
open Go.RowKit Go.Shelf
set_option linter.unusedVariables false

attribute [local go_sem] Oper.semAt_some

def LawEnd (w : World) (e : Ending) (w' : World) : Prop := e = .returned (.bool true) ∧ Below w.heap.size w w'

theorem results_w (tmps : Array Value) (w : World) (k : Nat) (b : Bool) (hp : tmps.getD 6 undef = .pointer (some ⟨k, 0, Option.none⟩)) (hc : w.cell? ⟨k, 0, Option.none⟩ = some (.bool b)) :
    (results Try.f6 tmps).run Try.prog w = .ok (.bool b) w := by
  have hp' : tmps[6]?.getD undef = .pointer (some ⟨k, 0, Option.none⟩) := by simpa using hp
  simp [results, Try.results6, go_sem, hp', hc, asAddr]

theorem tookF_len (grp : List Int) (need : Int) (got : List (Int × Int)) (s x : Int) : (tookF grp need got s x).length ≤ got.length + 1 := by unfold tookF; split <;> simp

set_option maxRecDepth 100000 in
set_option maxHeartbeats 6400000 in
theorem walk (A : Option Addr) (n cap : Nat) (zs : List Int) (B : Option Addr) (m cap' : Nat) (vs : List Vo) (stop : Int) (w : World) (hA : Nums .i64 w A zs) (hn : zs.length = n) (hr : n ≤ 17592186043904) (hwf : ∀ s ∈ zs, (Lit.int .i64 s).wf = true) (hB : Vs w B vs) (hm : vs.length = m) (hvf : ∀ x ∈ vs, x.Fine) (hrm : m * 24 ≤ 140737488351232) :
    Calls Try.prog 6 #[.slice A n cap, .slice B m cap', .int .i64 stop] w (LawEnd w) := by
  subst hn
  subst hm
  have WF := Lib.hid (fun s (hs : s ∈ uniqF zs) => hwf s ((uniqF_mem zs s).1 hs))
  have VF := Lib.hid hvf
  have hul := uniqF_len zs
  clear hwf hvf
  refine (callsIn_wide (n := 8)).1 ?_
  refine callsIn_of_wp_marks Try.func6 rfl trivial ?_ rfl
  simp only [Try.ntmps6, List.size_toArray, List.length_cons, List.length_nil, Nat.reduceAdd, Nat.reduceSub, Array.replicate_succ, Array.replicate_zero, List.push_toArray, List.append_toArray, List.nil_append, List.cons_append]
  refine wpIn_wide.2 ?_
  obtain ⟨bv, hbv⟩ : ∃ b, b = w.heap.size := ⟨_, rfl⟩
  obtain ⟨bs, hbs⟩ : ∃ b, b = w.heap.size + 1 := ⟨_, rfl⟩
  obtain ⟨br, hbr⟩ : ∃ b, b = w.heap.size + 1 + 1 := ⟨_, rfl⟩
  obtain ⟨w1, hw1⟩ : ∃ w1, w1 = ((w.alloc (.cells #[.slice B vs.length cap'] 28)).alloc (.cells #[.int .i64 stop] 3)).alloc (.cells #[.bool false] 4) := ⟨_, rfl⟩
  have k1 : Keeps None w w1 := by rw [hw1]; exact (((Keeps.refl _ _).alloc _).alloc _).alloc _
  have cv : w1.cell? ⟨bv, 0, Option.none⟩ = some (.slice B vs.length cap') := by
    rw [hw1, hbv]; exact (((Blk.new w 28 [.slice B vs.length cap']).alloc _).alloc _).cell 0 _ rfl
  have cs : w1.cell? ⟨bs, 0, Option.none⟩ = some (.int .i64 stop) := by
    have := ((Blk.new (w.alloc (.cells #[.slice B vs.length cap'] 28)) 3 [.int .i64 stop]).alloc (.cells #[.bool false] 4)).cell 0 _ rfl
    rw [World.size_alloc] at this
    rw [hw1, hbs]; exact this
  have cr : Blk w1 br 4 [.bool false] := by
    have := Blk.new ((w.alloc (.cells #[.slice B vs.length cap'] 28)).alloc (.cells #[.int .i64 stop] 3)) 4 [.bool false]
    rw [World.size_alloc, World.size_alloc] at this
    rw [hw1, hbr]; exact this
  have hsb : w.heap.size ≤ bv ∧ bv < bs ∧ bs < br ∧ br < w1.heap.size := by rw [hw1]; simp; omega
  go_wp2_with fail
  rw [← hw1, ← hbr, ← hbs, ← hbv]
  clear hw1 hbr hbs hbv
  refine (known_any w1).mono ?_
  rintro e w2 ⟨rfl, k2⟩
  have K2 := k1.trans k2
  have cv2 := k2.cell cv id
  have cs2 := k2.cell cs id
  have cr2 := cr.grew k2
  have s2 := k2.size
  clear k1 k2 cv cs cr
  go_wp2_with fail
  refine (new_any A zs.length cap zs ((zs.length : Int) + 1) w2 (hA.grew K2) rfl (by omega)).mono ?_
  rintro e w3 ⟨v, rfl, hT3, k3⟩
  obtain ⟨g, hg⟩ : ∃ g, g = w2.heap.size + 1 := ⟨_, rfl⟩
  obtain ⟨bm, hbm⟩ : ∃ b, b = w2.heap.size := ⟨_, rfl⟩
  rw [← hg, ← hbm] at hT3
  rw [← hg]
  obtain ⟨need, hneed⟩ : ∃ need : Int, need = (zs.length : Int) + 1 := ⟨_, rfl⟩
  rw [← hneed] at hT3
  clear hneed
  have K3 := K2.trans k3
  have cv3 := k3.cell cv2 id
  have cs3 := k3.cell cs2 id
  have cr3 := cr2.grew k3
  have s3 := k3.size
  obtain ⟨grp, hgrp⟩ : ∃ grp, grp = uniqF zs := ⟨_, rfl⟩
  rw [← hgrp] at hT3 WF hul
  have hgl : grp.length ≤ 17592186043904 := by omega
  have hbmr : br < bm := by omega
  have hlt3 : g < w3.heap.size ∧ bm < w3.heap.size ∧ (∀ b, v.ownBlock = some b → bm ≤ b ∧ b < w3.heap.size) ∧ bm < g := by
    obtain ⟨D, ⟨es, clock, h1, _⟩, _⟩ := hT3.map
    exact ⟨hT3.blk.lt, lt_of_block h1, fun b e => hT3.row.lt b e, by omega⟩
  clear K2 k3 cv2 cs2 cr2 hgrp hg hbm s2 s3
  -- the box of the tally
  obtain ⟨bt, hbt⟩ : ∃ b, b = w3.heap.size := ⟨_, rfl⟩
  obtain ⟨w4, hw4⟩ : ∃ w4, w4 = w3.alloc (.cells #[.pointer (some ⟨g, 0, Option.none⟩)] 30) := ⟨_, rfl⟩
  have k4 : Keeps None w3 w4 := by rw [hw4]; exact (Keeps.refl _ _).alloc _
  have bT : Blk w4 bt 30 [.pointer (some ⟨g, 0, Option.none⟩)] := by rw [hw4, hbt]; exact Blk.new w3 30 [.pointer (some ⟨g, 0, Option.none⟩)]
  have s4 := k4.size
  have K4 := K3.trans k4
  have cv4 := k4.cell cv3 id
  have cs4 := k4.cell cs3 id
  have cr4 := cr3.grew k4
  have hT4 := hT3.grew k4
  have ct4 := bT.cell 0 _ rfl
  have hbtl : bt < w4.heap.size := bT.lt
  go_upto_block 0 with (fail)
  rw [← hw4, ← hbt]
  have hbmt : bm < bt ∧ g < bt := by omega
  have l4 : bv < w4.heap.size ∧ bs < w4.heap.size ∧ br < w4.heap.size ∧ (∀ b, v.ownBlock = some b → b < bt) := ⟨by omega, by omega, by omega, fun b e => by have := (hlt3.2.2.1 b e).2; omega⟩
  clear hw4 hbt k4 s4 hT3 cv3 cs3 cr3 K3
  have HB := Lib.hid hB
  have HK4 := Lib.hid K4
  clear K4 hB
  have cBm : ∀ W : World, Keeps (One bm) w4 W → Keeps None w W := fun W h => HK4.out.bm h (by omega)
  have CBM := Lib.hid cBm
  clear cBm
  go_wp2_with fail
  go_loopw [8] (fun x wr => ∃ (k : Nat) (got : List (Int × Int)), k ≤ vs.length / 2 ∧ x = .int .i64 k ∧ got.length ≤ k ∧ Tal wr g bm v grp need bm got ∧ Keeps (One bm) w4 wr) (fun x _ => vs.length / 2 - (intOf x).toNat)
  case atStart => exact ⟨0, [], by omega, rfl, Nat.le_refl _, hT4, Keeps.refl _ _⟩
  case round =>
    clear hT4
    obtain ⟨k, got, hk, rfl, hgo, hT, hK⟩ := hrel
    have cvr := hK.cell cv4 (fun e => by have : bv = bm := e; omega)
    have ctr := hK.cell ct4 (fun e => by have : bt = bm := e; omega)
    have hq1 : (k : Int) < (vs.length : Int) / 2 ↔ k < vs.length / 2 := by omega
    by_cases hlt : k < vs.length / 2
    · obtain ⟨x, hx⟩ : ∃ x, vs[k]? = some x := ⟨_, List.getElem?_eq_getElem (by omega)⟩
      obtain ⟨xf1, xf2⟩ := VF.out x (List.mem_of_getElem? hx)
      have hkl : k < vs.length := by omega
      have hBr : Vs wr B vs := HB.out.grew (CBM.out _ hK)
      obtain ⟨b, o, rfl, q1, q2, q3⟩ := hBr k x hx
      clear hx hBr
      go_wp2_with fail
      go_still_tail 11, (by kernel_rfl)
      change wpList _ _ _ _ _ wr.drew
      have hTq := hT.grew (Keeps.refl None wr).drew
      have hKq : Keeps (One bm) w4 wr.drew := hK.drew
      obtain ⟨wq, hwq⟩ : ∃ wq, wq = wr.drew := ⟨_, rfl⟩
      rw [← hwq] at hTq hKq ⊢
      clear hwq q1 q2 q3 hT hK cvr ctr
      go_wp2_with fail
      refine (take_any g bm v grp need bm got x.s x.x wq hTq xf1 xf2 (by omega) (by omega)).mono ?_
      rintro e w6 ⟨rfl, hT6, hk6⟩
      have hg3 := tookF_len grp need got x.s x.x
      go_wp2_with fail
      go_roundw
      case rel => exact ⟨k + 1, _, by omega, by go_num, by omega, hT6, hKq.trans hk6⟩
      case measure => simp [intOf]; omega
    · obtain rfl : k = vs.length / 2 := by omega
      have K5 := CBM.out _ hK
      have cs5 := hK.cell cs4 (fun e => by have : bs = bm := e; omega)
      have cr5 := cr4.keeps hK (fun e => by have : br = bm := e; omega)
      have s5 := hK.size
      clear cv4 cs4 cr4 ct4 hK hk hq1 hlt
      go_wp2_with fail
      refine (got_any g bm v grp need bm got wr hT WF.out (by omega)).mono ?_
      rintro e w6 ⟨va, vb, rfl, ra, rb, k6⟩
      have hal := ansF_len grp got
      have hhl : (hasF grp got).length ≤ grp.length := List.length_filter_le _ _
      obtain ⟨Aa, ca, rfl, -, na, -, la, -⟩ := ra.open_
      obtain ⟨Ab, cb, rfl, -, nb, -, lb, -⟩ := rb.open_
      obtain ⟨xs, hxs⟩ : ∃ xs, xs = hasF grp got := ⟨_, rfl⟩
      obtain ⟨ys, hys⟩ : ∃ ys, ys = ansF grp got := ⟨_, rfl⟩
      rw [← hxs, ← hys] at hal
      rw [← hxs] at hhl na ra
      rw [← hys] at nb rb
      rw [← hxs, ← hys]
      have HXS := Lib.hid hxs
      have HYS := Lib.hid hys
      have HAL := Lib.hid hal
      clear hxs hys hal
      have hT6 := hT.grew k6
      have K6 := K5.trans k6
      have cv6 := k6.cell cvr id
      have ct6 := k6.cell ctr id
      have cs6 := k6.cell cs5 id
      have cr6 := cr5.grew k6
      have s6 := k6.size
      clear hT K5 k6 cvr ctr cs5 cr5
      -- the boxes of the two lists
      obtain ⟨ba, hba⟩ : ∃ b, b = w6.heap.size := ⟨_, rfl⟩
      obtain ⟨bb, hbb⟩ : ∃ b, b = w6.heap.size + 1 := ⟨_, rfl⟩
      obtain ⟨w7, hw7⟩ : ∃ w7, w7 = (w6.alloc (.cells #[.slice Aa xs.length ca] 27)).alloc (.cells #[.slice Ab ys.length cb] 27) := ⟨_, rfl⟩
      have k7 : Keeps None w6 w7 := by rw [hw7]; exact ((Keeps.refl _ _).alloc _).alloc _
      have ca7 : w7.cell? ⟨ba, 0, Option.none⟩ = some (.slice Aa xs.length ca) := by
        rw [hw7, hba]; exact ((Blk.new w6 27 [.slice Aa xs.length ca]).alloc _).cell 0 _ rfl
      have cb7 : w7.cell? ⟨bb, 0, Option.none⟩ = some (.slice Ab ys.length cb) := by
        have := (Blk.new (w6.alloc (.cells #[.slice Aa xs.length ca] 27)) 27 [.slice Ab ys.length cb]).cell 0 _ rfl
        rw [World.size_alloc] at this
        rw [hw7, hbb]; exact this
      have hsab : w6.heap.size ≤ ba ∧ ba < bb ∧ bb < w7.heap.size := by rw [hw7]; simp; omega
      go_upto_region 11 with (fail)
      rw [← hw7, ← hbb, ← hba]
      have hT7 := hT6.grew k7
      have K7 := K6.trans k7
      have cv7 := k7.cell cv6 id
      have ct7 := k7.cell ct6 id
      have cs7 := k7.cell cs6 id
      have cr7 := cr6.grew k7
      have na7 := na.grew k7
      have nb7 := nb.grew k7
      have s7 := k7.size
      clear hT6 K6 k7 cv6 ct6 cs6 cr6 na nb hw7 hba hbb
      go_wp2_with fail
      refine (gotseq_any g bm v grp need bm got w7 hT7 WF.out (by omega)).mono ?_
      rintro e w8 ⟨rfl, ⟨v1, v2, h2⟩, k8⟩
      obtain ⟨b1, hb1⟩ : ∃ b, b = w7.heap.size := ⟨_, rfl⟩
      obtain ⟨b2, hb2⟩ : ∃ b, b = w7.heap.size + 1 := ⟨_, rfl⟩
      rw [← hb2, ← hb1] at h2
      rw [← HXS.out, ← HYS.out] at h2
      rw [← hb2, ← hb1]
      have hT8 := hT7.grew k8
      have K8 := K7.trans k8
      have cv8 := k8.cell cv7 id
      have ct8 := k8.cell ct7 id
      have cs8 := k8.cell cs7 id
      have cr8 := cr7.grew k8
      have ca8 := k8.cell ca7 id
      have cb8 := k8.cell cb7 id
      have na8 := na7.grew k8
      have nb8 := nb7.grew k8
      have s8 := k8.size
      clear hT7 K7 k8 cv7 ct7 cs7 cr7 na7 nb7 ca7 cb7
      obtain ⟨A1, d1, rfl, -, hn1, -, hl1, -⟩ := h2.row1.open_
      obtain ⟨A2, d2, rfl, -, hn2, -, hl2, -⟩ := h2.row2.open_
      obtain ⟨n0, hn0⟩ : ∃ n0, n0 = w8.heap.size := ⟨_, rfl⟩
      have hLow : Low n0 w8 b1 b2 A1 d1 A2 d2 xs ys := ⟨h2.blk1.cell 0 _ rfl, h2.blk2.cell 0 _ rfl, hn1, hn2, by rw [hn0]; exact ⟨h2.blk1.lt, h2.blk2.lt⟩, fun b o e => by rw [hn0]; exact (hl1 b o e).2.2, fun b o e => by rw [hn0]; exact (hl2 b o e).2.2⟩
      have hne : b1 ≠ bm ∧ b2 ≠ bm ∧ (∀ b o, A1 = some ⟨b, o, Option.none⟩ → b ≠ bm) ∧ (∀ b o, A2 = some ⟨b, o, Option.none⟩ → b ≠ bm) := ⟨by omega, by omega, fun b o e => by have := (hl1 b o e).2.1; omega, fun b o e => by have := (hl2 b o e).2.1; omega⟩
      have HNE := Lib.hid hne
      have HLOW := Lib.hid hLow
      have hn0' : n0 ≤ w8.heap.size ∧ w8.heap.size ≤ n0 := by omega
      have hb12 : w7.heap.size ≤ b1 ∧ b1 < b2 ∧ b2 < n0 := by have := hLow.lt; omega
      clear hLow hne hn1 hn2 hl1 hl2 h2 hb1 hb2 hn0
      obtain ⟨SQ, hSQ⟩ : ∃ SQ, SQ = Value.func (.func 50) #[] #[.pointer (some ⟨b1, 0, Option.none⟩), .pointer (some ⟨b2, 0, Option.none⟩)] := ⟨_, rfl⟩
      obtain ⟨bq, hbq⟩ : ∃ b, b = w8.heap.size := ⟨_, rfl⟩
      obtain ⟨w9, hw9⟩ : ∃ w9, w9 = w8.alloc (.cells #[SQ] 46) := ⟨_, rfl⟩
      have k9 : Keeps None w8 w9 := by rw [hw9]; exact (Keeps.refl _ _).alloc _
      have cq9 : w9.cell? ⟨bq, 0, Option.none⟩ = some SQ := by rw [hw9, hbq]; exact (Blk.new w8 46 [SQ]).cell 0 _ rfl
      rw [hSQ] at hw9 cq9
      have hbql : bq < w9.heap.size := by rw [hw9, hbq]; simp
      have hbql2 : n0 ≤ bq := by omega
      have HW9 := Lib.hid hw9
      have HBQ := Lib.hid hbq
      clear hw9 hbq hSQ
      go_upto_region 12 with (fail)
      rw [← HW9.out, ← HBQ.out]
      have hT9 := hT8.grew k9
      have K9 := K8.trans k9
      have cv9 := k9.cell cv8 id
      have ct9 := k9.cell ct8 id
      have cs9 := k9.cell cs8 id
      have cr9 := cr8.grew k9
      have ca9 := k9.cell ca8 id
      have cb9 := k9.cell cb8 id
      have na9 := na8.grew k9
      have nb9 := nb8.grew k9
      have s9 := k9.size
      have HL9 := Lib.hid ((HLOW.out).below (k9.to_below.mono hn0'.1))
      clear hT8 K8 k9 cv8 ct8 cs8 cr8 na8 nb8 ca8 cb8 HLOW HW9 HBQ
      have hq := eq_nilFunc w9 (.func 50) #[] #[.pointer (some ⟨b1, 0, Option.none⟩), .pointer (some ⟨b2, 0, Option.none⟩)]
      go_upto_region 14 with (fail)
      clear hq
      obtain ⟨bn, hbn⟩ : ∃ b, b = w9.heap.size := ⟨_, rfl⟩
      obtain ⟨W0, hW0⟩ : ∃ W0, W0 = w9.alloc (.cells #[.int .i64 0] 3) := ⟨_, rfl⟩
      have k0 : Keeps None w9 W0 := by rw [hW0]; exact (Keeps.refl _ _).alloc _
      have cn0 : Blk W0 bn 3 [.int .i64 0] := by rw [hW0, hbn]; exact Blk.new w9 3 [.int .i64 0]
      have hbnl : bn < W0.heap.size := by rw [hW0, hbn]; simp
      have hbnl2 : n0 ≤ bn ∧ w9.heap.size ≤ bn := by omega
      have HW0 := Lib.hid hW0
      have HBN := Lib.hid hbn
      clear hW0 hbn
      go_upto_region 15 with (fail)
      rw [← HW0.out, ← HBN.out]
      have hT0 := hT9.grew k0
      have K0 := K9.trans k0
      have cv0 := k0.cell cv9 id
      have ct0 := k0.cell ct9 id
      have cs0 := k0.cell cs9 id
      have cr0 := cr9.grew k0
      have ca0 := k0.cell ca9 id
      have cb0 := k0.cell cb9 id
      have cq0 := k0.cell cq9 id
      have na0 := na9.grew k0
      have nb0 := nb9.grew k0
      have s0 := k0.size
      have HL0 := Lib.hid ((HL9.out).below (k0.to_below.mono (by omega)))
      clear hT9 K9 k0 cv9 ct9 cs9 cr9 na9 nb9 ca9 cb9 cq9 HW0 HBN HL9
      go_wp2_with fail
      have hbml : bm < W0.heap.size ∧ g < W0.heap.size ∧ (∀ b, v.ownBlock = some b → b < W0.heap.size) := ⟨by omega, by omega, fun b e => by have := l4.2.2.2 b e; omega⟩
      have hml : vs.length ≤ 5864062014806 := by omega
      obtain ⟨Z, hZ⟩ : ∃ Z, Z = xs.zip ys := ⟨_, rfl⟩
      have hZl : Z.length = xs.length := by rw [hZ, List.length_zip, HAL.out, Nat.min_self]
      have HZ := Lib.hid hZ
      have HZL := Lib.hid hZl
      clear hZ hZl
      have hTO : OwnFrom W0.heap.size (fun (pre : List (Int × Int)) W => ∃ got', got'.length ≤ vs.length + pre.length ∧ Tal W g bm v grp need bm got') := by
        rintro pre X Y row ⟨got', h1, h2⟩ hg hr
        have hk : Keeps (fun k => row = some k) X Y := (Keeps.refl _ _).grown hg (fun k e _ => e)
        exact ⟨got', h1, h2.keeps hk (fun e => by have := (hr _ e).1; omega) (fun e => by have := (hr _ e).1; omega) (fun b e f => by have := (hr _ f).1; have := hbml.2.2 b e; omega)⟩
      have HTO := Lib.hid hTO
      clear hTO
      refine (wpIn_wide (n := 8)).1 ?_
      refine wpIn_rangeFunc_ownH (F := Fence.wide) rfl (by omega) (gf := 50) (lb := #[.pointer (some ⟨b1, 0, Option.none⟩), .pointer (some ⟨b2, 0, Option.none⟩)]) rfl trivial (enters_of Try.func50 (by kernel_rfl) rfl)
        (seqK_stops Fence.wide 7 trivial rfl (by omega) b1 b2 n0 bm A1 d1 A2 d2 xs ys HAL.out (by omega) HNE.out W0 (by omega) HL0.out) KpB.trans (fun W l o o' h1 h2 _ _ => KpB.putObj W l o o' (by omega) h2) (Below.refl _ _) (fun _ => rfl)
        (fun pre W => ((Keeps (fun k => k = bm ∨ k = bn) W0 W ∧ Blk W bn 3 [.int .i64 (pre.length : Int)]) ∧ ∃ got', got'.length ≤ vs.length + pre.length ∧ Tal W g bm v grp need bm got') ∧ pre <+: Z)
        (fun c pre _ => c = .ret ∧ ¬ pre <+: Z)
        (OwnFrom.and (OwnFrom.and (OwnFrom.and (ownFrom_keeps (Nat.le_refl _)) (ownFrom_blk 3 (fun (pre : List (Int × Int)) => [.int .i64 (pre.length : Int)]) hbnl)) HTO.out) (ownFrom_pure _ _))
        (fun c => ownFrom_pure _ _)
        ⟨⟨⟨Keeps.refl _ _, cn0⟩, got, by omega, hT0⟩, List.nil_prefix⟩
        (fun x a' _ => a' = { tmps := #[Value.slice A zs.length cap, Value.slice B vs.length cap', Value.int IntKind.i64 stop, undef, Value.pointer (some { block := bv, off := 0 }), Value.pointer (some { block := bs, off := 0 }), Value.pointer (some { block := br, off := 0 }), Value.pointer (some { block := bt, off := 0 }), Value.int IntKind.i64 (↑vs.length / 2), Value.pointer (some { block := ba, off := 0 }), Value.pointer (some { block := bb, off := 0 }), Value.bool true, Value.pointer (some { block := bq, off := 0 }), Value.pointer (some { block := bn, off := 0 }), .int .i64 x.1, .int .i64 x.2, undef, undef, undef, undef, undef, undef, Value.bool true, Value.bool false, Value.slice A zs.length cap, Value.slice A zs.length cap, Value.int IntKind.i64 ↑zs.length, Value.int IntKind.i64 (↑zs.length + 1), Value.pointer (some { block := g, off := 0 }), Value.pointer (some { block := g, off := 0 }), Value.bool false, Value.int IntKind.i64 (↑vs.length / 2), Value.slice B vs.length cap', Value.int IntKind.i64 ↑vs.length, Value.int IntKind.i64 (↑vs.length / 2), Value.bool false, u36, u37, u38, u39, u40, u41, u42, u43, u44, u45, u46, u47, u48, u49, Value.tuple #[Value.slice Aa xs.length ca, Value.slice Ab ys.length cb, Value.bool true], Value.pointer (some { block := g, off := 0 }), Value.tuple #[Value.slice Aa xs.length ca, Value.slice Ab ys.length cb, Value.bool true], Value.slice Aa xs.length ca, Value.slice Ab ys.length cb, Value.bool true, Value.pointer (some { block := g, off := 0 }), Value.func (Fn.func 50) #[] #[Value.pointer (some { block := b1, off := 0 }), Value.pointer (some { block := b2, off := 0 })], Value.bool true, Value.bool false, Value.bool false, Value.func (Fn.func 50) #[] #[Value.pointer (some { block := b1, off := 0 }), Value.pointer (some { block := b2, off := 0 })], Value.bool false, Value.bool false, Value.func (Fn.func 50) #[] #[Value.pointer (some { block := b1, off := 0 }), Value.pointer (some { block := b2, off := 0 })], .int .i64 x.1, .int .i64 x.2, undef, undef, undef, undef, undef, undef, undef, undef, undef, undef, undef, undef, undef, undef, undef, undef, undef, undef, undef, undef, undef, undef, undef, undef, undef, undef, undef, undef, undef, undef, undef, undef, undef, undef, undef, undef, undef, undef, undef, undef, undef, undef, undef, undef, undef, undef, undef, undef, undef, undef, undef, undef, undef, undef, undef, undef, undef, undef, undef, undef, undef, undef, undef, undef, undef, undef, undef, undef, undef, undef, undef, undef, undef, undef, undef, undef, undef, undef, undef, undef, undef, undef, undef, undef, undef, undef, undef, undef, undef, undef, undef, undef, undef, undef, undef, undef, undef, undef, undef, undef, undef, undef, undef, undef, undef], defers := [] })
        (fun _ _ => ownFrom_pure _ _) ?assign ?body ?done ?stop
      case assign =>
        intro l pre x W K hi hK
        gi_wp2
        exact hK _ _ (KeepsFrom.refl _ _) (KpB.refl _ _ _) hi rfl
      case body =>
        rintro l pre x a' W hl ⟨r, hr⟩ ⟨⟨⟨hK, hcn⟩, ⟨got1, hgl1, hT1⟩⟩, hpre⟩ rfl hlt
        have HPRE := Lib.hid hpre
        have sW := hK.size
        have cnW := hcn.cell 0 _ rfl
        have no : ∀ b, b ≠ bm → b ≠ bn → ¬ (b = bm ∨ b = bn) := fun b h1 h2 e => e.elim h1 h2
        have cvW := hK.cell cv0 (no bv (by omega) (by omega))
        have ctW := hK.cell ct0 (no bt (by omega) (by omega))
        have csW := hK.cell cs0 (no bs (by omega) (by omega))
        have crW := cr0.keeps hK (no br (by omega) (by omega))
        have caW := hK.cell ca0 (no ba (by omega) (by omega))
        have cbW := hK.cell cb0 (no bb (by omega) (by omega))
        have cqW := hK.cell cq0 (no bq (by omega) (by omega))
        have naW := na0.keeps hK (fun b o e => no b (by have := (la b o e).2; omega) (by have := (la b o e).2; omega))
        have nbW := nb0.keeps hK (fun b o e => no b (by have := (lb b o e).2; omega) (by have := (lb b o e).2; omega))
        obtain ⟨y1, e1, o1, rfl, hc1, hy1⟩ := naW.get pre.length hlt
        obtain ⟨y2, e2, o2, rfl, hc2, hy2⟩ := nbW.get pre.length (by rw [HAL.out]; exact hlt)
        have hlt2 : pre.length < ys.length := by rw [HAL.out]; exact hlt
        have hZx : Hid (Z[pre.length]? = some (y1, y2)) := Lib.hid (by rw [HZ.out]; exact (List.getElem?_zip_eq_some (z := (y1, y2))).2 ⟨hy1.out, hy2.out⟩)
        have hno : Hid (pre ++ [x] <+: Z → x = (y1, y2)) := Lib.hid (fun ⟨t, ht⟩ => by
          have := hZx.out
          rw [← ht, List.append_assoc, List.getElem?_append_right (Nat.le_refl _), Nat.sub_self] at this
          simpa using this)
        clear hy1 hy2 hpre
        have crf := crW.free 0
        have crc := crW.cell 0 _ rfl
        have hd : decide (xs.length ≤ pre.length) = false := by simp; omega
        by_cases hx1 : x.1 = y1
        · obtain ⟨t1, t2⟩ := test_eq hx1
          by_cases hx2 : x.2 = y2
          · obtain ⟨t3, t4⟩ := test_eq hx2
            have hpn : pre ++ [x] <+: Z := by
              obtain ⟨t, ht⟩ := HPRE.out
              refine ⟨Z.drop (pre.length + 1), ?_⟩
              have e1 : Z.take (pre.length + 1) = pre ++ [x] := by
                rw [take_succ_of hZx.out, ← ht, List.take_left, ← hx1, ← hx2]
              rw [← e1, List.take_append_drop]
            have HPN := Lib.hid hpn
            clear hpn hx1 hx2 hno
            obtain ⟨bx, hbx⟩ : ∃ b, b = W.heap.size := ⟨_, rfl⟩
            obtain ⟨Wi, hWi⟩ : ∃ Wi, Wi = W.alloc (.cells #[.int .i64 0] 3) := ⟨_, rfl⟩
            have ki : Keeps None W Wi := by rw [hWi]; exact (Keeps.refl _ _).alloc _
            have cxi : Blk Wi bx 3 [.int .i64 0] := by rw [hWi, hbx]; exact Blk.new W 3 [.int .i64 0]
            have hr' : Wi.heap[l]? = some (.loop r) := by rw [hWi]; exact (Below.heap_alloc W _ l (Array.getElem?_eq_some_iff.1 hr).1).trans hr
            have HBX := Lib.hid hbx
            have HWI := Lib.hid hWi
            clear hbx hWi
            have cqi := ki.cell cqW id
            rw [HWI.out] at cqi
            gi_wp2
            rw [← HWI.out, ← HBX.out]
            rw [← HWI.out] at cqi
            have bxs : W.heap.size ≤ bx ∧ bx < Wi.heap.size := by have := cxi.lt; have := HBX.out; omega
            have si := ki.size
            have csi := ki.cell csW id
            have cai := ki.cell caW id
            have cbi := ki.cell cbW id
            have cri := crW.grew ki
            have nai := naW.grew ki
            have nbi := nbW.grew ki
            have hlb : ba < Wi.heap.size ∧ bb < Wi.heap.size ∧ bs < Wi.heap.size ∧ br < Wi.heap.size := by omega
            have hle : e1 ≠ bx ∧ e2 ≠ bx := ⟨by have := (la e1 o1 rfl).2; omega, by have := (lb e2 o2 rfl).2; omega⟩
            have hLi := Lib.hid ((HL0.out).kpb (Keeps.trans (hK.mono (fun i _ e => e.imp id (fun e => by have e : i = bn := e; omega))) (ki.of_none)) HNE.out)
            refine wpIn_rangeFunc_ownN (F := Fence.wide.inRound l) (l₀ := l) (r₀ := r) rfl hr' (by omega) (gf := 50) (lb := #[.pointer (some ⟨b1, 0, Option.none⟩), .pointer (some ⟨b2, 0, Option.none⟩)]) rfl trivial (enters_of Try.func50 (by kernel_rfl) rfl)
              ((seqK_stops Fence.wide (8 - 1 - 1 - 1) trivial rfl (by omega) b1 b2 n0 bm _ d1 _ d2 xs ys HAL.out (by omega) HNE.out Wi (by omega) hLi.out).inRound l) KpB.trans (fun W l o o' h1 h2 _ _ => KpB.putObj W l o o' (by omega) h2) (Below.refl _ _) (fun _ => rfl)
              (fun pre2 W2 => (Keeps (One bx) Wi W2 ∧ Blk W2 bx 3 [.int .i64 (pre2.length : Int)]) ∧ pre2 <+: Z)
              (fun c pre2 W2 => (c = .exit 4 ∧ Keeps (One bx) Wi W2) ∨ (c = .ret ∧ ¬ pre2 <+: Z))
              (OwnFrom.and (OwnFrom.and (ownFrom_keeps (Nat.le_refl _)) (ownFrom_blk 3 (fun (pre : List (Int × Int)) => [.int .i64 (pre.length : Int)]) bxs.2)) (ownFrom_pure _ _))
              (fun c s X Y row hs hg hr => hs.imp (fun h => ⟨h.1, ownFrom_keeps (β := Unit) (Nat.le_refl _) () X Y row h.2 hg hr⟩) id)
              ⟨⟨Keeps.refl _ _, cxi⟩, List.nil_prefix⟩
              (fun u a' _ => a' = { tmps := #[Value.slice A zs.length cap, Value.slice B vs.length cap', Value.int IntKind.i64 stop, undef, Value.pointer (some { block := bv, off := 0 }), Value.pointer (some { block := bs, off := 0 }), Value.pointer (some { block := br, off := 0 }), Value.pointer (some { block := bt, off := 0 }), Value.int IntKind.i64 (↑vs.length / 2), Value.pointer (some { block := ba, off := 0 }), Value.pointer (some { block := bb, off := 0 }), Value.bool true, Value.pointer (some { block := bq, off := 0 }), Value.pointer (some { block := bn, off := 0 }), Value.int IntKind.i64 x.fst, Value.int IntKind.i64 x.snd, Value.pointer (some { block := bx, off := 0 }), .int .i64 u.1, .int .i64 u.2, undef, undef, undef, Value.bool true, Value.bool false, Value.slice A zs.length cap, Value.slice A zs.length cap, Value.int IntKind.i64 ↑zs.length, Value.int IntKind.i64 (↑zs.length + 1), Value.pointer (some { block := g, off := 0 }), Value.pointer (some { block := g, off := 0 }), Value.bool false, Value.int IntKind.i64 (↑vs.length / 2), Value.slice B vs.length cap', Value.int IntKind.i64 ↑vs.length, Value.int IntKind.i64 (↑vs.length / 2), Value.bool false, u36, u37, u38, u39, u40, u41, u42, u43, u44, u45, u46, u47, u48, u49, Value.tuple #[Value.slice (some { block := e1, off := o1 }) xs.length ca, Value.slice (some { block := e2, off := o2 }) ys.length cb, Value.bool true], Value.pointer (some { block := g, off := 0 }), Value.tuple #[Value.slice (some { block := e1, off := o1 }) xs.length ca, Value.slice (some { block := e2, off := o2 }) ys.length cb, Value.bool true], Value.slice (some { block := e1, off := o1 }) xs.length ca, Value.slice (some { block := e2, off := o2 }) ys.length cb, Value.bool true, Value.pointer (some { block := g, off := 0 }), Value.func (Fn.func 50) #[] #[Value.pointer (some { block := b1, off := 0 }), Value.pointer (some { block := b2, off := 0 })], Value.bool true, Value.bool false, Value.bool false, Value.func (Fn.func 50) #[] #[Value.pointer (some { block := b1, off := 0 }), Value.pointer (some { block := b2, off := 0 })], Value.bool false, Value.bool false, Value.func (Fn.func 50) #[] #[Value.pointer (some { block := b1, off := 0 }), Value.pointer (some { block := b2, off := 0 })], Value.int IntKind.i64 x.fst, Value.int IntKind.i64 x.snd, Value.int IntKind.i64 ↑pre.length, Value.slice (some { block := e1, off := o1 }) xs.length ca, Value.int IntKind.i64 ↑xs.length, Value.bool false, Value.bool false, Value.int IntKind.i64 x.fst, Value.slice (some { block := e1, off := o1 }) xs.length ca, Value.int IntKind.i64 ↑pre.length, Value.pointer (some { block := e1, off := o1 + pre.length }), Value.int IntKind.i64 y1, Value.bool false, Value.bool false, Value.bool false, Value.int IntKind.i64 x.snd, Value.slice (some { block := e2, off := o2 }) ys.length cb, Value.int IntKind.i64 ↑pre.length, Value.pointer (some { block := e2, off := o2 + pre.length }), Value.int IntKind.i64 y2, Value.bool false, Value.bool false, Value.func (Fn.func 50) #[] #[Value.pointer (some { block := b1, off := 0 }), Value.pointer (some { block := b2, off := 0 })], .int .i64 u.1, .int .i64 u.2, undef, undef, undef, undef, undef, undef, undef, undef, undef, undef, undef, undef, undef, undef, undef, undef, undef, undef, undef, undef, undef, undef, undef, undef, undef, undef, undef, undef, undef, undef, undef, undef, undef, undef, undef, undef, undef, undef, undef, undef, undef, undef, undef, undef, undef, undef, undef, undef, undef, undef, undef, undef, undef, undef, undef, undef, undef, undef, undef, undef, undef, undef, undef, undef, undef, undef, undef, undef, undef, undef, undef, undef, undef, undef, undef, undef, undef, undef, undef, undef, undef, undef], defers := [] })
              (fun _ _ => ownFrom_pure _ _) ?assign2 ?body2 ?done2 ?stop2
            case assign2 =>
              intro l2 pre2 u W2 K hi hK'
              gi_wp2
              exact hK' _ _ (KeepsFrom.refl _ _) (KpB.refl _ _ _) hi rfl
            case body2 =>
              rintro l2 pre2 u a'' W2 _ _ ⟨⟨hK2, hcx⟩, hpre2⟩ rfl hltb
              have HPRE2 := Lib.hid hpre2
              have cs2 := hK2.cell csi (fun e => by have e : bs = bx := e; omega)
              have ca2 := hK2.cell cai (fun e => by have e : ba = bx := e; omega)
              have cb2 := hK2.cell cbi (fun e => by have e : bb = bx := e; omega)
              have cr2 := cri.keeps hK2 (fun e => by have e : br = bx := e; omega)
              obtain ⟨z1, e3, o3, e4, hc3, hy3⟩ := (nai.keeps hK2 (fun b o e f => by cases e; exact hle.1 f)).get pre2.length hltb
              cases e4
              obtain ⟨z2, e5, o5, e6, hc4, hy4⟩ := (nbi.keeps hK2 (fun b o e f => by cases e; exact hle.2 f)).get pre2.length (by rw [HAL.out]; exact hltb)
              cases e6
              have hltb2 : pre2.length < ys.length := by rw [HAL.out]; exact hltb
              have hZx2 : Hid (Z[pre2.length]? = some (z1, z2)) := Lib.hid (by rw [HZ.out]; exact (List.getElem?_zip_eq_some (z := (z1, z2))).2 ⟨hy3.out, hy4.out⟩)
              have hno2 : Hid (pre2 ++ [u] <+: Z → u = (z1, z2)) := Lib.hid (fun ⟨t, ht⟩ => by
                have := hZx2.out
                rw [← ht, List.append_assoc, List.getElem?_append_right (Nat.le_refl _), Nat.sub_self] at this
                simpa using this)
              have crf2 := cr2.free 0
              have crc2 := cr2.cell 0 _ rfl
              have cxc := hcx.cell 0 _ rfl
              have cxf := hcx.free 0
              have hd2 : decide (xs.length ≤ pre2.length) = false := by simp; omega
              clear hy3 hy4 hpre2
              by_cases hx1 : u.1 = z1
              · obtain ⟨p1, p2⟩ := test_eq hx1
                by_cases hx2 : u.2 = z2
                · obtain ⟨p3, p4⟩ := test_eq hx2
                  have hpn2 : pre2 ++ [u] <+: Z := by
                    obtain ⟨t, ht⟩ := HPRE2.out
                    refine ⟨Z.drop (pre2.length + 1), ?_⟩
                    have e1 : Z.take (pre2.length + 1) = pre2 ++ [u] := by
                      rw [take_succ_of hZx2.out, ← ht, List.take_left, ← hx1, ← hx2]
                    rw [← e1, List.take_append_drop]
                  have HPN2 := Lib.hid hpn2
                  clear hpn2 hx1 hx2 hno2
                  have e1 : (((pre2 ++ [u]).length : Nat) : Int) = (pre2.length : Int) + 1 := by simp
                  have E1 := Lib.hid e1
                  clear e1
                  by_cases hst : stop < (pre2.length : Int) + 1
                  · gi_wp2
                    exact ⟨(KeepsOthers.setCell _ _ _).from _, .inl ⟨rfl, hK2.setCell ⟨bx, 0, Option.none⟩ _ (fun _ => rfl)⟩⟩
                  · gi_wp2
                    exact ⟨(KeepsOthers.setCell _ _ _).from _, (Keeps.refl _ _).setCell ⟨bx, 0, Option.none⟩ _ (fun _ => Or.inr (by show n0 ≤ bx; omega)), ⟨⟨hK2.setCell ⟨bx, 0, Option.none⟩ _ (fun _ => rfl), by rw [E1.out]; exact hcx.set 0 _⟩, HPN2.out⟩⟩
                · obtain ⟨p3, p4⟩ := test_ne hx2
                  have hnp : ¬ (pre2 ++ [u] <+: Z) := fun h => hx2 (by rw [hno2.out h])
                  have HNP := Lib.hid hnp
                  clear hnp hx1 hx2 hno2
                  gi_wp2
                  exact ⟨(KeepsOthers.setCell _ _ _).from _, .inr ⟨rfl, HNP.out⟩⟩
              · obtain ⟨p1, p2⟩ := test_ne hx1
                have hnp : ¬ (pre2 ++ [u] <+: Z) := fun h => hx1 (by rw [hno2.out h])
                have HNP := Lib.hid hnp
                clear hnp hx1 hno2
                gi_wp2
                exact ⟨(KeepsOthers.setCell _ _ _).from _, .inr ⟨rfl, HNP.out⟩⟩
            case done2 =>
              rintro zs2 W2 _ ⟨⟨hK2, -⟩, -⟩
              have kW2 : Keeps None W W2 := ki.andThen hK2 (fun i hi e => by have e : i = bx := e; omega)
              have kwW : Keeps None w W2 := (K0.andThen hK (fun i hi e => by rcases e with e | e <;> omega)).trans kW2
              have cn2 := hcn.grew kW2
              have cv2 := kW2.cell cvW id
              have ct2 := kW2.cell ctW id
              have hT2 := hT1.grew kW2
              have c0 := cn2.cell 0 _ rfl
              have f0 := cn2.free 0
              have e1 : (((pre ++ [x]).length : Nat) : Int) = (pre.length : Int) + 1 := by simp
              have E1 := Lib.hid e1
              clear e1
              by_cases hq : pre.length < vs.length - vs.length / 2
              · have hq1 : decide ((pre.length : Int) < (vs.length : Int) - (vs.length : Int) / 2) = true := by simp; omega
                obtain ⟨xv, hxv⟩ : ∃ xv, vs[vs.length / 2 + pre.length]? = some xv := ⟨_, List.getElem?_eq_getElem (by omega)⟩
                obtain ⟨xf1, xf2⟩ := VF.out xv (List.mem_of_getElem? hxv)
                obtain ⟨bz, oz, rfl, q1, q2, q3⟩ := (HB.out.grew kwW) _ _ hxv
                clear hxv
                have hidx : (vs.length / 2 + pre.length) < vs.length := by omega
                have hi2 : 0 ≤ (vs.length : Int) / 2 + (pre.length : Int) := by omega
                have hi3 : (vs.length : Int) / 2 + (pre.length : Int) < (vs.length : Int) := by omega
                have hi1 : ((vs.length : Int) / 2 + (pre.length : Int)).toNat = vs.length / 2 + pre.length := by omega
                have hKb : ∀ W3 : World, Keeps (One bm) W2 W3 → Keeps (fun k => k = bm ∨ k = bn) W W3 := fun _ h => (kW2.of_none).trans (h.mono fun i _ e => Or.inl e)
                have HKB := Lib.hid hKb
                clear hKb
                have kv3 : Keeps None W2 (W2.alloc (.cells #[.int .i64 xv.s, .int .i64 xv.x, .bool xv.look] 37)) := (Keeps.refl _ _).alloc _
                have ct3 := kv3.cell ct2 id
                have bz3 : Blk (W2.alloc (.cells #[.int .i64 xv.s, .int .i64 xv.x, .bool xv.look] 37)) W2.heap.size 37 [.int .i64 xv.s, .int .i64 xv.x, .bool xv.look] := Blk.new W2 _ _
                have z0 := bz3.cell 0 _ rfl
                have z1 := bz3.cell 1 _ rfl
                have hT3 := hT2.grew kv3
                have KV3 := Lib.hid kv3
                clear kv3 bz3
                gi_wp2_with (refine ⟨trivial, ?_⟩; gi_at_call 19; refine (CallsIn.inRound l (callsIn_wide.2 (take_any g bm v grp need bm got1 xv.s xv.x _ hT3 xf1 xf2 (by omega) (by omega)))).mono ?_; rintro e w6 ⟨rfl, hT6, hk6⟩; have k6 : Keeps (One bm) W2 w6 := (KV3.out.of_none).trans hk6; have c6 := (cn2.keeps k6 (fun e => by have e : bn = bm := e; omega)); have c7 := c6.cell 0 _ rfl; have f7 := c6.free 0)
                have KW6 := HKB.out _ k6
                have hlt6 := tookF_len grp need got1 xv.s xv.x
                refine ⟨?_, ?_, ⟨⟨?_, ?_⟩, tookF grp need got1 xv.s xv.x, ?_, ?_⟩, HPN.out⟩
                · exact (KW6.setCell (S := fun k => k = bm ∨ k = bn) ⟨bn, 0, Option.none⟩ _ (fun _ => Or.inr rfl)).from fun k o e h _ => by rcases e with e | e <;> omega
                · exact Keeps.setCell (KW6.mono fun i _ e => e.imp id (fun e => by have e : i = bn := e; omega)) ⟨bn, 0, Option.none⟩ _ (fun _ => Or.inr hbnl2.1)
                · exact (hK.trans KW6).setCell ⟨bn, 0, Option.none⟩ _ (fun _ => Or.inr rfl)
                · rw [E1.out]; exact c6.set 0 _
                · rw [List.length_append]; exact Nat.le_trans hlt6 (by simp; omega)
                · exact hT6.keeps (S := One bn) ((Keeps.refl _ _).setCell _ _ (fun _ => rfl)) (fun e => by have e : g = bn := e; omega) (fun e => by have e : bm = bn := e; omega) (fun b e f => by have f : b = bn := f; have := hbml.2.2 b e; have := l4.2.2.2 b e; omega)
              · have hq1 : decide ((pre.length : Int) < (vs.length : Int) - (vs.length : Int) / 2) = false := by simp; omega
                gi_wp2
                refine ⟨?_, ?_, ⟨⟨?_, ?_⟩, got1, ?_, ?_⟩, HPN.out⟩
                · exact (kW2.of_none.setCell (S := One bn) ⟨bn, 0, Option.none⟩ _ (fun _ => rfl)).from fun k o e h _ => by have e : k = bn := e; omega
                · exact (kW2.of_none.setCell ⟨bn, 0, Option.none⟩ _ (fun _ => Or.inr hbnl2.1))
                · exact (hK.trans kW2.of_none).setCell ⟨bn, 0, Option.none⟩ _ (fun _ => Or.inr rfl)
                · rw [E1.out]; exact cn2.set 0 _
                · rw [List.length_append]; omega
                · exact hT2.keeps (S := One bn) ((Keeps.refl _ _).setCell _ _ (fun _ => rfl)) (fun e => by have e : g = bn := e; omega) (fun e => by have e : bm = bn := e; omega) (fun b e f => by have f : b = bn := f; have := hbml.2.2 b e; have := l4.2.2.2 b e; omega)
            case stop2 =>
              rintro c pre2 W2 hSp (⟨rfl, hK2⟩ | ⟨-, hn⟩)
              · clear hSp
                have kW2 : Keeps None W W2 := ki.andThen hK2 (fun i hi e => by have e : i = bx := e; omega)
                have kwW : Keeps None w W2 := (K0.andThen hK (fun i hi e => by rcases e with e | e <;> omega)).trans kW2
                have cn2 := hcn.grew kW2
                have cv2 := kW2.cell cvW id
                have ct2 := kW2.cell ctW id
                have hT2 := hT1.grew kW2
                have c0 := cn2.cell 0 _ rfl
                have f0 := cn2.free 0
                have e1 : (((pre ++ [x]).length : Nat) : Int) = (pre.length : Int) + 1 := by simp
                have E1 := Lib.hid e1
                clear e1
                by_cases hq : pre.length < vs.length - vs.length / 2
                · have hq1 : decide ((pre.length : Int) < (vs.length : Int) - (vs.length : Int) / 2) = true := by simp; omega
                  obtain ⟨xv, hxv⟩ : ∃ xv, vs[vs.length / 2 + pre.length]? = some xv := ⟨_, List.getElem?_eq_getElem (by omega)⟩
                  obtain ⟨xf1, xf2⟩ := VF.out xv (List.mem_of_getElem? hxv)
                  obtain ⟨bz, oz, rfl, q1, q2, q3⟩ := (HB.out.grew kwW) _ _ hxv
                  clear hxv
                  have hidx : (vs.length / 2 + pre.length) < vs.length := by omega
                  have hi2 : 0 ≤ (vs.length : Int) / 2 + (pre.length : Int) := by omega
                  have hi3 : (vs.length : Int) / 2 + (pre.length : Int) < (vs.length : Int) := by omega
                  have hi1 : ((vs.length : Int) / 2 + (pre.length : Int)).toNat = vs.length / 2 + pre.length := by omega
                  have hKb : ∀ W3 : World, Keeps (One bm) W2 W3 → Keeps (fun k => k = bm ∨ k = bn) W W3 := fun _ h => (kW2.of_none).trans (h.mono fun i _ e => Or.inl e)
                  have HKB := Lib.hid hKb
                  clear hKb
                  have kv3 : Keeps None W2 (W2.alloc (.cells #[.int .i64 xv.s, .int .i64 xv.x, .bool xv.look] 37)) := (Keeps.refl _ _).alloc _
                  have ct3 := kv3.cell ct2 id
                  have bz3 : Blk (W2.alloc (.cells #[.int .i64 xv.s, .int .i64 xv.x, .bool xv.look] 37)) W2.heap.size 37 [.int .i64 xv.s, .int .i64 xv.x, .bool xv.look] := Blk.new W2 _ _
                  have z0 := bz3.cell 0 _ rfl
                  have z1 := bz3.cell 1 _ rfl
                  have hT3 := hT2.grew kv3
                  have KV3 := Lib.hid kv3
                  clear kv3 bz3
                  gi_wp2_with (refine ⟨trivial, ?_⟩; gi_at_call 19; refine (CallsIn.inRound l (callsIn_wide.2 (take_any g bm v grp need bm got1 xv.s xv.x _ hT3 xf1 xf2 (by omega) (by omega)))).mono ?_; rintro e w6 ⟨rfl, hT6, hk6⟩; have k6 : Keeps (One bm) W2 w6 := (KV3.out.of_none).trans hk6; have c6 := (cn2.keeps k6 (fun e => by have e : bn = bm := e; omega)); have c7 := c6.cell 0 _ rfl; have f7 := c6.free 0)
                  have KW6 := HKB.out _ k6
                  have hlt6 := tookF_len grp need got1 xv.s xv.x
                  refine ⟨?_, ?_, ⟨⟨?_, ?_⟩, tookF grp need got1 xv.s xv.x, ?_, ?_⟩, HPN.out⟩
                  · exact (KW6.setCell (S := fun k => k = bm ∨ k = bn) ⟨bn, 0, Option.none⟩ _ (fun _ => Or.inr rfl)).from fun k o e h _ => by rcases e with e | e <;> omega
                  · exact Keeps.setCell (KW6.mono fun i _ e => e.imp id (fun e => by have e : i = bn := e; omega)) ⟨bn, 0, Option.none⟩ _ (fun _ => Or.inr hbnl2.1)
                  · exact (hK.trans KW6).setCell ⟨bn, 0, Option.none⟩ _ (fun _ => Or.inr rfl)
                  · rw [E1.out]; exact c6.set 0 _
                  · rw [List.length_append]; exact Nat.le_trans hlt6 (by simp; omega)
                  · exact hT6.keeps (S := One bn) ((Keeps.refl _ _).setCell _ _ (fun _ => rfl)) (fun e => by have e : g = bn := e; omega) (fun e => by have e : bm = bn := e; omega) (fun b e f => by have f : b = bn := f; have := hbml.2.2 b e; have := l4.2.2.2 b e; omega)
                · have hq1 : decide ((pre.length : Int) < (vs.length : Int) - (vs.length : Int) / 2) = false := by simp; omega
                  gi_wp2
                  refine ⟨?_, ?_, ⟨⟨?_, ?_⟩, got1, ?_, ?_⟩, HPN.out⟩
                  · exact (kW2.of_none.setCell (S := One bn) ⟨bn, 0, Option.none⟩ _ (fun _ => rfl)).from fun k o e h _ => by have e : k = bn := e; omega
                  · exact (kW2.of_none.setCell ⟨bn, 0, Option.none⟩ _ (fun _ => Or.inr hbnl2.1))
                  · exact (hK.trans kW2.of_none).setCell ⟨bn, 0, Option.none⟩ _ (fun _ => Or.inr rfl)
                  · rw [E1.out]; exact cn2.set 0 _
                  · rw [List.length_append]; omega
                  · exact hT2.keeps (S := One bn) ((Keeps.refl _ _).setCell _ _ (fun _ => rfl)) (fun e => by have e : g = bn := e; omega) (fun e => by have e : bm = bn := e; omega) (fun b e f => by have f : b = bn := f; have := hbml.2.2 b e; have := l4.2.2.2 b e; omega)
              · rw [← HZ.out] at hSp
                exact absurd hSp hn
          · obtain ⟨t3, t4⟩ := test_ne hx2
            have hnp : ¬ (pre ++ [x] <+: Z) := fun h => hx2 (by rw [hno.out h])
            have HNP := Lib.hid hnp
            clear hnp hx1 hx2 hno
            gi_wp2
            exact ⟨(KeepsOthers.setCell _ _ _).from _, rfl, HNP.out⟩
        · obtain ⟨t1, t2⟩ := test_ne hx1
          have hnp : ¬ (pre ++ [x] <+: Z) := fun h => hx1 (by rw [hno.out h])
          have HNP := Lib.hid hnp
          clear hnp hx1 hno
          gi_wp2
          exact ⟨(KeepsOthers.setCell _ _ _).from _, rfl, HNP.out⟩
      case done =>
        rintro D zs' W hD hzs ⟨⟨⟨hK, hcn⟩, ⟨got1, hgl1, hT1⟩⟩, -⟩ hKD
        have hzl : zs'.length = xs.length := by rw [hzs, List.length_zip, HAL.out, Nat.min_self]
        rw [hzl] at hcn
        clear hzs hzl hgl1
        have sW := hK.size
        have no : ∀ b, b ≠ bm → b ≠ bn → ¬ (b = bm ∨ b = bn) := fun b h1 h2 e => e.elim h1 h2
        have crW := cr0.keeps hK (no br (by omega) (by omega))
        have caW := hK.cell ca0 (no ba (by omega) (by omega))
        have cbW := hK.cell cb0 (no bb (by omega) (by omega))
        have cqW := hK.cell cq0 (no bq (by omega) (by omega))
        have naW := na0.keeps hK (fun b o e => no b (by have := (la b o e).2; omega) (by have := (la b o e).2; omega))
        have nbW := nb0.keeps hK (fun b o e => no b (by have := (lb b o e).2; omega) (by have := (lb b o e).2; omega))
        have hLW := (HL0.out).kpb (hK.mono (fun i _ e => e.imp id (fun e => by have e : i = bn := e; omega))) HNE.out
        have KwW : Keeps None w W := K0.andThen hK (fun i hi e => by rcases e with e | e <;> omega)
        obtain ⟨Wb, hWb⟩ : ∃ Wb, Wb = W.setCell ⟨bn, 0, Option.none⟩ (.int .i64 0) := ⟨_, rfl⟩
        have kb : Keeps (One bn) W Wb := by rw [hWb]; exact (Keeps.refl _ _).setCell _ _ (fun _ => rfl)
        have cnb : Blk Wb bn 3 [.int .i64 0] := by rw [hWb]; exact hcn.set 0 _
        have cqb := kb.cell cqW (fun e => by have e : bq = bn := e; omega)
        rw [hWb] at cqb
        have HWB := Lib.hid hWb
        have cnc := hcn.cell 0 _ rfl
        have cnf := hcn.free 0
        clear hWb
        go_wp2_with fail
        rw [← HWB.out] at cqb ⊢
        have sb := kb.size
        have crb := crW.keeps kb (fun e => by have e : br = bn := e; omega)
        have cab := kb.cell caW (fun e => by have e : ba = bn := e; omega)
        have cbb := kb.cell cbW (fun e => by have e : bb = bn := e; omega)
        have nab := naW.keeps kb (fun b o e f => by have := (la b o e).2; have f : b = bn := f; omega)
        have nbb := nbW.keeps kb (fun b o e f => by have := (lb b o e).2; have f : b = bn := f; omega)
        have hLb := Lib.hid (hLW.kpb (kb.mono (fun i _ e => Or.inr (by have e : i = bn := e; omega))) HNE.out)
        have KwB : Keeps None w Wb := KwW.andThen kb (fun i hi e => by have e : i = bn := e; omega)
        have hDb : Wb.heap[D]? = some (.deferred (some [])) := (kb.block D (Array.getElem?_eq_some_iff.1 hKD).1 (fun e => by have e : D = bn := e; omega)).trans hKD
        have hDl : D < Wb.heap.size := (Array.getElem?_eq_some_iff.1 hDb).1
        clear naW nbW caW cbW crW cqW hLW KwW hKD hcn cnc cnf hT1 hK
        refine (wpIn_wide (n := 8)).1 ?_
        refine wpIn_rangeFunc_ownH (F := Fence.wide) rfl (by omega) (gf := 50) (lb := #[.pointer (some ⟨b1, 0, Option.none⟩), .pointer (some ⟨b2, 0, Option.none⟩)]) rfl trivial (enters_of Try.func50 (by kernel_rfl) rfl)
          (seqK_stops Fence.wide 7 trivial rfl (by omega) b1 b2 n0 bm A1 d1 A2 d2 xs ys HAL.out (by omega) HNE.out Wb (by omega) hLb.out) KpB.trans (fun W l o o' h1 h2 _ _ => KpB.putObj W l o o' (by omega) h2) (Below.refl _ _) (fun _ => rfl)
          (fun pre W2 => (Keeps (One bn) Wb W2 ∧ Blk W2 bn 3 [.int .i64 (pre.length : Int)]) ∧ pre <+: Z)
          (fun c pre _ => c = .ret ∧ ¬ pre <+: Z)
          (OwnFrom.and (OwnFrom.and (ownFrom_keeps (Nat.le_refl _)) (ownFrom_blk 3 (fun (pre : List (Int × Int)) => [.int .i64 (pre.length : Int)]) (by omega))) (ownFrom_pure _ _))
          (fun c => ownFrom_pure _ _)
          ⟨⟨Keeps.refl _ _, cnb⟩, List.nil_prefix⟩
          (fun u a' _ => a' = { tmps := #[Value.slice A zs.length cap, Value.slice B vs.length cap', Value.int IntKind.i64 stop, undef, Value.pointer (some { block := bv, off := 0 }), Value.pointer (some { block := bs, off := 0 }), Value.pointer (some { block := br, off := 0 }), Value.pointer (some { block := bt, off := 0 }), Value.int IntKind.i64 (↑vs.length / 2), Value.pointer (some { block := ba, off := 0 }), Value.pointer (some { block := bb, off := 0 }), Value.bool true, Value.pointer (some { block := bq, off := 0 }), Value.pointer (some { block := bn, off := 0 }), undef, undef, undef, undef, undef, undef, .int .i64 u.1, .int .i64 u.2, Value.bool true, Value.bool false, Value.slice A zs.length cap, Value.slice A zs.length cap, Value.int IntKind.i64 ↑zs.length, Value.int IntKind.i64 (↑zs.length + 1), Value.pointer (some { block := g, off := 0 }), Value.pointer (some { block := g, off := 0 }), Value.bool false, Value.int IntKind.i64 (↑vs.length / 2), Value.slice B vs.length cap', Value.int IntKind.i64 ↑vs.length, Value.int IntKind.i64 (↑vs.length / 2), Value.bool false, u36, u37, u38, u39, u40, u41, u42, u43, u44, u45, u46, u47, u48, u49, Value.tuple #[Value.slice Aa xs.length ca, Value.slice Ab ys.length cb, Value.bool true], Value.pointer (some { block := g, off := 0 }), Value.tuple #[Value.slice Aa xs.length ca, Value.slice Ab ys.length cb, Value.bool true], Value.slice Aa xs.length ca, Value.slice Ab ys.length cb, Value.bool true, Value.pointer (some { block := g, off := 0 }), Value.func (Fn.func 50) #[] #[Value.pointer (some { block := b1, off := 0 }), Value.pointer (some { block := b2, off := 0 })], Value.bool true, Value.bool false, Value.bool false, Value.func (Fn.func 50) #[] #[Value.pointer (some { block := b1, off := 0 }), Value.pointer (some { block := b2, off := 0 })], Value.bool false, Value.bool false, Value.func (Fn.func 50) #[] #[Value.pointer (some { block := b1, off := 0 }), Value.pointer (some { block := b2, off := 0 })], undef, undef, undef, undef, undef, undef, undef, undef, undef, undef, undef, undef, undef, undef, undef, undef, undef, undef, undef, undef, undef, undef, undef, undef, undef, undef, undef, undef, undef, undef, undef, undef, undef, undef, undef, undef, undef, undef, undef, undef, undef, undef, undef, undef, undef, undef, undef, undef, undef, undef, undef, undef, undef, undef, undef, undef, undef, undef, undef, undef, undef, undef, undef, undef, undef, undef, undef, undef, undef, undef, undef, undef, undef, undef, Value.int IntKind.i64 ↑xs.length, Value.slice Aa xs.length ca, Value.int IntKind.i64 ↑xs.length, Value.bool false, Value.func (Fn.func 50) #[] #[Value.pointer (some { block := b1, off := 0 }), Value.pointer (some { block := b2, off := 0 })], .int .i64 u.1, .int .i64 u.2, undef, undef, undef, undef, undef, undef, undef, undef, undef, undef, undef, undef, undef, undef, undef, undef, undef, undef, undef, undef, undef, undef, undef, undef, undef, undef], defers := [] })
          (fun _ _ => ownFrom_pure _ _) ?assign3 ?body3 ?done3 ?stop3
        case assign3 =>
          intro l2 pre2 u W2 K hi hK'
          gi_wp2
          exact hK' _ _ (KeepsFrom.refl _ _) (KpB.refl _ _ _) hi rfl
        case body3 =>
          rintro l2 pre2 u a'' W2 _ _ ⟨⟨hK2, hcx⟩, hpre2⟩ rfl hltb
          have HPRE2 := Lib.hid hpre2
          have ca2 := hK2.cell cab (fun e => by have e : ba = bn := e; omega)
          have cb2 := hK2.cell cbb (fun e => by have e : bb = bn := e; omega)
          have cr2 := crb.keeps hK2 (fun e => by have e : br = bn := e; omega)
          obtain ⟨z1, e3, o3, rfl, hc3, hy3⟩ := (nab.keeps hK2 (fun b o e f => by have := (la b o e).2; have f : b = bn := f; omega)).get pre2.length hltb
          obtain ⟨z2, e5, o5, rfl, hc4, hy4⟩ := (nbb.keeps hK2 (fun b o e f => by have := (lb b o e).2; have f : b = bn := f; omega)).get pre2.length (by rw [HAL.out]; exact hltb)
          have hltb2 : pre2.length < ys.length := by rw [HAL.out]; exact hltb
          have hZx2 : Hid (Z[pre2.length]? = some (z1, z2)) := Lib.hid (by rw [HZ.out]; exact (List.getElem?_zip_eq_some (z := (z1, z2))).2 ⟨hy3.out, hy4.out⟩)
          have hno2 : Hid (pre2 ++ [u] <+: Z → u = (z1, z2)) := Lib.hid (fun ⟨t, ht⟩ => by
            have := hZx2.out
            rw [← ht, List.append_assoc, List.getElem?_append_right (Nat.le_refl _), Nat.sub_self] at this
            simpa using this)
          have crf2 := cr2.free 0
          have crc2 := cr2.cell 0 _ rfl
          have cxc := hcx.cell 0 _ rfl
          have cxf := hcx.free 0
          have hd2 : decide (xs.length ≤ pre2.length) = false := by simp; omega
          clear hy3 hy4 hpre2
          by_cases hx1 : u.1 = z1
          · obtain ⟨p1, p2⟩ := test_eq hx1
            by_cases hx2 : u.2 = z2
            · obtain ⟨p3, p4⟩ := test_eq hx2
              have hpn2 : pre2 ++ [u] <+: Z := by
                obtain ⟨t, ht⟩ := HPRE2.out
                refine ⟨Z.drop (pre2.length + 1), ?_⟩
                have e1 : Z.take (pre2.length + 1) = pre2 ++ [u] := by
                  rw [take_succ_of hZx2.out, ← ht, List.take_left, ← hx1, ← hx2]
                rw [← e1, List.take_append_drop]
              have HPN2 := Lib.hid hpn2
              clear hpn2 hx1 hx2 hno2
              have e1 : (((pre2 ++ [u]).length : Nat) : Int) = (pre2.length : Int) + 1 := by simp
              have E1 := Lib.hid e1
              clear e1
              gi_wp2
              exact ⟨(KeepsOthers.setCell _ _ _).from _, (Keeps.refl _ _).setCell ⟨bn, 0, Option.none⟩ _ (fun _ => Or.inr hbnl2.1), ⟨⟨hK2.setCell ⟨bn, 0, Option.none⟩ _ (fun _ => rfl), by rw [E1.out]; exact hcx.set 0 _⟩, HPN2.out⟩⟩
            · obtain ⟨p3, p4⟩ := test_ne hx2
              have hnp : ¬ (pre2 ++ [u] <+: Z) := fun h => hx2 (by rw [hno2.out h])
              have HNP := Lib.hid hnp
              clear hnp hx1 hx2 hno2
              gi_wp2
              exact ⟨(KeepsOthers.setCell _ _ _).from _, rfl, HNP.out⟩
          · obtain ⟨p1, p2⟩ := test_ne hx1
            have hnp : ¬ (pre2 ++ [u] <+: Z) := fun h => hx1 (by rw [hno2.out h])
            have HNP := Lib.hid hnp
            clear hnp hx1 hno2
            gi_wp2
            exact ⟨(KeepsOthers.setCell _ _ _).from _, rfl, HNP.out⟩
        case done3 =>
          rintro D2 zs2 W3 hD2 hzs2 ⟨⟨hK3, hcn3⟩, -⟩ hKD2
          have hzl : zs2.length = xs.length := by rw [hzs2, List.length_zip, HAL.out, Nat.min_self]
          rw [hzl] at hcn3
          clear hzs2 hzl
          have ca3 := hK3.cell cab (fun e => by have e : ba = bn := e; omega)
          have cr3 := crb.keeps hK3 (fun e => by have e : br = bn := e; omega)
          have cn3 := hcn3.cell 0 _ rfl
          have hD3 : W3.heap[D]? = some (.deferred (some [])) := (hK3.block D hDl (fun e => by have e : D = bn := e; omega)).trans hDb
          have Kw3 : Keeps None w W3 := KwB.andThen hK3 (fun i hi e => by have e : i = bn := e; omega)
          have crc3 := cr3.cell 0 _ rfl
          have crf3 := cr3.free 0
          have HKD2 := Lib.hid hKD2
          have HD3 := Lib.hid hD3
          clear hKD2 hD3
          go_wp2_with fail
          have ks : Keeps (One br) W3 (W3.setCell ⟨br, 0, Option.none⟩ (.bool true)) := (Keeps.refl _ _).setCell _ _ (fun _ => rfl)
          have h1 : (W3.setCell ⟨br, 0, Option.none⟩ (.bool true)).heap[D2]? = some (.deferred (some [])) := (ks.block D2 (Array.getElem?_eq_some_iff.1 HKD2.out).1 (fun e => by have e : D2 = br := e; omega)).trans HKD2.out
          have kp1 : Keeps (One D2) (W3.setCell ⟨br, 0, Option.none⟩ (.bool true)) ((W3.setCell ⟨br, 0, Option.none⟩ (.bool true)).putObj D2 (.deferred Option.none)) := (Keeps.refl _ _).grown (grownBy_putObj' _ _ _) (fun k e _ => by cases e; rfl)
          have h2 : ((W3.setCell ⟨br, 0, Option.none⟩ (.bool true)).putObj D2 (.deferred Option.none)).heap[D]? = some (.deferred (some [])) := by
            refine (kp1.block D ?_ (fun e => by have e : D = D2 := e; omega)).trans ?_
            · have := ks.size; have := (Array.getElem?_eq_some_iff.1 HD3.out).1; omega
            · exact (ks.block D (Array.getElem?_eq_some_iff.1 HD3.out).1 (fun e => by have e : D = br := e; omega)).trans HD3.out
          have kp2 : Keeps (One D) ((W3.setCell ⟨br, 0, Option.none⟩ (.bool true)).putObj D2 (.deferred Option.none)) (((W3.setCell ⟨br, 0, Option.none⟩ (.bool true)).putObj D2 (.deferred Option.none)).putObj D (.deferred Option.none)) := (Keeps.refl _ _).grown (grownBy_putObj' _ _ _) (fun k e _ => by cases e; rfl)
          have bF := ((cr3.set 0 (.bool true)).keeps kp1 (fun e => by have e : br = D2 := e; omega)).keeps kp2 (fun e => by have e : br = D := e; omega)
          have KF : Keeps None w (((W3.setCell ⟨br, 0, Option.none⟩ (.bool true)).putObj D2 (.deferred Option.none)).putObj D (.deferred Option.none)) := ((Kw3.andThen ks (fun i hi e => by have e : i = br := e; omega)).andThen kp1 (fun i hi e => by have e : i = D2 := e; omega)).andThen kp2 (fun i hi e => by have e : i = D := e; omega)
          refine ⟨by simp, .inl ⟨_, _, rfl, run_takeDeferred h1, ⟨by simp, .inl ⟨_, _, rfl, run_takeDeferred h2, ?_⟩⟩⟩⟩
          exact ⟨_, results_w _ _ br true rfl (bF.cell 0 _ rfl), rfl, KF.to_below⟩
        case stop3 =>
          rintro D2 c pre2 W3 _ hSp ⟨-, hn⟩ _
          rw [← HZ.out] at hSp
          exact absurd hSp hn
      case stop =>
        rintro D c pre W _ hSp ⟨-, hn⟩ _
        rw [← HZ.out] at hSp
        exact absurd hSp hn
end Go.Proofs.Ytghbgcmhahndkaa.tallyWalks
