/- RegisterTold's walk. -/
import Derived.Test.YtcihfjfbcfgidaaToldState
import Derived.Test.YtcihfjfbcfgidaaToldRead
import Derived.Test.YtcihfjfbcfgidaaHead
import Derived.Test.YtcihfjfbcfgidaaNewerWalk
import Derived.Deep.DeepCutAuto
import Derived.Deep.CutBlock
import Derived.Handy
namespace Go.Proofs.Ytcihfjfbcfgidaa
open Go.RowKit Go.Maps Go.Proofs.YtcihfjfbcfgidaaW.PrintLast

theorem SameB_self (l : List Int) : SameB l l = true := by simp [SameB]

set_option maxRecDepth 100000 in
set_option maxHeartbeats 0 in
theorem told_law (A : Option Addr) (cap : Nat) (zs : List Int) (A' : Option Addr) (cap' : Nat) (ys : List Int) (w : World) (hA : Nums .u8 w A zs) (hr : zs.length ≤ 140737488351232) (hcap : A = Option.none → cap = 0) (hA' : Nums .u8 w A' ys) (hr' : ys.length ≤ 140737488351232) (hcap' : A' = Option.none → cap' = 0) :
    Calls Try.prog 4 #[.slice A zs.length cap, .slice A' ys.length cap'] w fun e w' => e = .returned (.bool true) ∧ Keeps None w w' := by
  obtain ⟨i0, hi, hz0, hz1, hz2⟩ := info_parts Try.infoU8
  obtain ⟨i1, hj0, hy0, hy1, hy2⟩ := info_parts Try.infoBs
  obtain ⟨i2, hm, hx0, hx1, hx2⟩ := info_parts Try.infoMc
  go_enter Try.func4, Try.ntmps4
  go_wp2_with fail
  go_loopw [5, 6, 8] (fun mv wv i wr => ∃ (k : Nat) (ms : List Tm), k ≤ 3 ∧ i = .int .i64 (k : Int) ∧ ms.length = k ∧ Ts w wr zs (.slice A zs.length cap) ms mv wv k) (fun _ _ i _ => 3 - (intOf i).toNat)
  case atStart => exact ⟨0, [], by omega, rfl, rfl, Ts.none _ _ _⟩
  case round =>
    obtain ⟨k, ms, hk, rfl, hml, hT⟩ := hrel
    by_cases hlt : k < 3
    · go_wp2_with fail
      refine (read_law (k : Int) (by omega) A cap zs wr (hA.grew hT.keep) hr hcap).mono ?_
      rintro e w1 ⟨g, X, rd, rfl, hM, hk1⟩
      have hT1 := hT.grew hk1
      have hws := hT.keep.size
      have hXf : ∀ b, (X b ∨ b = g) → u5.ownBlock ≠ some b ∧ u6.ownBlock ≠ some b := fun b hb => by
        have hge : wr.heap.size ≤ b := by
          rcases hb with hb | rfl
          · exact (hM.X b hb).1
          · exact hM.g.2
        exact ⟨fun e => by have := (World.ownsRow.lt hT.row b e).2; omega, fun e => by have := (World.ownsRow.lt hT.want b e).2; omega⟩
      have kA1 : Keeps None w1 (w1.alloc (.cells #[ifV g] 37)) := (Keeps.refl _ _).alloc _
      have hT2 := hT1.grew kA1
      have hM2 := (hM.grew kA1).down hws
      have hkl : ms.length ≤ 3 := by omega
      have h1s := hk1.size
      have h2s := kA1.size
      subst hml
      have HM2 := Lib.hid hM2
      clear hM hT hT1 hM2
      go_upto_region 11 with (at_builtin; refine wpList_append_row _ rfl (.tmp 34) (.tmp 36) 34 rfl w.heap.size 37 i2 Value.nilIface 1 16 Try.underlying34 hm hx0 hx1 hx2 rfl (by decide) u5 ms.length _ rfl hT2.row (some ⟨w1.heap.size, 0, Option.none⟩) 1 1 [ifV g] rfl rfl (fun e => by cases e) (src_new _ 37 _ _ rfl) (by intro u hu; simp at hu; subst hu; rfl) (by unfold maxLen; omega) (by omega) (by simp only [World.size_alloc]; omega) ?_; intro mv' w3 hown hk3 hloc)
      have hT3 := hT2.made HM2.out hXf hown hk3 hloc
      have kA3 : Keeps None w3 (w3.alloc (.cells #[.slice A zs.length cap] 24)) := (Keeps.refl _ _).alloc _
      have hT4 := hT3.grew kA3
      have h3s := hT4.keep.size
      clear hT2 HM2 hXf hown hk3 hloc hT3
      go_wp2_with (at_builtin; refine wpList_append_row _ rfl (.tmp 38) (.tmp 40) 35 rfl w.heap.size 24 i1 (.slice Option.none 0 0) 1 24 Try.underlying35 hj0 hy0 hy1 hy2 rfl (by decide) u6 ms.length _ rfl hT4.want (some ⟨w3.heap.size, 0, Option.none⟩) 1 1 [.slice A zs.length cap] rfl rfl (fun e => by cases e) (src_new _ 24 _ _ rfl) (by intro u hu; simp at hu; subst hu; rfl) (by unfold maxLen; omega) (by omega) (by omega) ?_; intro wv' w5 hown5 hk5 hloc5)
      have hT5 := hT4.wish hown5 hk5 hloc5
      clear hT4 hown5 hk5 hloc5
      go_roundw
      case rel => exact ⟨ms.length + 1, _, by omega, by go_num, by simp, hT5⟩
      case measure => simp [intOf]; omega
    · obtain rfl : k = 3 := by omega
      rw [show ((3 : Nat) : Int) = 3 from rfl]
      clear hk hlt
      obtain ⟨bm, cm, rfl, hmc⟩ := owns_at hT.row (by omega)
      obtain ⟨bw, cw, rfl, hwc⟩ := owns_at hT.want (by omega)
      have hws := hT.keep.size
      have hoff := hT.off
      have hTr := Lib.hid hT
      go_upto_region 13 with (at_make; refine wpList_make_full _ rfl _ _ 24 rfl w.heap.size 5 i0 (.int .u8 0) 1 Try.underlying24 hi hz0 hz1 _ _ _ _ 4 rfl rfl (by omega) (by omega) (by rw [hz2]; omega) (by unfold maxLen; omega) (by omega) ?_; intro wm hownm hgrow; have hkm : Keeps None wr wm := (Keeps.refl None _).grown hgrow (fun k e => by cases e); have hTm := hT.grew hkm; have f2 := owns_free hTm.want 2; have q2 : wm.cell? ⟨bw, 2, Option.none⟩ = some (.slice A zs.length cap) := hkm.cell (hwc 2 _ rfl) id; clear hgrow)
      rw [Nat.mul_one, show (Value.int IntKind.u8 0).cells = #[Value.int IntKind.u8 0] from rfl, zeros_u8] at hownm
      have hZ0 : Row .u8 5 wm w.heap.size (.slice (some ⟨wr.heap.size, 0, Option.none⟩) 4 4) (List.replicate 4 0) := by
        unfold Row
        rw [List.length_replicate, List.map_replicate]
        exact hownm
      have hbwl : bw < wr.heap.size := (World.ownsRow.lt hT.want bw rfl).2
      have hTm := hT.grew hkm
      have ks : Keeps (One bw) wm (wm.setCell ⟨bw, 2, Option.none⟩ (.slice (some ⟨wr.heap.size, 0, Option.none⟩) 4 4)) := (Keeps.refl _ _).setCell _ _ (fun _ => rfl)
      have hst := (World.ownsRow.stored hTm.want 2 (.slice (some ⟨wr.heap.size, 0, Option.none⟩) 4 4)).1
      obtain ⟨W0, hW0⟩ : ∃ W, W = wm.setCell ⟨bw, 2, Option.none⟩ (.slice (some ⟨wr.heap.size, 0, Option.none⟩) 4 4) := ⟨_, rfl⟩
      rw [← hW0] at ks hst ⊢
      have hmach0 : ∀ (i : Nat) m, ms[i]? = some m → Mach W0 w.heap.size m.X m.g hRd m.rd (.ended 0 (tagF i) (datF i zs)) := fun i m e =>
        (hTm.mach i m e).keeps ks (fun b hb f => (hTm.off m (List.mem_of_getElem? e) b (.inl hb)).2 (congrArg some f.symm)) (fun f => (hTm.off m (List.mem_of_getElem? e) _ (.inr rfl)).2 (congrArg some f.symm))
      have hcell0 : ∀ (i : Nat) m, ms[i]? = some m → W0.cell? ⟨bm, i, Option.none⟩ = some (.iface 104 (.pointer (some ⟨m.g, 0, Option.none⟩))) := fun i m e =>
        ks.cell (hkm.cell (hmc i _ (by rw [List.getElem?_map, e]; rfl)) id) (fun f => hTm.apart bm rfl (congrArg some f.symm))
      have hk0 : Keeps None w W0 := hTm.keep.andThen ks (fun i hi e => by simp only [One] at e; have := (World.ownsRow.lt hTm.want bw rfl).1; omega)
      have hA0 := hA.grew hk0
      have hA0' := hA'.grew hk0
      have hwant0 : ∀ i : Nat, i < 3 → ∃ Aw cw, W0.cell? ⟨bw, i, Option.none⟩ = some (.slice Aw (datF i zs).length cw) ∧ Nums .u8 W0 Aw (datF i zs) := fun i hi3 => by
        obtain ⟨b', c', e', hc'⟩ := owns_at hst (by omega)
        cases e'
        obtain rfl | rfl | rfl : i = 0 ∨ i = 1 ∨ i = 2 := by omega
        · exact ⟨A, cap, hc' 0 _ rfl, hA0⟩
        · exact ⟨A, cap, hc' 1 _ rfl, hA0⟩
        · exact ⟨some ⟨wr.heap.size, 0, Option.none⟩, 4, hc' 2 _ rfl, (Nums.row hZ0).1.keeps ks (by intro b o e f; cases e; simp only [One] at f; omega)⟩
      have h0s := hk0.size
      have hms3 := Lib.hid hml
      clear hW0 ks hst hTm hZ0 hbwl hownm hkm q2 f2 hmc hwc hoff hTr hT hws hA hA' hml
      have hE0 := Blk.new W0 5 []
      have hE : Row .u8 5 (W0.alloc (.cells #[] 5)) W0.heap.size (.slice (some ⟨W0.heap.size, 0, Option.none⟩) 0 0) [] := Row.of_blk (zs := []) hE0 (Nat.le_refl _) (by unfold maxLen; simp)
      have kE : Keeps None W0 (W0.alloc (.cells #[] 5)) := (Keeps.refl _ _).alloc _
      go_upto_region 14 with (at_builtin; refine wpList_append_row _ rfl (.tmp 46) (.tmp 47) 24 rfl W0.heap.size 5 i0 (.int .u8 0) 1 1 Try.underlying24 hi hz0 hz1 hz2 rfl (by decide) _ 0 _ rfl hE.raw A zs.length cap (zs.map (Value.int .u8)) rfl (by simp) hcap (hA0.grew kE).src (ints_oneCell _ zs) (by unfold maxLen; omega) (by omega) (by simp only [World.size_alloc]; omega) ?_; intro vh w6 hown6 hk6 hloc6; have hr6 : Row .u8 5 w6 W0.heap.size vh ([] ++ zs) := Row.of_append rfl rfl hown6; obtain ⟨Ah, ch, ev⟩ := hr6.slice; obtain rfl : vh = .slice Ah zs.length ch := ev.trans (by simp); clear ev)
      simp only [List.nil_append] at hr6
      have hk06 : Keeps None W0 w6 := kE.andThen hk6 (fun i hi e => by have := OwnB.is e; omega)
      clear hown6 hk6 hloc6 hE hE0 kE
      have kB : Keeps None w6 (w6.alloc (.cells #[.int .i64 3, .int .i64 3, .slice Ah zs.length ch] 26)) := (Keeps.refl _ _).alloc _
      have hH7 := Blk.new w6 26 [.int .i64 3, .int .i64 3, .slice Ah zs.length ch]
      have hk07 := hk06.trans kB
      have hN7 := (Nums.row hr6).1.grew kB
      obtain ⟨hb, hhb⟩ : ∃ h, h = w6.heap.size := ⟨_, rfl⟩
      obtain ⟨W7, hW7⟩ : ∃ W, W = w6.alloc (.cells #[.int .i64 3, .int .i64 3, .slice Ah zs.length ch] 26) := ⟨_, rfl⟩
      rw [← hW7, ← hhb] at hH7
      rw [← hW7] at hk07 hN7
      rw [← hW7, ← hhb]
      clear hW7 hhb kB hk06 hr6
      have h7s := hk07.size
      have hE0 := Blk.new W7 5 []
      have hE : Row .u8 5 (W7.alloc (.cells #[] 5)) W7.heap.size (.slice (some ⟨W7.heap.size, 0, Option.none⟩) 0 0) [] := Row.of_blk (zs := []) hE0 (Nat.le_refl _) (by unfold maxLen; simp)
      have kE : Keeps None W7 (W7.alloc (.cells #[] 5)) := (Keeps.refl _ _).alloc _
      go_upto_region 15 with (at_builtin; refine wpList_append_row _ rfl (.tmp 50) (.tmp 51) 24 rfl W7.heap.size 5 i0 (.int .u8 0) 1 1 Try.underlying24 hi hz0 hz1 hz2 rfl (by decide) _ 0 _ rfl hE.raw A' ys.length cap' (ys.map (Value.int .u8)) rfl (by simp) hcap' ((hA0'.grew hk07).grew kE).src (ints_oneCell _ ys) (by unfold maxLen; omega) (by omega) (by simp only [World.size_alloc]; omega) ?_; intro vd w8 hown8 hk8 hloc8; have hr8 : Row .u8 5 w8 W7.heap.size vd ([] ++ ys) := Row.of_append rfl rfl hown8; obtain ⟨Ad, cd, ev⟩ := hr8.slice; obtain rfl : vd = .slice Ad ys.length cd := ev.trans (by simp); clear ev)
      simp only [List.nil_append] at hr8
      have hk78 : Keeps None W7 w8 := kE.andThen hk8 (fun i hi e => by have := OwnB.is e; omega)
      have hk08 := hk07.trans hk78
      have hP : Pt w w8 zs ys ms bm bw hb Ah ch Ad := ⟨fun i m e => hk08.cell (hcell0 i m e) id, fun i m e => (hmach0 i m e).grew hk08, fun i hi => by
        obtain ⟨Aw, cw, h1, h2⟩ := hwant0 i hi
        exact ⟨Aw, cw, hk08.cell h1 id, h2.grew hk08⟩, hH7.grew hk78, hN7.grew hk78, (Nums.row hr8).1, hk0.trans hk08⟩
      have hA8 := hA0.grew hk08
      have hA8' := hA0'.grew hk08
      clear hown8 hk8 hloc8 hE hE0 kE hcell0 hmach0 hwant0 hH7 hN7 hr8 hk78 hk08 hk07 hA0 hA0' hk0 h0s h7s
      go_wp2_with fail
      go_loopw [7, 12] (fun al t wr => ∃ (j : Nat) (rs : Lot), j ≤ 3 ∧ t = .int .i64 (j : Int) ∧ rs.length ≤ 5 * j ∧ Al w8.heap.size rs al wr ∧ Keeps None w8 wr) (fun _ t _ => 3 - (intOf t).toNat)
      case atStart => exact ⟨0, [], by omega, rfl, by simp, Al.none _ _, Keeps.refl _ _⟩
      case round =>
        obtain ⟨j, rs, hj, rfl, hrl, hL, hK⟩ := hrel
        by_cases hjl : j < 3
        · have hjd : decide ((j : Int) < 3) = true := decide_eq_true (by omega)
          go_wp2_with fail
          clear hjd
          go_loopw [7, 13] (fun al t wr => ∃ (i : Nat) (rs : Lot), i ≤ 3 ∧ t = .int .i64 (i : Int) ∧ rs.length ≤ 5 * j + i ∧ Al w8.heap.size rs al wr ∧ Keeps None w8 wr) (fun _ t _ => 3 - (intOf t).toNat)
          case atStart => exact ⟨0, rs, by omega, rfl, by omega, hL, hK⟩
          case round =>
            clear hL hK hrl rs
            obtain ⟨i, rs, hi3, rfl, hrl, hL, hK⟩ := hrel
            by_cases hil : i < 3
            · have hPr := hP.grew hK
              obtain ⟨m, hm'⟩ : ∃ m, ms[i]? = some m := ⟨_, List.getElem?_eq_getElem (by have := hms3.out; omega)⟩
              have hMi := hPr.mach i m hm'
              have hci := hPr.cell i m hm'
              obtain ⟨Aw, cw', hwi, hwN⟩ := hPr.want i hil
              have hdl : (datF i zs).length ≤ 140737488351232 := by
                unfold datF
                split
                · simp
                · exact hr
              obtain ⟨g, X, rd⟩ := m
              simp only at hMi hci
              obtain ⟨t1, ht1⟩ : ∃ t, t = (tagF i).1 := ⟨_, rfl⟩
              obtain ⟨t2, ht2⟩ : ∃ t, t = (tagF i).2 := ⟨_, rfl⟩
              have htt : tagF i = (t1, t2) := by rw [ht1, ht2]
              obtain ⟨ds, hds⟩ : ∃ d, d = datF i zs := ⟨_, rfl⟩
              rw [htt, ← hds] at hMi
              rw [← hds] at hwi hwN hdl
              have hrsL : ∀ b, OwnM rs b → w8.heap.size ≤ b ∧ b < wr.heap.size := fun b hb => hL.manyLt hb
              have h8s := hK.size
              have HRS := Lib.hid hrsL
              clear ht1 ht2 htt hds hm' hPr hrsL
              go_upto_region 21 with (fail)
              go_wp2_with fail
              refine (mach_done g w.heap.size X hRd rd (.ended 0 (t1, t2) ds) wr hMi).mono ?_
              rintro e w2 ⟨u, rfl, hU, hk2⟩
              have hU' : Row .u8 5 w2 wr.heap.size u ds := hU
              clear hU
              obtain ⟨Au, cu, rfl⟩ := hU'.slice
              simp only [doneV, resCells]
              go_upto_region 22 with (fail)
              have hXn := Blk.new w2 46 [.int .i64 0, .string ⟨#[]⟩, .int .i64 0, .int .i64 0, .int .i64 0, .slice Option.none 0 0, .slice Au ds.length cu, .int .i64 0, .int .i64 t1, .int .i64 t2, .int .i64 0]
              have kX := (Keeps.refl None w2).alloc (.cells #[.int .i64 0, .string ⟨#[]⟩, .int .i64 0, .int .i64 0, .int .i64 0, .slice Option.none 0 0, .slice Au ds.length cu, .int .i64 0, .int .i64 t1, .int .i64 t2, .int .i64 0] 46)
              obtain ⟨Wx, hWx⟩ : ∃ W, W = w2.alloc (.cells #[.int .i64 0, .string ⟨#[]⟩, .int .i64 0, .int .i64 0, .int .i64 0, .slice Option.none 0 0, .slice Au ds.length cu, .int .i64 0, .int .i64 t1, .int .i64 t2, .int .i64 0] 46) := ⟨_, rfl⟩
              have hXn' : Blk Wx w2.heap.size 46 [.int .i64 0, .string ⟨#[]⟩, .int .i64 0, .int .i64 0, .int .i64 0, .slice Option.none 0 0, .slice Au ds.length cu, .int .i64 0, .int .i64 t1, .int .i64 t2, .int .i64 0] := by rw [hWx]; exact hXn
              rw [← hWx] at kX ⊢
              clear hWx hXn
              have x0 := hXn'.cell 0 _ rfl
              have x6 := hXn'.cell 6 _ rfl
              have hk2x := hk2.trans kX
              have hwx := hk2x.cell hwi id
              have hUx := hU'.grew kX
              have hLx := hL.grew hk2x
              have hKx := hK.trans hk2x
              have hxs := hk2x.size
              have hsame : ∀ n, Calls Try.prog 13 #[.slice Au ds.length cu, .slice Aw ds.length cw'] (Wx.drewN n) fun e w'' => e = .returned (.bool true) ∧ ∃ m, w'' = Wx.drewN m := fun n =>
                Calls.quiet_of ((same_any Au ds.length cu ds Aw ds.length cw' ds (Wx.drewN n) ((Nums.row hUx).1.grew ((Keeps.refl None Wx).drewN n)) rfl ((hwN.grew hk2x).grew ((Keeps.refl None Wx).drewN n)) rfl hdl).mono fun _ _ h => ⟨by rw [h.1]; simp [SameB], h.2.out⟩)
              clear hU' hXn' kX hk2 hk2x hwi hwN hMi hci hL hK
              go_quiet ((go_at_call 13; exact hsame _))
              go_wp2_with (at_builtin; refine wpList_append_row _ rfl (.tmp 86) (.tmp 89) 35 rfl w8.heap.size 24 i1 (.slice Option.none 0 0) 1 24 Try.underlying35 hj0 hy0 hy1 hy2 rfl (by decide) u7 rs.length _ rfl (owns_grew hLx.all ((Keeps.refl None _).drewN _ |>.alloc _)) (some ⟨Wx.heap.size, 0, Option.none⟩) 1 1 [Value.slice Au ds.length cu] rfl rfl (fun e => by cases e) (src_new _ 24 _ _ rfl) (by intro u hu; simp at hu; subst hu; rfl) (by unfold maxLen; omega) (by omega) (by simp; omega) ?_; intro al' wh hown hkh hloch)
              obtain ⟨nq, hkh⟩ : ∃ n, Keeps (OwnB u7) ((Wx.drewN n).alloc (.cells #[Value.slice Au ds.length cu] 24)) wh := ⟨_, hkh⟩
              have kgh : Keeps None Wx ((Wx.drewN nq).alloc (.cells #[Value.slice Au ds.length cu] 24)) := ((Keeps.refl None Wx).drewN nq).alloc _
              have hL2 := (hLx.grew kgh).push ((hUx.down h8s).grew kgh) (fun b hb e => by have := HRS.out b hb; have := (hUx.lt b e).1; omega) hdl hown hkh
              have hKh : Keeps None w8 wh := (hKx.trans kgh).andThen hkh (fun b hb e => by have := (World.ownsRow.lt hLx.all b e).1; omega)
              clear hown hkh hloch kgh hLx hUx hKx hwx x0 x6 hsame HRS
              go_roundw
              case rel => exact ⟨i + 1, _, by omega, by go_num, by simp; omega, hL2, hKh⟩
              case measure => simp [intOf]; omega
            · obtain rfl : i = 3 := by omega
              have hPr := hP.grew hK
              have h8s := hK.size
              have hA1 := hA8'.grew hK
              have hA2 := hA8.grew hK
              have HRS := Lib.hid (fun b (hb : OwnM rs b) => hL.manyLt hb)
              have b0 := hPr.held.cell 0 _ rfl
              have b1 := hPr.held.cell 1 _ rfl
              have b2 := hPr.held.cell 2 _ rfl
              go_upto_region 25 with (fail)
              go_wp2_with fail
              refine (newer_call 3 3 3 4 Ah ch zs Ad cd ys ys 3 4 true wr hPr.heldN hPr.data hr hr' rfl rfl rfl rfl).mono ?_
              rintro e w2 ⟨Ax, cx, rfl, hRx, hkx⟩
              go_upto_region 26 with (fail)
              have kX2 := (Keeps.refl None w2).alloc (.cells #[.int .i64 3, .int .i64 4, .slice Ax ys.length cx] 26)
              have hBx := Blk.new w2 26 [.int .i64 3, .int .i64 4, .slice Ax ys.length cx]
              obtain ⟨xb, hxb⟩ : ∃ x, x = w2.heap.size := ⟨_, rfl⟩
              obtain ⟨W2, hW2⟩ : ∃ W, W = w2.alloc (.cells #[.int .i64 3, .int .i64 4, .slice Ax ys.length cx] 26) := ⟨_, rfl⟩
              have hBx' : Blk W2 xb 26 [.int .i64 3, .int .i64 4, .slice Ax ys.length cx] := by rw [hW2, hxb]; exact hBx
              rw [← hW2] at kX2
              rw [← hW2, ← hxb]
              clear hW2 hBx
              have hkr2 := hkx.trans kX2
              have hRx2 := hRx.grew kX2
              have hxge : wr.heap.size ≤ xb := by have := hkx.size; omega
              have hPr2 := hPr.grew hkr2
              clear b0 b1 b2 hxb kX2 hkx hRx
              have b0 := hPr2.held.cell 0 _ rfl
              have b1 := hPr2.held.cell 1 _ rfl
              have b2 := hPr2.held.cell 2 _ rfl
              go_wp2_with fail
              have h2sz := hkr2.size
              refine (newer_call 3 3 3 3 Ah ch zs Ad cd ys zs 3 3 false W2 hPr2.heldN hPr2.data hr hr' rfl rfl rfl rfl).mono ?_
              rintro e w3 ⟨Ay, cy, rfl, hRy, hky⟩
              go_upto_region 27 with (fail)
              have kX3 := (Keeps.refl None w3).alloc (.cells #[.int .i64 3, .int .i64 3, .slice Ay zs.length cy] 26)
              have hBy := Blk.new w3 26 [.int .i64 3, .int .i64 3, .slice Ay zs.length cy]
              obtain ⟨yb, hyb⟩ : ∃ x, x = w3.heap.size := ⟨_, rfl⟩
              obtain ⟨W3, hW3⟩ : ∃ W, W = w3.alloc (.cells #[.int .i64 3, .int .i64 3, .slice Ay zs.length cy] 26) := ⟨_, rfl⟩
              have hBy' : Blk W3 yb 26 [.int .i64 3, .int .i64 3, .slice Ay zs.length cy] := by rw [hW3, hyb]; exact hBy
              rw [← hW3] at kX3
              rw [← hW3, ← hyb]
              clear hW3 hBy
              have hk23 := hky.trans kX3
              have hRy3 := hRy.grew kX3
              have hRx3 := hRx2.grew hk23
              have hBx3 := hBx'.grew hk23
              have hPr3 := hPr2.grew hk23
              have hkr3 := hkr2.trans hk23
              have hux : ∀ b, (Value.slice Ax ys.length cx).ownBlock = some b → (Value.slice Ay zs.length cy).ownBlock ≠ some b := fun b e f => by
                have h1 := (hRx2.lt b e).2
                have h2 := (hRy3.lt b f).1
                omega
              clear b0 b1 b2 hyb kX3 hky hRy hPr2 hBx' hRx2 hkr2 hk23
              have b0 := hPr3.held.cell 0 _ rfl
              have b1 := hPr3.held.cell 1 _ rfl
              have b2 := hPr3.held.cell 2 _ rfl
              have x2 := hBx3.cell 2 _ rfl
              have y0 := hBy'.cell 0 _ rfl
              have y1 := hBy'.cell 1 _ rfl
              have y2 := hBy'.cell 2 _ rfl
              go_wp2_with fail
              refine (same_any Ax ys.length cx ys A' ys.length cap' ys W3 (Nums.row hRx3).1 rfl (hA1.grew hkr3) rfl hr').mono ?_
              rintro e w4 ⟨rfl, hk4⟩
              have hk4 := hk4.keeps None
              rw [SameB_self]
              have hRx4 := hRx3.grew hk4
              have hRy4 := hRy3.grew hk4
              have hBx4 := hBx3.grew hk4
              have hBy4 := hBy'.grew hk4
              have hPr4 := hPr3.grew hk4
              have hkr4 := hkr3.trans hk4
              clear b0 b1 b2 x2 y0 y1 y2 hRx3 hRy3 hBx3 hBy' hPr3 hkr3 hk4
              have b0 := hPr4.held.cell 0 _ rfl
              have b1 := hPr4.held.cell 1 _ rfl
              have b2 := hPr4.held.cell 2 _ rfl
              have x2 := hBx4.cell 2 _ rfl
              have y0 := hBy4.cell 0 _ rfl
              have y1 := hBy4.cell 1 _ rfl
              have y2 := hBy4.cell 2 _ rfl
              go_wp2_with fail
              refine (same_any Ay zs.length cy zs A zs.length cap zs w4 (Nums.row hRy4).1 rfl (hA2.grew hkr4) rfl hr).mono ?_
              rintro e w5 ⟨rfl, hk5⟩
              have hk5 := hk5.keeps None
              rw [SameB_self]
              have hRx5 := hRx4.grew hk5
              have hRy5 := hRy4.grew hk5
              have hBx5 := hBx4.grew hk5
              have hBy5 := hBy4.grew hk5
              have hPr5 := hPr4.grew hk5
              have hkr5 := hkr4.trans hk5
              have hL5 := hL.grew hkr5
              have h5s := hkr5.size
              clear b0 b1 b2 x2 y0 y1 y2 hRx4 hRy4 hBx4 hBy4 hPr4 hkr4 hk5
              have b0 := hPr5.held.cell 0 _ rfl
              have b1 := hPr5.held.cell 1 _ rfl
              have b2 := hPr5.held.cell 2 _ rfl
              have x2 := hBx5.cell 2 _ rfl
              have y0 := hBy5.cell 0 _ rfl
              have y1 := hBy5.cell 1 _ rfl
              have y2 := hBy5.cell 2 _ rfl
              go_upto_region 29 with (fail)
              go_wp2_with (at_builtin; refine wpList_append_row _ rfl (.tmp 131) (.tmp 136) 35 rfl w8.heap.size 24 i1 (.slice Option.none 0 0) 1 24 Try.underlying35 hj0 hy0 hy1 hy2 rfl (by decide) u7 rs.length _ rfl (owns_grew hL5.all ((Keeps.refl None _).alloc _)) (some ⟨w5.heap.size, 0, Option.none⟩) 2 2 [Value.slice Ax ys.length cx, Value.slice Ay zs.length cy] rfl rfl (fun e => by cases e) (src_new _ 24 _ _ rfl) (by intro u hu; simp at hu; rcases hu with rfl | rfl <;> rfl) (by unfold maxLen; omega) (by omega) (by simp; omega) ?_; intro al' wh hown hkh hloch)
              have kgh : Keeps None w5 (w5.alloc (.cells #[Value.slice Ax ys.length cx, Value.slice Ay zs.length cy] 24)) := (Keeps.refl None w5).alloc _
              have hL6 := (hL5.grew kgh).push2 ((hRx5.down h8s).grew kgh) ((hRy5.down (by omega)).grew kgh) (fun b hb e => by have := HRS.out b hb; have := (hRx5.lt b e).1; omega) (fun b hb e => by have := HRS.out b hb; have := (hRy5.lt b e).1; omega) hux hr' hr hown hkh
              have hKh : Keeps None w8 wh := ((hK.trans hkr5).trans kgh).andThen hkh (fun b hb e => by have := (World.ownsRow.lt hL5.all b e).1; omega)
              clear hown hkh hloch kgh hL5 hRx5 hRy5 hBx5 hBy5 hPr5 hkr5 HRS b0 b1 b2 x2 y0 y1 y2 hK hL hPr hA1 hA2 hux
              go_roundw
              case rel => exact ⟨j + 1, _, by omega, by go_num, by simp; omega, hL6, hKh⟩
              case measure => simp [intOf]; omega
        · obtain rfl : j = 3 := by omega
          rw [show ((3 : Nat) : Int) = 3 from rfl]
          obtain ⟨Aa, ca, rfl⟩ := owns_slice hL.all
          go_wp2_with fail
          go_loopw [20] (fun i wr => ∃ (q : Nat), q ≤ 3 ∧ i = .int .i64 (q : Int) ∧ Keeps None w8 wr ∧ (q = 0 → Al w8.heap.size rs (.slice Aa rs.length ca) wr)) (fun i _ => 3 - (intOf i).toNat)
          case atStart => exact ⟨0, by omega, rfl, hK, fun _ => hL⟩
          case round =>
            clear hL hK
            obtain ⟨q, hq, rfl, hK, hL⟩ := hrel
            by_cases hql : q < 3
            · obtain ⟨m, hm'⟩ : ∃ m, ms[q]? = some m := ⟨_, List.getElem?_eq_getElem (by have := hms3.out; omega)⟩
              have hM8 := hP.mach q m hm'
              have hc8 := hP.cell q m hm'
              obtain ⟨Aw, cw', hw8, hN8⟩ := hP.want q hql
              have hdl : (datF q zs).length ≤ 140737488351232 := by
                unfold datF
                split
                · simp
                · exact hr
              obtain ⟨g, X, rd⟩ := m
              simp only at hM8 hc8
              obtain ⟨t1, ht1⟩ : ∃ t, t = (tagF q).1 := ⟨_, rfl⟩
              obtain ⟨t2, ht2⟩ : ∃ t, t = (tagF q).2 := ⟨_, rfl⟩
              have htt : tagF q = (t1, t2) := by rw [ht1, ht2]
              obtain ⟨ds, hds⟩ : ∃ d, d = datF q zs := ⟨_, rfl⟩
              rw [htt, ← hds] at hM8
              rw [← hds] at hw8 hN8 hdl
              have h8s := hK.size
              have HL := Lib.hid hL
              have hci := hK.cell hc8 id
              have hMi := hM8.grew hK
              clear ht1 ht2 htt hds hm' hL
              go_upto_region 33 with (fail)
              go_wp2_with fail
              refine (mach_done g w.heap.size X hRd rd (.ended 0 (t1, t2) ds) wr hMi).mono ?_
              rintro e w2 ⟨u, rfl, hU, hk2⟩
              have hU' : Row .u8 5 w2 wr.heap.size u ds := hU
              clear hU
              obtain ⟨Au, cu, rfl⟩ := hU'.slice
              simp only [doneV, resCells]
              go_upto_region 34 with (fail)
              have hXn := Blk.new w2 46 [.int .i64 0, .string ⟨#[]⟩, .int .i64 0, .int .i64 0, .int .i64 0, .slice Option.none 0 0, .slice Au ds.length cu, .int .i64 0, .int .i64 t1, .int .i64 t2, .int .i64 0]
              have kX := (Keeps.refl None w2).alloc (.cells #[.int .i64 0, .string ⟨#[]⟩, .int .i64 0, .int .i64 0, .int .i64 0, .slice Option.none 0 0, .slice Au ds.length cu, .int .i64 0, .int .i64 t1, .int .i64 t2, .int .i64 0] 46)
              obtain ⟨lb, hlb⟩ : ∃ x, x = w2.heap.size := ⟨_, rfl⟩
              obtain ⟨Wx, hWx⟩ : ∃ W, W = w2.alloc (.cells #[.int .i64 0, .string ⟨#[]⟩, .int .i64 0, .int .i64 0, .int .i64 0, .slice Option.none 0 0, .slice Au ds.length cu, .int .i64 0, .int .i64 t1, .int .i64 t2, .int .i64 0] 46) := ⟨_, rfl⟩
              have hXx : Blk Wx lb 46 [.int .i64 0, .string ⟨#[]⟩, .int .i64 0, .int .i64 0, .int .i64 0, .slice Option.none 0 0, .slice Au ds.length cu, .int .i64 0, .int .i64 t1, .int .i64 t2, .int .i64 0] := by rw [hWx, hlb]; exact hXn
              rw [← hWx] at kX
              rw [← hWx, ← hlb]
              have hlw : wr.heap.size ≤ lb := by rw [hlb]; exact hk2.size
              clear hWx hXn hlb
              have hk2x := hk2.trans kX
              have hUx := hU'.grew kX
              have hKx := hK.trans hk2x
              clear hU' kX hMi hci
              by_cases hq0 : q = 0
              case' pos =>
                have hL0 := HL.out hq0
                have hLx := hL0.grew hk2x
                have hlt : ∀ b, OwnM rs b → w8.heap.size ≤ b ∧ b < wr.heap.size := fun b hb => hL0.manyLt hb
                have hrl2 : rs.length ≤ 15 := by omega
                subst hq0
                go_wp2_with fail
                refine (grown_any Aa rs.length ca rs w8.heap.size Wx hLx.lies hLx.many rfl (by omega) hLx.short (by have := hk2x.size; omega)).mono ?_
                rintro e W3 ⟨rfl, hkg⟩
                have hX3 := hXx.keeps hkg (fun e => by have := hlt _ e; omega)
                have hU3 := hUx.keeps hkg (fun b e f => by have := hlt _ f; have := (hUx.lt b e).1; omega)
                have hK3 : Keeps None w8 W3 := hKx.andThen hkg (fun b hb e => by have := hlt _ e; omega)
                clear hL0 hLx hlt hrl2 hkg hXx hUx hKx HL hk2x hk2
                go_upto_region 36 with (fail)
              case' neg =>
                obtain ⟨ta, tb⟩ := test_ne (show ¬ (q : Int) = 0 by omega)
                go_upto_region 36 with (fail)
                obtain ⟨W3, hW3⟩ : ∃ W, W = Wx := ⟨_, rfl⟩
                have hX3 := hXx
                have hU3 := hUx
                have hK3 := hKx
                rw [← hW3] at hX3 hU3 hK3
                rw [← hW3]
                clear hW3 ta tb hXx hUx hKx HL hk2x hk2 hq0
              all_goals
                have hci := hK3.cell hc8 id
                have hMi := hM8.grew hK3
                go_wp2_with fail
                refine (mach_done g w.heap.size X hRd rd (.ended 0 (t1, t2) ds) W3 hMi).mono ?_
                rintro e w4 ⟨u', rfl, hV, hk4⟩
                have hV' : Row .u8 5 w4 W3.heap.size u' ds := hV
                clear hV
                obtain ⟨Av, cv, rfl⟩ := hV'.slice
                simp only [doneV, resCells]
                go_upto_region 37 with (fail)
                have hYn := Blk.new w4 46 [.int .i64 0, .string ⟨#[]⟩, .int .i64 0, .int .i64 0, .int .i64 0, .slice Option.none 0 0, .slice Av ds.length cv, .int .i64 0, .int .i64 t1, .int .i64 t2, .int .i64 0]
                have kY := (Keeps.refl None w4).alloc (.cells #[.int .i64 0, .string ⟨#[]⟩, .int .i64 0, .int .i64 0, .int .i64 0, .slice Option.none 0 0, .slice Av ds.length cv, .int .i64 0, .int .i64 t1, .int .i64 t2, .int .i64 0] 46)
                obtain ⟨xb, hxb⟩ : ∃ x, x = w4.heap.size := ⟨_, rfl⟩
                obtain ⟨W5, hW5⟩ : ∃ W, W = w4.alloc (.cells #[.int .i64 0, .string ⟨#[]⟩, .int .i64 0, .int .i64 0, .int .i64 0, .slice Option.none 0 0, .slice Av ds.length cv, .int .i64 0, .int .i64 t1, .int .i64 t2, .int .i64 0] 46) := ⟨_, rfl⟩
                have hY5 : Blk W5 xb 46 [.int .i64 0, .string ⟨#[]⟩, .int .i64 0, .int .i64 0, .int .i64 0, .slice Option.none 0 0, .slice Av ds.length cv, .int .i64 0, .int .i64 t1, .int .i64 t2, .int .i64 0] := by rw [hW5, hxb]; exact hYn
                rw [← hW5] at kY
                rw [← hW5, ← hxb]
                clear hW5 hYn hxb hMi hci
                have hk5 := hk4.trans kY
                have hK5 := hK3.trans hk5
                have l6 := (hX3.grew hk5).cell 6 _ rfl
                have x6 := hY5.cell 6 _ rfl
                have hwx := hK5.cell hw8 id
                have hN5 := hN8.grew hK5
                have nu := (Nums.row (hU3.grew hk5)).1
                have nv := (Nums.row (hV'.grew kY)).1
                have hsame : ∀ A c, (A = Au ∧ c = cu) ∨ (A = Av ∧ c = cv) → ∀ n, Calls Try.prog 13 #[.slice A ds.length c, .slice Aw ds.length cw'] (W5.drewN n) fun e w'' => e = .returned (.bool true) ∧ ∃ m, w'' = W5.drewN m := fun A c hAc n =>
                  Calls.quiet_of ((same_any A ds.length c ds Aw ds.length cw' ds (W5.drewN n) (by rcases hAc with ⟨rfl, rfl⟩ | ⟨rfl, rfl⟩; exact nu.grew ((Keeps.refl None W5).drewN n); exact nv.grew ((Keeps.refl None W5).drewN n)) rfl (hN5.grew ((Keeps.refl None W5).drewN n)) rfl hdl).mono fun _ _ h => ⟨by rw [h.1]; simp [SameB], h.2.out⟩)
                clear hV' kY hk5 hk4 hX3 hU3 hY5 hN5 hK3 nu nv
                go_quiet ((go_at_call 13; exact hsame _ _ (by first | exact .inl ⟨rfl, rfl⟩ | exact .inr ⟨rfl, rfl⟩) _))
                clear hsame l6 x6 hwx
                go_wp2
                have hK6 := fun n => hK5.drewN n
                go_roundw
                case rel => first | exact ⟨q + 1, by omega, by go_num, hK6 _, fun h => by omega⟩ | exact ⟨1, by omega, by go_num, hK6 _, fun h => by omega⟩
                case measure => first | (simp [intOf]; done) | (simp [intOf]; omega)
            · obtain rfl : q = 3 := by omega
              have hPr := hP.grew hK
              have b2 := hPr.held.cell 2 _ rfl
              go_wp2_with fail
              refine (same_any Ah zs.length ch zs A zs.length cap zs wr hPr.heldN rfl (hA8.grew hK) rfl hr).mono ?_
              rintro e w4 ⟨rfl, hk4⟩
              have hk4 := hk4.keeps None
              rw [SameB_self]
              go_wp2_with fail
              refine (same_any Ad ys.length cd ys A' ys.length cap' ys w4 (hPr.data.grew hk4) rfl ((hA8'.grew hK).grew hk4) rfl hr').mono ?_
              rintro e w5 ⟨rfl, hk5⟩
              have hk5 := hk5.keeps None
              rw [SameB_self]
              go_wp2_with fail
              refine (head_any w5).mono ?_
              rintro e w6 ⟨rfl, hk6⟩
              go_wp2_with fail
              go_ret
              exact ⟨rfl, ((hPr.keep.trans hk4).trans hk5).trans hk6⟩
end Go.Proofs.Ytcihfjfbcfgidaa
