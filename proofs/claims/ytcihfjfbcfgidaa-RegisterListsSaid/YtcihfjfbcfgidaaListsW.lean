/- RegisterLists, walked. -/
import Derived.Test.YtcihfjfbcfgidaaListsP
import Derived.Handy
namespace Go.Proofs.Ytcihfjfbcfgidaa
open GM Go.RowKit Go.Maps Go.Proofs.YtcihfjfbcfgidaaW.PrintLast
set_option linter.unusedVariables false

theorem missA_nil (l : List Int) : missA l [] = l := by unfold missA; simp [lookA]
theorem begin_out (h : Hd) : beginF h 7 .fresh = (7, .asking [], tickF h 7 (.asking [])) := by unfold beginF tickF; simp [missA_nil]
theorem tick_fresh (h : Hd) (round : Int) : tickF h round .fresh = .no := rfl

set_option maxRecDepth 100000 in
set_option maxHeartbeats 16000000 in
theorem lists_any (A : Option Addr) (n cap : Nat) (l : List Int) (wrt : Bool) (B : Option Addr) (m cap0 : Nat) (zs : List Int) (w : World) (hA : Nums .i64 w A l) (hn : l.length = n) (hwf : ∀ s ∈ l, (Lit.int .i64 s).wf = true) (hcap : A = Option.none → cap = 0) (hN : n ≤ 140737488351232) (hB : Nums .u8 w B zs) (hm : zs.length = m) (hz : m ≤ 140737488351232) :
    Calls Try.prog 7 #[.slice A n cap, .bool wrt, .slice B m cap0] w fun e w' => e = .returned (.bool true) ∧ Keeps None w w' := by
  subst hm
  obtain ⟨x0, hx0⟩ : ∃ x, x = w.heap.size := ⟨_, rfl⟩
  obtain ⟨W1, hW1⟩ : ∃ W, W = w.alloc (.cells #[.bool wrt, .int .i64 3, .int .i64 1, .int .i64 1, .int .i64 3, .int .i64 1, .int .i64 0, .slice A n cap, .int .i64 7, .int .i64 zs.length, .slice B zs.length cap0] 71) := ⟨_, rfl⟩
  have kw1 : Keeps None w W1 := by rw [hW1]; exact (Keeps.refl _ _).alloc _
  have hX : Blk W1 x0 71 [.bool wrt, .int .i64 3, .int .i64 1, .int .i64 1, .int .i64 3, .int .i64 1, .int .i64 0, .slice A n cap, .int .i64 7, .int .i64 zs.length, .slice B zs.length cap0] := by rw [hW1, hx0]; exact Blk.new _ _ _
  have rX := hX.range 0 [.bool wrt, .int .i64 3, .int .i64 1, .int .i64 1, .int .i64 3, .int .i64 1, .int .i64 0, .slice A n cap, .int .i64 7, .int .i64 zs.length, .slice B zs.length cap0] rfl
  go_enter Try.func7, Try.ntmps7
  by_cases hbig : 100 < n
  · have tst : decide ((n : Int) > 100) = true := decide_eq_true (by omega)
    clear hx0 hW1 kw1 hX rX
    go_wp2_with fail
    refine (head_any w).mono ?_
    rintro e wc ⟨rfl, hkc⟩
    go_wp2_with fail
    go_ret
    exact ⟨rfl, hkc⟩
  · have tst : decide ((n : Int) > 100) = false := decide_eq_false (by omega)
    go_upto_region 4 with (fail)
    rw [← hW1, ← hx0]
    clear hx0 hW1
    go_wp2_with (refine wpList_load_mid_w ?_ 71 (.tmp 7) rfl x0 0 ?_ [.bool wrt, .int .i64 3, .int .i64 1, .int .i64 1, .int .i64 3, .int .i64 1, .int .i64 0, .slice A n cap, .int .i64 7, .int .i64 zs.length, .slice B zs.length cap0] _ rX Try.underlying71 rfl (by kernel_rfl) ?_; (rfl); (rfl))
    refine (made7_any wrt 3 1 1 3 1 0 A n cap l 7 zs.length B zs.length cap0 zs W1 (hA.grew kw1) hn (by omega) hwf hcap (hB.grew kw1) rfl hz).mono ?_
    rintro e w2 ⟨g, r, X0, Z0, V0, rfl, hB2, hk2⟩
    obtain ⟨hh, hhd⟩ : ∃ h, h = hdOf wrt 3 1 1 3 1 0 l zs.length zs := ⟨_, rfl⟩
    rw [← hhd] at hB2
    clear hhd
    have hgr := hB2.p.ok.grp
    have hgw := hB2.p.ok.wf
    have hBlt : ∀ b o, B = some ⟨b, o, Option.none⟩ → 0 < zs.length → b < W1.heap.size := fun b o e h0 => by subst e; exact (hB.grew kw1).lt h0
    have hBw : Nums .u8 w B zs := hB
    obtain ⟨base, hbase⟩ : ∃ b, b = W1.heap.size := ⟨_, rfl⟩
    rw [← hbase] at hB2 hBlt
    have HBLT := Lib.hid hBlt
    simp only [bothV]
    obtain ⟨y, hy⟩ : ∃ y, y = w2.heap.size := ⟨_, rfl⟩
    obtain ⟨w3, hw3⟩ : ∃ W, W = w2.alloc (.cells #[.iface 104 (.pointer (some ⟨g, 0, Option.none⟩)), .pointer (some ⟨r, 0, Option.none⟩)] 75) := ⟨_, rfl⟩
    have kw3 : Keeps None w2 w3 := by rw [hw3]; exact (Keeps.refl _ _).alloc _
    have hY : Blk w3 y 75 [.iface 104 (.pointer (some ⟨g, 0, Option.none⟩)), .pointer (some ⟨r, 0, Option.none⟩)] := by rw [hw3, hy]; exact Blk.new _ _ _
    go_upto_region 5 with (fail)
    rw [← hw3, ← hy]
    have hB3 := hB2.grew kw3
    have hyO : ¬ My X0 g Z0 y := fun f => by have := (hB2.my y f).2; omega
    obtain ⟨Bt, hBt⟩ : ∃ b, b = w3.heap.size := ⟨_, rfl⟩
    have k03 : Keeps None w w3 := (kw1.trans hk2).trans kw3
    have hwb : w.heap.size ≤ base := by have := kw1.size; omega
    have hbB : base ≤ Bt := by have := hk2.size; have := kw3.size; omega
    have hS3 : Side w w3 Bt y g r [] (.slice Option.none 0 0) (My X0 g Z0) := ⟨hY, hyO, Far.none _ _ _, k03, fun b f => by have := (hB3.my b f).1; omega, by have := k03.size; omega, by omega, by have := hY.lt; omega⟩
    obtain ⟨i1, hi1, hy0, hy1, hy2⟩ := info_parts infoMs
    clear hw3 hy hbase kw1 hk2 kw3 hB2 rX hX hY hyO hBt k03 hBlt hA hB
    go_wp2_with fail
    go_loopw [10, 11] (fun al i wr => ∃ (k : Nat) (rs : Lot) (X Z W : Nat → Prop) (round : Int) (ph : Ph), k ≤ 4 ∧ i = .int .i64 k ∧ Hid (rs.length = k) ∧ Hid (k = 0 → ph = .fresh ∧ round = 7) ∧ Bo wr base X g Z W r hh round ph ∧ Side w wr Bt y g r rs al (My X g Z)) (fun _ i _ => 4 - (intOf i).toNat)
    case atStart => exact ⟨0, [], X0, Z0, V0, 7, .fresh, Nat.zero_le _, rfl, Lib.hid rfl, Lib.hid (fun _ => ⟨rfl, rfl⟩), hB3, hS3⟩
    case round =>
      clear hB3 hS3
      obtain ⟨k, rs, X, Z, V, round, ph, hk, rfl, HL, HF, hB, hS⟩ := hrel
      obtain ⟨Al, cl, rfl⟩ := owns_slice hS.far.lst.all
      have y0 := hS.blk.cell 0 _ rfl
      by_cases hlt : k < 4
      · go_wp2_with fail
        refine (tick_any g base X hh round ph _ hB.p).mono ?_
        intro e w4 hs
        obtain ⟨X1, B1, u, rfl, hH, hP, hsB, hmy, hk4⟩ := hB.tell hs
        have hS4 := hS.go hk4 hmy
        have hold := hS.rsLt hsB
        have hB4 : Bo w4 base X1 g Z V r hh round ph := ⟨hH.p, hH.r, hH.apart⟩
        have hBtB : Bt ≤ B1 := Nat.le_trans hS.low.2.1 hsB
        clear hs y0 hH hk4 hsB hmy
        by_cases hk0 : k = 0
        case' pos =>
          obtain ⟨e1, e2⟩ := HF.out hk0
          subst e1
          subst e2
          clear hP hold hBtB
          have y0 := hS4.blk.cell 0 _ rfl
          have tst : decide ((k : Int) = 0) = true := decide_eq_true (by omega)
          obtain ⟨tq1, tq2⟩ := test_eq (show (k : Int) = 0 by omega)
          go_wp2_with fail
          refine (begin_any g base X1 hh 7 .fresh w4 hB4.p).mono ?_
          intro e w5 hs
          rw [begin_out] at hs
          obtain ⟨X2, B2, u2, rfl, hH5, hP5, hsB5, hmy5, hk5⟩ := hB4.tell hs
          have hS5 := hS4.go hk5 hmy5
          have hold := hS4.rsLt hsB5
          have hBtB : Bt ≤ B2 := Nat.le_trans hS4.low.2.1 hsB5
          have y1 := hS5.blk.cell 1 _ rfl
          clear hs y0 hsB5 hmy5 hk5 hS4 hB4
          go_wp2_with fail
          refine (refbegin_any base r Z V hh 7 .fresh w5 hH5.r).mono ?_
          intro e w6 hs
          rw [begin_out] at hs
          obtain ⟨Z2, V2, u3, rfl, hB6, -, hmy6, hk6⟩ := hH5.tell hs
          have hS6 := hS5.go hk6 hmy6
          have hP6 := hP5.go hk6 (fun b _ f => hP5.far b f) hmy6
          have hB6 : Bo w6 base X2 g Z2 V2 r hh 7 (.asking []) := hB6
          clear hs y1 hH5 hP5 hmy6 hk6 hS5
          have hlq : lnO (tickF hh 7 (.asking [])) ≤ 1000 := Nat.le_trans (lnO_tick _ _ _) hgr
          obtain ⟨oq, hoq⟩ : ∃ o, o = tickF hh 7 (.asking []) := ⟨_, rfl⟩
          rw [← hoq] at hP6 hlq
          have HOQ := Lib.hid hoq
          have hBq := hB6
          have hSq := hS6
          have hPq := hP6
          clear hB6 hS6 hP6 hoq
          obtain ⟨wq, hwq⟩ : ∃ W, W = w6 := ⟨_, rfl⟩
          rw [← hwq] at hBq hSq hPq ⊢
          clear hwq
          go_upto_region 15 with (fail)
        case' neg =>
          have tst : decide ((k : Int) = 0) = false := decide_eq_false (by omega)
          obtain ⟨tq1, tq2⟩ := test_ne (show ¬ (k : Int) = 0 by omega)
          have hlq : lnO (tickF hh round ph) ≤ 1000 := Nat.le_trans (lnO_tick _ _ _) hgr
          obtain ⟨oq, hoq⟩ : ∃ o, o = tickF hh round ph := ⟨_, rfl⟩
          rw [← hoq] at hP hlq
          have HOQ := Lib.hid hoq
          have hBq := hB4
          have hSq := hS4
          have hPq := hP
          clear hB4 hS4 hP hoq
          obtain ⟨wq, hwq⟩ : ∃ W, W = w4 := ⟨_, rfl⟩
          rw [← hwq] at hBq hSq hPq ⊢
          clear hwq
          go_upto_region 15 with (fail)
        all_goals
          clear tst tq1 tq2
          skip
          have y1 := hSq.blk.cell 1 _ rfl
          go_wp2_with fail
          refine (reftick_any base r _ _ hh _ _ wq hBq.r).mono ?_
          intro e w7 hs
          rw [← HOQ.out] at hs
          obtain ⟨Z3, V3, u4, rfl, hB7, hSe', hmy7, hk7⟩ := hBq.rtell hs
          have hS7 := hSq.go hk7 hmy7
          have hP7 := hPq.go hk7 (fun b _ f => hPq.far b f) hmy7
          have hSe := hP7.out_.see (fun kind round tag zs l e => by rw [e] at hSe'; obtain ⟨_, _, _, hz, _⟩ := hSe'; exact hz)
          clear hs y1 hmy7 hk7 hBq hSq hPq
          go_wp2_with fail
          refine (samemsgs_any hh _ _ u4 w7 hSe hSe' (by omega)).mono ?_
          rintro e w8 ⟨rfl, hk8⟩
          have hS8 := hS7.grew hk8
          have hP8 := hP7.grew hk8
          have hB8 := hB7.grew hk8
          clear hSe hSe' hS7 hP7 hB7 hk8
          obtain ⟨nu, hnu⟩ : ∃ q, q = lnO oq := ⟨_, rfl⟩
          rw [← hnu] at hlq
          obtain ⟨Au, cu, hu⟩ := hP8.out_.slice
          rw [← hnu] at hu
          have HNU := Lib.hid hnu
          clear hnu
          subst hu
          have hrl : rs.length ≤ 10000 := by have := HL.out; omega
          have hwt := hS8.low.2.1
          have hAl := hS8.far.lst.all
          go_wp2_with (at_builtin; refine wpList_append_row _ rfl (.tmp 60) (.tmp 62) 82 rfl Bt 55 i1 (.slice Option.none 0 0) 1 24 Try.underlying82 hi1 hy0 hy1 hy2 rfl (by decide) _ rs.length _ rfl (owns_grew hAl ((Keeps.refl None _).alloc _)) (some ⟨w8.heap.size, 0, Option.none⟩) 1 1 [Value.slice Au nu cu] rfl rfl (fun e => by cases e) (src_new w8 55 _ _ rfl) (by intro u hu; simp at hu; subst hu; rfl) (by unfold maxLen; omega) (by omega) (by simp; omega) ?_; intro al9 w9 hown9 hk9 hloc9)
          have hkA : Keeps None w8 (w8.alloc (.cells #[Value.slice Au nu cu] 55)) := (Keeps.refl None _).alloc _
          obtain ⟨zq, hS9⟩ := hS8.push hP8 hold hBtB (by rw [← HNU.out]; omega) hkA hown9 hk9 hloc9 (fun b f => (hB8.my b f).2)
          have hB9 := (hB8.grew hkA).keepsMy hk9 (fun b f e => hS8.far.far b (.inr e) f) (fun b e => by have := (hS8.far.alLt (.inr e)).1; omega)
          go_roundw
          case rel => exact ⟨k + 1, _, _, Z3, V3, _, _, by omega, by first | go_num | (rw [hk0]; rfl), Lib.hid (by rw [List.length_append, HL.out]; rfl), Lib.hid (fun e => by omega), hB9, hS9⟩
          case measure => simp [intOf]; omega
      · have e4 : (k : Int) = 4 := by omega
        have hl4 : rs.length ≤ 4 := by have := HL.out; omega
        rw [e4]
        clear e4 hlt hk
        have HL4 := Lib.hid hl4
        clear hl4 HL HF y0
        rename World => w10
        go_wp2_with fail
        go_loopw [10, 13] (fun al i wr => ∃ (k : Nat) (rs : Lot) (X Z W : Nat → Prop) (round : Int) (ph : Ph), k ≤ hh.grp.length ∧ i = .int .i64 k ∧ Hid (rs.length ≤ 4 + k) ∧ Bo wr base X g Z W r hh round ph ∧ Side w wr Bt y g r rs al (My X g Z)) (fun _ i _ => hh.grp.length - (intOf i).toNat)
        case atStart => exact ⟨0, rs, X, Z, V, round, ph, Nat.zero_le _, rfl, HL4, hB, hS⟩
        case round =>
          clear hB hS HL4
          obtain ⟨k, rs, X, Z, V, round, ph, hk, rfl, HL, hB, hS⟩ := hrel
          obtain ⟨Al, cl, rfl⟩ := owns_slice hS.far.lst.all
          have y0 := hS.blk.cell 0 _ rfl
          have y1 := hS.blk.cell 1 _ rfl
          obtain ⟨gv, rsz, bv, p, av, vv, t1, t2, err, hBr, hG, -, -, hAt, -, -, -⟩ := hB.r.out
          obtain ⟨Ag, cg, rfl⟩ := hG.slice
          have r7 := hBr.cell 7 _ rfl
          have r11 := hBr.cell 11 _ rfl
          clear hBr hG hAt
          by_cases hgo : k < hh.grp.length ∧ p = 1
          · obtain ⟨hlt, rfl⟩ := hgo
            have hw1 : IntKind.i64.wrap (1 + (k : Int)) = 1 + (k : Int) := IntWalk.i64_in _ (by omega)
            obtain ⟨fi, hfi⟩ : ∃ f, f = nearF hh.grp (k : Int) := ⟨_, rfl⟩
            have wfi : (Lit.int .i64 fi).wf = true := by rw [hfi]; exact nearF_wf hgw (by simp [Lit.wf]; have h1 : IntKind.i64.min = -9223372036854775808 := rfl; have h2 : IntKind.i64.max = 9223372036854775807 := rfl; omega)
            have HFI := Lib.hid hfi
            clear hfi
            go_wp2_with fail
            refine (near_any base Z V g r hh round ph 11 false (k : Int) false 0 0 0 0 0 0 0 (1 + (k : Int)) 2 0 0 B zs.length cap0 0 0 0 ⟨#[]⟩ 0 0 0 0 0 0 Option.none 0 0 Option.none 0 0 Option.none 0 0 false _ hB.r).mono ?_
            rintro e w5 ⟨rfl, hk5⟩
            rw [← HFI.out]
            have hV0 := Blk.new w5 66 (msgL 0 false 0 false 0 0 0 0 0 0 0 0 0 (.slice Option.none 0 0))
            go_upto_region 22 with (refine wpList_store_msg rfl (.tmp 14) (.tmp 90) rfl w5.heap.size [.int .i64 11, .bool false, .int .i64 fi, .bool true, .int .i64 hh.client, .int .i64 hh.op, .int .i64 round, .int .i64 hh.k0, .int .i64 hh.k1, .int .i64 hh.k2, .int .i64 hh.k3, .int .i64 (1 + (k : Int)), .int .i64 2, .int .i64 0, .int .i64 0, .slice B zs.length cap0, .int .i64 0, .int .i64 0, .int .i64 0, .string ⟨#[]⟩, .int .i64 0, .int .i64 0, .int .i64 0, .int .i64 0, .int .i64 0, .int .i64 0, .slice Option.none 0 0, .slice Option.none 0 0, .slice Option.none 0 0, .bool false] (msgL 0 false 0 false 0 0 0 0 0 0 0 0 0 (.slice Option.none 0 0)) ?_ ?_ ?_ ?_ ?_ ?_ ?_; (rfl); (rfl); (exact hV0); (rfl); (rfl); (simp [Value.oneCell']))
            obtain ⟨w6, hW6⟩ : ∃ W, W = (w5.alloc (.cells (msgL 0 false 0 false 0 0 0 0 0 0 0 0 0 (.slice Option.none 0 0)).toArray 66)).setRow w5.heap.size ([.int .i64 11, .bool false, .int .i64 fi, .bool true, .int .i64 hh.client, .int .i64 hh.op, .int .i64 round, .int .i64 hh.k0, .int .i64 hh.k1, .int .i64 hh.k2, .int .i64 hh.k3, .int .i64 (1 + (k : Int)), .int .i64 2, .int .i64 0, .int .i64 0, .slice B zs.length cap0, .int .i64 0, .int .i64 0, .int .i64 0, .string ⟨#[]⟩, .int .i64 0, .int .i64 0, .int .i64 0, .int .i64 0, .int .i64 0, .int .i64 0, .slice Option.none 0 0, .slice Option.none 0 0, .slice Option.none 0 0, .bool false] : List Value).toArray := ⟨_, rfl⟩
            have hV6 := hV0.setRow [.int .i64 11, .bool false, .int .i64 fi, .bool true, .int .i64 hh.client, .int .i64 hh.op, .int .i64 round, .int .i64 hh.k0, .int .i64 hh.k1, .int .i64 hh.k2, .int .i64 hh.k3, .int .i64 (1 + (k : Int)), .int .i64 2, .int .i64 0, .int .i64 0, .slice B zs.length cap0, .int .i64 0, .int .i64 0, .int .i64 0, .string ⟨#[]⟩, .int .i64 0, .int .i64 0, .int .i64 0, .int .i64 0, .int .i64 0, .int .i64 0, .slice Option.none 0 0, .slice Option.none 0 0, .slice Option.none 0 0, .bool false]
            have kv : Keeps None w5 ((w5.alloc (.cells (msgL 0 false 0 false 0 0 0 0 0 0 0 0 0 (.slice Option.none 0 0)).toArray 66)).setRow w5.heap.size ([.int .i64 11, .bool false, .int .i64 fi, .bool true, .int .i64 hh.client, .int .i64 hh.op, .int .i64 round, .int .i64 hh.k0, .int .i64 hh.k1, .int .i64 hh.k2, .int .i64 hh.k3, .int .i64 (1 + (k : Int)), .int .i64 2, .int .i64 0, .int .i64 0, .slice B zs.length cap0, .int .i64 0, .int .i64 0, .int .i64 0, .string ⟨#[]⟩, .int .i64 0, .int .i64 0, .int .i64 0, .int .i64 0, .int .i64 0, .int .i64 0, .slice Option.none 0 0, .slice Option.none 0 0, .slice Option.none 0 0, .bool false] : List Value).toArray) := ((Keeps.refl None w5).alloc _).setRow _ _ (fun f => absurd f (Nat.lt_irrefl _))
            rw [← hW6] at hV6 kv
            simp only [msgL] at hW6
            rw [← hW6]
            obtain ⟨v, hvv⟩ : ∃ v, v = w5.heap.size := ⟨_, rfl⟩
            rw [← hvv] at hV6 ⊢
            have hv5 : w5.heap.size ≤ v := by omega
            have k46 := hk5.trans kv
            have hS6 := hS.grew k46
            have hB6 := hB.grew k46
            have hvP : ¬ My X g Z v := fun f => by have := (hB.my v f).2; have := hk5.size; omega
            clear hW6 hV0 hvv hk5 kv k46 y0 y1 r7 r11 hS hB
            have y0 := hS6.blk.cell 0 _ rfl
            go_wp2_with (refine wpList_load_msg rfl (.tmp 14) rfl v ?_ [.int .i64 11, .bool false, .int .i64 fi, .bool true, .int .i64 hh.client, .int .i64 hh.op, .int .i64 round, .int .i64 hh.k0, .int .i64 hh.k1, .int .i64 hh.k2, .int .i64 hh.k3, .int .i64 (1 + (k : Int)), .int .i64 2, .int .i64 0, .int .i64 0, .slice B zs.length cap0, .int .i64 0, .int .i64 0, .int .i64 0, .string ⟨#[]⟩, .int .i64 0, .int .i64 0, .int .i64 0, .int .i64 0, .int .i64 0, .int .i64 0, .slice Option.none 0 0, .slice Option.none 0 0, .slice Option.none 0 0, .bool false] ?_ ?_ ?_; (rfl); (exact hV6); (rfl))
            have hZ6 : Nums .u8 w6 B zs := hBw.grew hS6.keeps
            refine (take_any g base X hh round ph 11 false fi true hh.client hh.op round hh.k0 hh.k1 hh.k2 hh.k3 (1 + (k : Int)) 2 0 0 B cap0 zs 0 0 0 ⟨#[]⟩ 0 0 0 0 0 0 Option.none 0 0 Option.none 0 0 Option.none 0 0 false w6 hB6.p hZ6 hz wfi).mono ?_
            intro e w7 hs
            obtain ⟨X1, B1, u, rfl, hH, hP, hsB, hmy, hk7⟩ := hB6.tell hs
            have hS7 := hS6.go hk7 hmy
            have hold := hS6.rsLt hsB
            have hV7 := hV6.keeps hk7 hvP
            have hBtB : Bt ≤ B1 := Nat.le_trans hS6.low.2.1 hsB
            have y1 := hS7.blk.cell 1 _ rfl
            have hZ7 : Nums .u8 w7 B zs := hBw.grew hS7.keeps
            have hlq := Nat.le_trans (lnO_take hh round ph 11 fi (1 + (k : Int), 2) zs (fitsF hh round false true hh.client hh.op round hh.k0 hh.k1 hh.k2 hh.k3)) hgr
            obtain ⟨oq, hoq⟩ : ∃ o, o = (takeF hh round ph 11 fi (1 + (k : Int), 2) zs (fitsF hh round false true hh.client hh.op round hh.k0 hh.k1 hh.k2 hh.k3)).2.2 := ⟨_, rfl⟩
            rw [← hoq] at hlq hP hH
            have HOQ := Lib.hid hoq
            clear hs hoq hsB hmy hk7 hS6 hB6 y0 hZ6 hV6
            go_wp2_with (refine wpList_load_msg rfl (.tmp 14) rfl v ?_ [.int .i64 11, .bool false, .int .i64 fi, .bool true, .int .i64 hh.client, .int .i64 hh.op, .int .i64 round, .int .i64 hh.k0, .int .i64 hh.k1, .int .i64 hh.k2, .int .i64 hh.k3, .int .i64 (1 + (k : Int)), .int .i64 2, .int .i64 0, .int .i64 0, .slice B zs.length cap0, .int .i64 0, .int .i64 0, .int .i64 0, .string ⟨#[]⟩, .int .i64 0, .int .i64 0, .int .i64 0, .int .i64 0, .int .i64 0, .int .i64 0, .slice Option.none 0 0, .slice Option.none 0 0, .slice Option.none 0 0, .bool false] ?_ ?_ ?_; (rfl); (exact hV7); (rfl))
            refine (reftake7_any base r Z V hh round ph 11 false fi true hh.client hh.op round hh.k0 hh.k1 hh.k2 hh.k3 (1 + (k : Int)) 2 0 0 B cap0 zs 0 0 0 ⟨#[]⟩ 0 0 0 0 0 0 Option.none 0 0 Option.none 0 0 Option.none 0 0 false w7 hH.r hZ7 hz HBLT.out).mono ?_
            intro e wA hs
            rw [← HOQ.out] at hs
            obtain ⟨Z3, V3, u4, rfl, hBA, hSe', hmy7, hkA⟩ := hH.tell hs
            have hSA := hS7.go hkA hmy7
            have hPA := hP.go hkA (fun b _ f => hP.far b f) hmy7
            have hSe := hPA.out_.see (fun kind round tag zs l e => by rw [e] at hSe'; obtain ⟨_, _, _, hz, _⟩ := hSe'; exact hz)
            clear hs y1 hmy7 hkA hH hS7 hP hV7 hZ7
            go_wp2_with fail
            refine (samemsgs_any hh _ _ u4 wA hSe hSe' (by omega)).mono ?_
            rintro e w8 ⟨rfl, hk8⟩
            have hS8 := hSA.grew hk8
            have hP8 := hPA.grew hk8
            have hB8 := hBA.grew hk8
            clear hSe hSe' hSA hPA hBA hk8
            obtain ⟨nu, hnu⟩ : ∃ q, q = lnO oq := ⟨_, rfl⟩
            rw [← hnu] at hlq
            obtain ⟨Au, cu, hu⟩ := hP8.out_.slice
            rw [← hnu] at hu
            have HNU := Lib.hid hnu
            clear hnu
            subst hu
            have hrl : rs.length ≤ 10000 := by have := HL.out; omega
            have hwt := hS8.low.2.1
            have hAl := hS8.far.lst.all
            go_wp2_with (at_builtin; refine wpList_append_row _ rfl (.tmp 103) (.tmp 105) 82 rfl Bt 55 i1 (.slice Option.none 0 0) 1 24 Try.underlying82 hi1 hy0 hy1 hy2 rfl (by decide) _ rs.length _ rfl (owns_grew hAl ((Keeps.refl None _).alloc _)) (some ⟨w8.heap.size, 0, Option.none⟩) 1 1 [Value.slice Au nu cu] rfl rfl (fun e => by cases e) (src_new w8 55 _ _ rfl) (by intro u hu; simp at hu; subst hu; rfl) (by unfold maxLen; omega) (by omega) (by simp; omega) ?_; intro al9 w9 hown9 hk9 hloc9)
            have hkA : Keeps None w8 (w8.alloc (.cells #[Value.slice Au nu cu] 55)) := (Keeps.refl None _).alloc _
            obtain ⟨zq, hS9⟩ := hS8.push hP8 hold hBtB (by rw [← HNU.out]; omega) hkA hown9 hk9 hloc9 (fun b f => (hB8.my b f).2)
            have hB9 := (hB8.grew hkA).keepsMy hk9 (fun b f e => hS8.far.far b (.inr e) f) (fun b e => by have := (hS8.far.alLt (.inr e)).1; omega)
            go_roundw
            case rel => exact ⟨k + 1, _, _, Z3, V3, _, _, by omega, by go_num, Lib.hid (by have := HL.out; rw [List.length_append]; simp; omega), hB9, hS9⟩
            case measure => simp [intOf]; omega
          · rcases (by omega : (¬ k < hh.grp.length) ∨ (k < hh.grp.length ∧ ¬ p = 1)) with hA1 | ⟨hA1, hA2⟩
            case' inl =>
              clear hgo
              go_upto_region 27 with (fail)
            case' inr =>
              obtain ⟨tq1, tq2⟩ := test_ne hA2
              clear hgo
              go_upto_region 27 with (fail)
              clear tq1 tq2
            all_goals
              have hl5 : rs.length ≤ 2000 := by have := HL.out; omega
              have HL5 := Lib.hid hl5
              clear hl5 HL hA1 y0 y1 r7 r11
              rename World => w20
              go_wp2_with fail
              go_loopw [10, 17] (fun al i wr => ∃ (k : Nat) (rs : Lot) (X Z W : Nat → Prop) (round : Int) (ph : Ph), k ≤ 2 ∧ i = .int .i64 k ∧ Hid (rs.length ≤ 2000 + k) ∧ Bo wr base X g Z W r hh round ph ∧ Side w wr Bt y g r rs al (My X g Z)) (fun _ i _ => 2 - (intOf i).toNat)
              case atStart => exact ⟨0, rs, X, Z, V, round, ph, Nat.zero_le _, rfl, HL5, hB, hS⟩
              case round =>
                clear hB hS HL5
                obtain ⟨k, rs, X, Z, V, round, ph, hk, rfl, HL, hB, hS⟩ := hrel
                obtain ⟨Al, cl, rfl⟩ := owns_slice hS.far.lst.all
                have y0 := hS.blk.cell 0 _ rfl
                by_cases hlt : k < 2
                · go_wp2_with fail
                  refine (tick_any g base X hh round ph _ hB.p).mono ?_
                  intro e wq hs
                  obtain ⟨X1, B1, u, rfl, hH, hPq, hsB, hmy, hk4⟩ := hB.tell hs
                  have hSq := hS.go hk4 hmy
                  have hold := hS.rsLt hsB
                  have hBq : Bo wq base X1 g Z V r hh round ph := ⟨hH.p, hH.r, hH.apart⟩
                  have hBtB : Bt ≤ B1 := Nat.le_trans hS.low.2.1 hsB
                  have hlq : lnO (tickF hh round ph) ≤ 1000 := Nat.le_trans (lnO_tick _ _ _) hgr
                  obtain ⟨oq, hoq⟩ : ∃ o, o = tickF hh round ph := ⟨_, rfl⟩
                  rw [← hoq] at hPq hlq
                  have HOQ := Lib.hid hoq
                  clear hs y0 hH hk4 hsB hmy hoq hS hB
                  have y1 := hSq.blk.cell 1 _ rfl
                  go_wp2_with fail
                  refine (reftick_any base r _ _ hh _ _ wq hBq.r).mono ?_
                  intro e w7 hs
                  rw [← HOQ.out] at hs
                  obtain ⟨Z3, V3, u4, rfl, hB7, hSe', hmy7, hk7⟩ := hBq.rtell hs
                  have hS7 := hSq.go hk7 hmy7
                  have hP7 := hPq.go hk7 (fun b _ f => hPq.far b f) hmy7
                  have hSe := hP7.out_.see (fun kind round tag zs l e => by rw [e] at hSe'; obtain ⟨_, _, _, hz, _⟩ := hSe'; exact hz)
                  clear hs y1 hmy7 hk7 hBq hSq hPq
                  go_wp2_with fail
                  refine (samemsgs_any hh _ _ u4 w7 hSe hSe' (by omega)).mono ?_
                  rintro e w8 ⟨rfl, hk8⟩
                  have hS8 := hS7.grew hk8
                  have hP8 := hP7.grew hk8
                  have hB8 := hB7.grew hk8
                  clear hSe hSe' hS7 hP7 hB7 hk8
                  obtain ⟨nu, hnu⟩ : ∃ q, q = lnO oq := ⟨_, rfl⟩
                  rw [← hnu] at hlq
                  obtain ⟨Au, cu, hu⟩ := hP8.out_.slice
                  rw [← hnu] at hu
                  have HNU := Lib.hid hnu
                  clear hnu
                  subst hu
                  have hrl : rs.length ≤ 10000 := by have := HL.out; omega
                  have hwt := hS8.low.2.1
                  have hAl := hS8.far.lst.all
                  go_wp2_with (at_builtin; refine wpList_append_row _ rfl (.tmp 120) (.tmp 122) 82 rfl Bt 55 i1 (.slice Option.none 0 0) 1 24 Try.underlying82 hi1 hy0 hy1 hy2 rfl (by decide) _ rs.length _ rfl (owns_grew hAl ((Keeps.refl None _).alloc _)) (some ⟨w8.heap.size, 0, Option.none⟩) 1 1 [Value.slice Au nu cu] rfl rfl (fun e => by cases e) (src_new w8 55 _ _ rfl) (by intro u hu; simp at hu; subst hu; rfl) (by unfold maxLen; omega) (by omega) (by simp; omega) ?_; intro al9 w9 hown9 hk9 hloc9)
                  have hkA : Keeps None w8 (w8.alloc (.cells #[Value.slice Au nu cu] 55)) := (Keeps.refl None _).alloc _
                  obtain ⟨zq, hS9⟩ := hS8.push hP8 hold hBtB (by rw [← HNU.out]; omega) hkA hown9 hk9 hloc9 (fun b f => (hB8.my b f).2)
                  have hB9 := (hB8.grew hkA).keepsMy hk9 (fun b f e => hS8.far.far b (.inr e) f) (fun b e => by have := (hS8.far.alLt (.inr e)).1; omega)
                  go_roundw
                  case rel => exact ⟨k + 1, _, _, Z3, V3, _, _, by omega, by go_num, Lib.hid (by have := HL.out; rw [List.length_append]; simp; omega), hB9, hS9⟩
                  case measure => simp [intOf]; omega
                · have e2 : (k : Int) = 2 := by omega
                  have hl6 : rs.length ≤ 3000 := by have := HL.out; omega
                  rw [e2]
                  clear e2 hlt HL
                  go_wp2_with fail
                  refine (tick_any g base X hh round ph _ hB.p).mono ?_
                  intro e w4 hs
                  obtain ⟨X1, B1, u, rfl, hH, hP, hsB, hmy, hk4⟩ := hB.tell hs
                  have hS4 := hS.go hk4 hmy
                  have hold := hS.rsLt hsB
                  have hB4 : Bo w4 base X1 g Z V r hh round ph := ⟨hH.p, hH.r, hH.apart⟩
                  have hlq : lnO (tickF hh round ph) ≤ 1000 := Nat.le_trans (lnO_tick _ _ _) hgr
                  obtain ⟨oq, hoq⟩ : ∃ o, o = tickF hh round ph := ⟨_, rfl⟩
                  rw [← hoq] at hP hlq
                  have HOQ := Lib.hid hoq
                  clear hs y0 hH hk4 hsB hmy hoq hS hB
                  go_wp2_with fail
                  refine (grownmsgs_any Al rs.length cl rs Bt w4 hS4.far.lst.lies hS4.far.lst.many rfl (by omega) (fun i v zs e => hS4.far.lst.short i v zs e) hS4.low.2.1).mono ?_
                  rintro e w5 ⟨rfl, hk5⟩
                  have hYB := hS4.low.2.2
                  have hY5 := hS4.blk.keeps hk5 (fun e => by have := (hS4.far.alLt (.inl e)).1; omega)
                  have hB5 := hB4.keepsMy hk5 (fun b f e => hS4.far.far b (.inl e) f) (fun b e => by have := (hS4.far.alLt (.inl e)).1; omega)
                  have hP5 := hP.go hk5 (fun b _ e => .inl (hold b (.inl e))) (fun b f => .inl f)
                  have k05 : Keeps None w w5 := hS4.keeps.andThen hk5 (fun i hi e => by have := (hS4.far.alLt (.inl e)).1; have := hS4.low.1; omega)
                  have hoff := hS4.off
                  have y1 := hY5.cell 1 _ rfl
                  clear hS4 hB4 hP hk5 hold
                  go_wp2_with fail
                  refine (reftick_any base r Z V hh round ph w5 hB5.r).mono ?_
                  intro e w6 hs
                  rw [← HOQ.out] at hs
                  obtain ⟨Z3, V3, u4, rfl, hB6, hSe', hmy6, hk6⟩ := hB5.rtell hs
                  have hP6 := hP5.go hk6 (fun b _ f => hP5.far b f) hmy6
                  have hSe := hP6.out_.see (fun kind round tag zs l e => by rw [e] at hSe'; obtain ⟨_, _, _, hz, _⟩ := hSe'; exact hz)
                  have hY6 := hY5.keeps hk6 hoff
                  have hoff6 : ¬ My X1 g Z3 y := fun f => (hmy6 y f).elim hoff (fun q => by have := hY5.lt; omega)
                  have k06 : Keeps None w w6 := k05.andThen hk6 (fun i hi f => by have := (hB5.my i f).1; omega)
                  clear hs y1 hmy6 hk6 hP5 hB5 hY5 k05 hoff hP6
                  go_wp2_with fail
                  refine (samemsgs_any hh _ u u4 w6 hSe hSe' (by omega)).mono ?_
                  rintro e w7 ⟨rfl, hk7⟩
                  have hB7 := hB6.grew hk7
                  have hY7 := hY6.grew hk7
                  have k07 := k06.trans hk7
                  have y0 := hY7.cell 0 _ rfl
                  clear hSe hSe' hB6 hY6 k06 hk7
                  go_wp2_with fail
                  refine (tick_any g base X1 hh round ph _ hB7.p).mono ?_
                  intro e w8 hs
                  rw [← HOQ.out] at hs
                  obtain ⟨X4, B4, u6, rfl, hH8, hP8, hsB8, hmy8, hk8⟩ := hB7.tell hs
                  have hB8 : Bo w8 base X4 g Z3 V3 r hh round ph := ⟨hH8.p, hH8.r, hH8.apart⟩
                  have hY8 := hY7.keeps hk8 hoff6
                  have hoff8 : ¬ My X4 g Z3 y := fun f => (hmy8 y f).elim hoff6 (fun q => by have := hY7.lt; omega)
                  have k08 : Keeps None w w8 := k07.andThen hk8 (fun i hi f => by have := (hB7.my i f).1; omega)
                  have y1 := hY8.cell 1 _ rfl
                  clear hs y0 hmy8 hk8 hH8 hB7 hY7 k07 hsB8
                  go_wp2_with fail
                  refine (reftick_any base r Z3 V3 hh round ph w8 hB8.r).mono ?_
                  intro e w9 hs
                  rw [← HOQ.out] at hs
                  obtain ⟨Z5, V5, u7, rfl, hB9, hSe', hmy9, hk9⟩ := hB8.rtell hs
                  have hP9 := hP8.go hk9 (fun b _ f => hP8.far b f) hmy9
                  have hSe := hP9.out_.see (fun kind round tag zs l e => by rw [e] at hSe'; obtain ⟨_, _, _, hz, _⟩ := hSe'; exact hz)
                  have hY9 := hY8.keeps hk9 hoff8
                  have k09 : Keeps None w w9 := k08.andThen hk9 (fun i hi f => by have := (hB8.my i f).1; omega)
                  clear hs y1 hmy9 hk9 hP8 hB8 hY8 k08 hP9
                  go_wp2_with fail
                  refine (samemsgs_any hh _ u6 u7 w9 hSe hSe' (by omega)).mono ?_
                  rintro e wA ⟨rfl, hkA⟩
                  have hBA := hB9.grew hkA
                  have hYA := hY9.grew hkA
                  have y0 := hYA.cell 0 _ rfl
                  have y1 := hYA.cell 1 _ rfl
                  clear hSe hSe' hB9 hY9
                  go_wp2_with fail
                  refine (look_any base X4 g Z5 V5 r hh _ _ wA hBA).mono ?_
                  rintro e wB ⟨rfl, hkB⟩
                  go_wp2_with fail
                  refine (head_any wB).mono ?_
                  rintro e wC ⟨rfl, hkC⟩
                  go_wp2_with fail
                  go_ret
                  exact ⟨rfl, ((k09.trans hkA).trans hkB).trans hkC⟩
end Go.Proofs.Ytcihfjfbcfgidaa
