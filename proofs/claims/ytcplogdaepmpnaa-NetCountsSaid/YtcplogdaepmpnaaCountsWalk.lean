/- NetCounts, walked. -/
import Derived.Test.YtcplogdaepmpnaaCountsState
namespace Go.Proofs.Ytcplogdaepmpnaa
open Go.RowKit

theorem infoAdAll : (Try.prog.info? 27).map (fun i => (i.zero, i.size, i.bytes)) = some (some (.agg #[.bool false, .int .i64 0]), 2, 16) := by kernel_rfl

set_option maxRecDepth 100000 in
set_option maxHeartbeats 8000000 in
theorem counts_any (A : Option Addr) (n cap : Nat) (its : List Stp) (w : World) (hA : StpsAt w A its) (hR : ∀ x ∈ its, x.Raw w) (hn : its.length = n) (hr : n ≤ 140737488351232) :
    Calls Try.prog 6 #[.slice A n cap] w fun e w' => e = .returned (.bool true) ∧ Keeps None w w' := by
  subst hn
  go_enter Try.func6, Try.ntmps6
  go_wp2_with fail
  refine (nnew_any w).mono ?_
  rintro e w1 ⟨g, m1, m2, rfl, hN, hk1⟩
  go_wp2_with fail
  go_loopw [4, 5, 6] (fun su th i wr => ∃ (k : Nat) (v : Value) (L : Way) (N : Nat) (sn : Ad → Int) (mn : Pr → Int) (S : List Ad), k ≤ its.length ∧ k ≤ 300 ∧ i = .int .i64 k ∧ th = .int .i64 (L.length : Int) ∧ Cs w k g v m1 m2 L N sn mn su S wr) (fun _ _ i _ => its.length - (intOf i).toNat)
  case atStart => exact ⟨0, _, [], 0, _, _, [], Nat.zero_le _, by omega, rfl, rfl, hN, Inv.nil, Nat.le_refl _, fun _ h => (by cases h), World.ownsRow_nil _ _ _ _, Nat.le_refl _, fun _ => rfl, hk1⟩
  case round =>
    obtain ⟨k, v, L, N, sn, mn, S, hk, hk3, rfl, rfl, hC⟩ := hrel
    by_cases hlt : k < its.length
    · by_cases h300 : k < 300
      · obtain ⟨x, hx⟩ : ∃ x, its[k]? = some x := ⟨_, List.getElem?_eq_getElem hlt⟩
        have hxR := (hR x (List.mem_of_getElem? hx)).grew hC.keeps
        obtain ⟨b, o, rfl, hxc⟩ := hA.grew hC.keeps k x hx
        have hY0 := Blk.new wr 53 [.int .i64 0, .bool false, .int .i64 0, .bool false, .int .i64 0, .int .i64 0, .slice Option.none 0 0]
        have kY := (Keeps.refl None wr).alloc (.cells #[.int .i64 0, .bool false, .int .i64 0, .bool false, .int .i64 0, .int .i64 0, .slice Option.none 0 0] 53)
        go_wp2_with (first
          | (with_reducible refine wpList_load_stp rfl (.tmp 31) rfl b (o + k * 7) x rfl hxc ?_)
          | (with_reducible refine wpList_store_stp rfl (.tmp 7) (.tmp 32) rfl wr.heap.size x rfl rfl _ hY0 rfl ?_; intro wa hBa hka; have e0 := hBa.cell 0 _ rfl; have e1 := hBa.cell 1 _ rfl; have e2 := hBa.cell 2 _ rfl; have e3 := hBa.cell 3 _ rfl; have e4 := hBa.cell 4 _ rfl; have e5 := hBa.cell 5 _ rfl; have e6 := hBa.cell 6 _ rfl))
        all_goals have kwa : Keeps None wr wa := kY.andThen hka (fun i hi e => by simp only [One] at e; omega)
        all_goals have hCa := (hC.grew kwa).next
        · have hxA := hxR.grew kwa
          refine (npair_any x.fr x.to wa hCa.net hxA.fr hxA.to).mono ?_
          rintro e wb ⟨rfl, hkb⟩
          have hBb := hBa.grew hkb
          have g1 := hBb.cell 1 _ rfl
          have g2 := hBb.cell 2 _ rfl
          have g3 := hBb.cell 3 _ rfl
          have g4 := hBb.cell 4 _ rfl
          have g6 := hBb.cell 6 _ rfl
          have hsz := hC.net.most
          have hszN := hC.most
          have hxB := hxA.grew hkb
          have hcs := countF_le S x.fr
          have hsl := hC.len
          have hsn : IntV (sn x.fr + 1) := (intV_iff _).2 (by rw [hC.sent]; omega)
          have hmax : x.bs.length ≤ 140737488351232 := by rw [hxR.len]; exact hxR.most
          obtain ⟨iA, hiA, hzA0, hzA1, hzA2⟩ := info_parts infoAdAll
          have hbox : ¬ Mine g m1 m2 v wr.heap.size := by
            have l1 := hC.net.blk.lt
            have l2 := hC.net.sent.lt
            have l3 := hC.net.many.lt
            rintro (e | e | e | e)
            · omega
            · omega
            · omega
            · have := (World.ownsRow.lt hC.net.row _ e).2; omega
          have hbox4 : ¬ OwnB u4 wr.heap.size := fun e => by have := (World.ownsRow.lt hC.row _ e).2; omega
          have hCb := hCa.grew hkb
          go_wp2_with fail
          refine (send_any g w.heap.size v m1 m2 L N sn mn ⟨x.fr, 0, x.to, .slice x.A x.len x.cap⟩ x.bs x.A x.len x.cap wb hCb.net rfl hxB.nums hxB.len (by rw [← hxB.len]; exact hmax) hxB.fr hxB.to hsn (by omega)).mono ?_
          rintro e wc (⟨hfull, rfl, hNc, hkc⟩ | ⟨hroom, rfl, v', d, hNc, hkc, hloc, hd⟩)
          · replace hNc : Nt wc g w.heap.size v m1 m2 L (N + 2) (upd sn x.fr (sn x.fr + 1)) mn := hNc
            replace hfull : 64 ≤ mn (x.fr, x.to) := hfull
            have hAr := owns_keeps hCb.row hkc (row_mine hCb)
            have hBc := hBb.keeps hkc hbox
            have d1 := hBc.cell 1 _ rfl
            have d2 := hBc.cell 2 _ rfl
            have hwc0 := hCb.keeps.size
            have hwc := hkc.size
            go_wp2_with (at_builtin; refine wpList_append_row _ rfl (.tmp 55) (.tmp 58) 46 rfl w.heap.size 27 iA (.agg #[.bool false, .int .i64 0]) 2 16 Try.underlying46 hiA hzA0 hzA1 hzA2 rfl (by decide) _ S.length _ rfl (owns_grew hAr ((Keeps.refl None _).alloc _)) (some ⟨wc.heap.size, 0, Option.none⟩) 1 1 (adCells x.fr) rfl rfl (fun e => by cases e) (src_new wc 27 _ _ rfl) (by intro u hu; simp [adCells] at hu; rcases hu with rfl | rfl <;> rfl) (by unfold maxLen; omega) (by omega) (by simp; omega) ?_; intro su' we hown hkd _; obtain ⟨A', c', rfl⟩ := owns_slice hown; have HC := Lib.hid (hCb.after hsl x.fr hkc hNc (hC.inv.lost x.fr) (by omega) hC.ok ((Keeps.refl None wc).alloc _) hkd hown); have hBe := (hBc.grew ((Keeps.refl None wc).alloc _)).keeps hkd hbox4; have q1 := hBe.cell 1 _ rfl; have q2 := hBe.cell 2 _ rfl)
            have hC2 := HC.out
            obtain ⟨hads, hadl⟩ := Ads.of_owns (l := S ++ [x.fr]) (by simpa [Ads.cells_snoc] using HC.out.row)
            refine (counted_any A' (S.length + 1) c' (S ++ [x.fr]) x.fr _ hads (by simp) (by omega)).mono ?_
            rintro e wf ⟨rfl, hkf⟩
            have hcnt : (countF (S ++ [x.fr]) x.fr : Int) = sn x.fr + 1 := by rw [countF_snoc, hC.sent]; simp
            rw [hcnt]
            clear hC2 hcnt hads hadl
            obtain ⟨t1, t2⟩ := test_eq (rfl : sn x.fr + 1 = sn x.fr + 1)
            have hroomB : decide (mn (x.fr, x.to) < 64) = false := by simp; exact hfull
            go_wp2_with fail
            refine (many_any g w.heap.size v m1 m2 L (N + 2) _ mn wf (HC.out.grew hkf).net (by omega) (fun y hy => (HC.out.ok y hy).2.2)).mono ?_
            rintro e wg ⟨rfl, hkg⟩
            obtain ⟨t3, t4⟩ := test_eq (rfl : (L.length : Int) = (L.length : Int))
            go_wp2_with fail
            go_roundw
            case rel => exact ⟨k + 1, v, L, N + 2, _, mn, S ++ [x.fr], by omega, by omega, by go_num, rfl, (HC.out.grew hkf).grew hkg⟩
            case measure => simp [intOf]; omega
          · replace hroom : mn (x.fr, x.to) < 64 := hroom
            have hIM0 := hC.inv.send ⟨x.fr, 0, x.to, .slice x.A x.len x.cap⟩ x.bs d hroom
            have hokM0 : ∀ y ∈ L ++ [((⟨x.fr, sn x.fr + 1, x.to, d⟩ : Pk), x.bs)], IntV y.1.fr.2 ∧ IntV y.1.to.2 ∧ y.2.length ≤ 140737488351232 := fun y hy => by
              rcases List.mem_append.1 hy with h | h
              · exact hC.ok y h
              · obtain rfl := List.mem_singleton.1 h
                exact ⟨hxR.fr, hxR.to, hmax⟩
            have hlen0 : (L ++ [((⟨x.fr, sn x.fr + 1, x.to, d⟩ : Pk), x.bs)]).length = L.length + 1 := by simp
            obtain ⟨M, eM⟩ : ∃ M : Way, M = L ++ [((⟨x.fr, sn x.fr + 1, x.to, d⟩ : Pk), x.bs)] := ⟨_, rfl⟩
            replace hNc : Nt wc g w.heap.size v' m1 m2 M (N + 2) (upd sn x.fr (sn x.fr + 1)) (upd mn (x.fr, x.to) (mn (x.fr, x.to) + 1)) := eM ▸ hNc
            have hIM : Inv M (upd sn x.fr (sn x.fr + 1)) (upd mn (x.fr, x.to) (mn (x.fr, x.to) + 1)) := eM ▸ hIM0
            have hokM : ∀ y ∈ M, IntV y.1.fr.2 ∧ IntV y.1.to.2 ∧ y.2.length ≤ 140737488351232 := eM ▸ hokM0
            have HL := Lib.hid (show M.length = L.length + 1 from eM ▸ hlen0)
            clear eM hIM0 hokM0 hlen0
            have hM2 : IntKind.i64.wrap ((L.length : Int) + 1) = (M.length : Int) := by rw [HL.out, IntKind.wrap_i64]; omega
            have hAr := owns_keeps hCb.row hkc (row_mine hCb)
            have hBc := hBb.keeps hkc hbox
            have d1 := hBc.cell 1 _ rfl
            have d2 := hBc.cell 2 _ rfl
            have hwc0 := hCb.keeps.size
            have hwc := hkc.size
            go_wp2_with (at_builtin; refine wpList_append_row _ rfl (.tmp 55) (.tmp 58) 46 rfl w.heap.size 27 iA (.agg #[.bool false, .int .i64 0]) 2 16 Try.underlying46 hiA hzA0 hzA1 hzA2 rfl (by decide) _ S.length _ rfl (owns_grew hAr ((Keeps.refl None _).alloc _)) (some ⟨wc.heap.size, 0, Option.none⟩) 1 1 (adCells x.fr) rfl rfl (fun e => by cases e) (src_new wc 27 _ _ rfl) (by intro u hu; simp [adCells] at hu; rcases hu with rfl | rfl <;> rfl) (by unfold maxLen; omega) (by omega) (by simp; omega) ?_; intro su' we hown hkd _; obtain ⟨A', c', rfl⟩ := owns_slice hown; have HC := Lib.hid (hCb.after hsl x.fr hkc hNc hIM (by omega) hokM ((Keeps.refl None wc).alloc _) hkd hown); have hBe := (hBc.grew ((Keeps.refl None wc).alloc _)).keeps hkd hbox4; have q1 := hBe.cell 1 _ rfl; have q2 := hBe.cell 2 _ rfl)
            have hC2 := HC.out
            obtain ⟨hads, hadl⟩ := Ads.of_owns (l := S ++ [x.fr]) (by simpa [Ads.cells_snoc] using HC.out.row)
            refine (counted_any A' (S.length + 1) c' (S ++ [x.fr]) x.fr _ hads (by simp) (by omega)).mono ?_
            rintro e wf ⟨rfl, hkf⟩
            have hcnt : (countF (S ++ [x.fr]) x.fr : Int) = sn x.fr + 1 := by rw [countF_snoc, hC.sent]; simp
            rw [hcnt]
            clear hC2 hcnt hads hadl
            obtain ⟨t1, t2⟩ := test_eq (rfl : sn x.fr + 1 = sn x.fr + 1)
            have hroomB : decide (mn (x.fr, x.to) < 64) = true := by simp; exact hroom
            go_wp2_with fail
            refine (many_any g w.heap.size v' m1 m2 M (N + 2) _ (upd mn (x.fr, x.to) (mn (x.fr, x.to) + 1)) wf (HC.out.grew hkf).net (by omega) (fun y hy => (HC.out.ok y hy).2.2)).mono ?_
            rintro e wg ⟨rfl, hkg⟩
            obtain ⟨t3, t4⟩ := test_eq (rfl : (M.length : Int) = (M.length : Int))
            go_wp2_with fail
            go_roundw
            case rel => exact ⟨k + 1, v', M, N + 2, _, (upd mn (x.fr, x.to) (mn (x.fr, x.to) + 1)), S ++ [x.fr], by omega, by omega, by go_num, rfl, (HC.out.grew hkf).grew hkg⟩
            case measure => simp [intOf]; omega
        · refine (deliver_any g w.heap.size v m1 m2 L N sn mn x.fr x.ct wa hCa.net hCa.mn0 (by have := hC.most; omega)).mono ?_
          rintro e wb (⟨hp, rfl, hkb⟩ | ⟨ii, y, zs, v', hp, hxy, rfl, hNb, hkb, _⟩)
          · have HP := Lib.hid hp
            clear hp
            have hYb := Blk.new wb 33 [.bool false, .int .i64 0, .int .i64 0, .bool false, .int .i64 0, .slice Option.none 0 0]
            have kYb := (Keeps.refl None wb).alloc (.cells #[.bool false, .int .i64 0, .int .i64 0, .bool false, .int .i64 0, .slice Option.none 0 0] 33)
            go_wp2_with (first
              | (with_reducible refine wpList_store_pk rfl (.tmp 11) (.tmp 84) rfl wb.heap.size zeroP rfl rfl rfl _ hYb rfl ?_; intro wd hBd hkd))
            have kbd : Keeps None wb wd := kYb.andThen hkd (fun i hi e => by simp only [One] at e; omega)
            have hCd := (hCa.grew hkb).grew kbd
            refine (many_any g w.heap.size v m1 m2 L N sn mn wd hCd.net (by have := hC.most; omega) (fun y hy => (hC.ok y hy).2.2)).mono ?_
            rintro e wc ⟨rfl, hkc⟩
            obtain ⟨t1, t2⟩ := test_eq (rfl : (L.length : Int) = (L.length : Int))
            go_wp2_with fail
            go_roundw
            case rel => exact ⟨k + 1, v, L, N, sn, mn, S, by omega, by omega, by go_num, rfl, hCd.grew hkc⟩
            case measure => simp [intOf]; omega
          · have hCb := hCa.off hkb hxy hNb (by have := hC.most; omega)
            have hil : ii < L.length := (List.getElem?_eq_some_iff.1 hxy).1
            have hd1 := hC.net.dv_one (List.mem_of_getElem? hxy)
            have hnm : y.fr = x.fr ∧ y.ct = x.ct := by
              rcases placeP_cases L x.fr x.ct with h | ⟨i2, y2, z2, h2, hx2, hn2⟩
              · rw [hp] at h; omega
              · rw [hp] at h2
                have : ii = i2 := by omega
                subst this
                rw [hxy] at hx2
                cases hx2
                simpa [Pk.named] using hn2
            have HP := Lib.hid hp
            have hel : (L.eraseIdx ii).length = L.length - 1 := List.length_eraseIdx_of_lt hil
            have HE := Lib.hid hel
            clear hp hel hxy
            have hsub : IntKind.i64.wrap ((L.length : Int) - 1) = ((L.eraseIdx ii).length : Int) := by rw [HE.out, IntKind.wrap_i64]; have := hC.net.most; have := hC.most; omega
            have hbox : ¬ Mine g m1 m2 v wr.heap.size := by
              have l1 := hC.net.blk.lt
              have l2 := hC.net.sent.lt
              have l3 := hC.net.many.lt
              rintro (e | e | e | e)
              · omega
              · omega
              · omega
              · have := (World.ownsRow.lt hC.net.row _ e).2; omega
            obtain ⟨⟨y1, y2⟩, yc, ⟨yt1, yt2⟩, yd⟩ := y
            obtain ⟨xk, ⟨x1, x2⟩, xt, xc, xA, xl, xcap, xbs⟩ := x
            simp only [Prod.mk.injEq] at hnm hd1
            obtain ⟨⟨rfl, rfl⟩, rfl⟩ := hnm
            have hBb := hBa.keeps hkb hbox
            have hYb := Blk.new wb 33 [.bool false, .int .i64 0, .int .i64 0, .bool false, .int .i64 0, .slice Option.none 0 0]
            have kYb := (Keeps.refl None wb).alloc (.cells #[.bool false, .int .i64 0, .int .i64 0, .bool false, .int .i64 0, .slice Option.none 0 0] 33)
            go_wp2_with (first
              | (with_reducible refine wpList_store_pk rfl (.tmp 11) (.tmp 84) rfl wb.heap.size ⟨(y1, y2), yc, (yt1, yt2), yd⟩ rfl rfl hd1 _ hYb rfl ?_; intro wd hBd hkd; have d0 := hBd.cell 0 _ rfl; have d1 := hBd.cell 1 _ rfl; have d2 := hBd.cell 2 _ rfl; have hBx := (hBb.grew kYb).keeps hkd (fun e => by have := hBb.lt; simp only [One] at e; omega); have g1 := hBx.cell 1 _ rfl; have g2 := hBx.cell 2 _ rfl; have g5 := hBx.cell 5 _ rfl))
            have kbd : Keeps None wb wd := kYb.andThen hkd (fun i hi e => by simp only [One] at e; omega)
            have hCd := hCb.grew kbd
            refine (many_any g w.heap.size v' m1 m2 (L.eraseIdx ii) (N + 1) sn _ wd hCd.net (by have := hC.most; omega) (fun y hy => (hCb.ok y hy).2.2)).mono ?_
            rintro e wc ⟨rfl, hkc⟩
            obtain ⟨t1, t2⟩ := test_eq (rfl : ((L.eraseIdx ii).length : Int) = ((L.eraseIdx ii).length : Int))
            go_wp2_with fail
            go_roundw
            case rel => exact ⟨k + 1, v', L.eraseIdx ii, N + 1, sn, _, S, by omega, by omega, by go_num, rfl, hCd.grew hkc⟩
            case measure => simp [intOf]; omega
        · refine (lose_any g w.heap.size v m1 m2 L N sn mn x.fr x.ct wa hCa.net hCa.mn0 (by have := hC.most; omega)).mono ?_
          rintro e wb (⟨hp, rfl, hkb⟩ | ⟨ii, y, zs, v', hp, hxy, rfl, hNb, hkb, _⟩)
          · have HP := Lib.hid hp
            clear hp
            go_wp2_with fail
            refine (many_any g w.heap.size v m1 m2 L N sn mn wb (hCa.grew hkb).net (by have := hC.most; omega) (fun y hy => (hC.ok y hy).2.2)).mono ?_
            rintro e wc ⟨rfl, hkc⟩
            obtain ⟨t1, t2⟩ := test_eq (rfl : (L.length : Int) = (L.length : Int))
            go_wp2_with fail
            go_roundw
            case rel => exact ⟨k + 1, v, L, N, sn, mn, S, by omega, by omega, by go_num, rfl, (hCa.grew hkb).grew hkc⟩
            case measure => simp [intOf]; omega
          · have hCb := hCa.off hkb hxy hNb (by have := hC.most; omega)
            have hil : ii < L.length := (List.getElem?_eq_some_iff.1 hxy).1
            have HP := Lib.hid hp
            have hel : (L.eraseIdx ii).length = L.length - 1 := List.length_eraseIdx_of_lt hil
            have HE := Lib.hid hel
            clear hp hel hxy
            have hsub : IntKind.i64.wrap ((L.length : Int) - 1) = ((L.eraseIdx ii).length : Int) := by rw [HE.out, IntKind.wrap_i64]; have := hC.net.most; have := hC.most; omega
            go_wp2_with fail
            refine (many_any g w.heap.size v' m1 m2 (L.eraseIdx ii) (N + 1) sn _ wb hCb.net (by have := hC.most; omega) (fun y hy => (hCb.ok y hy).2.2)).mono ?_
            rintro e wc ⟨rfl, hkc⟩
            obtain ⟨t1, t2⟩ := test_eq (rfl : ((L.eraseIdx ii).length : Int) = ((L.eraseIdx ii).length : Int))
            go_wp2_with fail
            go_roundw
            case rel => exact ⟨k + 1, v', L.eraseIdx ii, N + 1, sn, _, S, by omega, by omega, by go_num, rfl, hCb.grew hkc⟩
            case measure => simp [intOf]; omega
        · refine (many_any g w.heap.size v m1 m2 L N sn mn wa hCa.net (by have := hC.most; omega) (fun y hy => (hC.ok y hy).2.2)).mono ?_
          rintro e wb ⟨rfl, hkb⟩
          have hCb := hCa.grew hkb
          have hBb := hBa.grew hkb
          have g1 := hBb.cell 1 _ rfl
          have g2 := hBb.cell 2 _ rfl
          have g5 := hBb.cell 5 _ rfl
          have hsz := hC.net.most
          have hszN := hC.most
          go_wp2_with fail
          refine (double_any g w.heap.size v m1 m2 L N sn mn x.fr x.ct wb hCb.net hC.ok (by omega)).mono ?_
          have same : ∀ wc, Keeps None wb wc → Cs w (k + 1) g v m1 m2 L N sn mn u4 S wc := fun wc h => hCb.grew h
          have hw0 : IntKind.i64.wrap ((L.length : Int) - (L.length : Int)) = 0 := by rw [IntKind.wrap_i64]; omega
          have hw1 : IntKind.i64.wrap ((L.length : Int) + 0) = (L.length : Int) := by rw [IntKind.wrap_i64]; omega
          rintro e wc (⟨hp, rfl, hkc⟩ | ⟨ii, y, zs, hp, hxy, rfl, ⟨hfull, hkc⟩ | ⟨hroom, v', d, hNc, hkc, hloc, hd⟩⟩)
          · have HP := Lib.hid hp
            clear hp
            go_wp2_with fail
            refine (many_any g w.heap.size v m1 m2 L N sn mn wc (same _ hkc).net (by omega) (fun y hy => (hC.ok y hy).2.2)).mono ?_
            rintro e wd ⟨rfl, hkd⟩
            obtain ⟨t1, t2⟩ := test_eq (rfl : (L.length : Int) = (L.length : Int))
            go_wp2_with fail
            refine (many_any g w.heap.size v m1 m2 L N sn mn wd ((same _ hkc).grew hkd).net (by omega) (fun y hy => (hC.ok y hy).2.2)).mono ?_
            rintro e we ⟨rfl, hke⟩
            go_wp2_with fail
            go_roundw
            case rel => exact ⟨k + 1, v, L, N, sn, mn, S, by omega, by omega, by go_num, rfl, ((same _ hkc).grew hkd).grew hke⟩
            case measure => simp [intOf]; omega
          · have HP := Lib.hid hp
            have HX := Lib.hid hxy
            clear hp hxy
            go_wp2_with fail
            refine (many_any g w.heap.size v m1 m2 L N sn mn wc (same _ hkc).net (by omega) (fun y hy => (hC.ok y hy).2.2)).mono ?_
            rintro e wd ⟨rfl, hkd⟩
            obtain ⟨t1, t2⟩ := test_eq (rfl : (L.length : Int) = (L.length : Int))
            go_wp2_with fail
            refine (many_any g w.heap.size v m1 m2 L N sn mn wd ((same _ hkc).grew hkd).net (by omega) (fun y hy => (hC.ok y hy).2.2)).mono ?_
            rintro e we ⟨rfl, hke⟩
            go_wp2_with fail
            go_roundw
            case rel => exact ⟨k + 1, v, L, N, sn, mn, S, by omega, by omega, by go_num, rfl, ((same _ hkc).grew hkd).grew hke⟩
            case measure => simp [intOf]; omega
          · have hym := List.mem_of_getElem? hxy
            have hCc : Cs w (k + 1) g v' m1 m2 (L ++ [({y with dv := d}, zs)]) (N + 1) sn (upd mn y.pair (mn y.pair + 1)) u4 S wc :=
              hCb.turn hkc hNc (hC.inv.double hym d hroom) (by omega) (fun z hz => by
                rcases List.mem_append.1 hz with h | h
                · exact hC.ok z h
                · obtain rfl := List.mem_singleton.1 h
                  exact (hC.ok (y, zs) hym :)) hC.sent
            have hlen : (L ++ [({y with dv := d}, zs)]).length = L.length + 1 := by simp
            have HL := Lib.hid hlen
            have HP := Lib.hid hp
            have HX := Lib.hid hxy
            have hok2 : ∀ z ∈ (L ++ [({y with dv := d}, zs)]), z.2.length ≤ 140737488351232 := fun z hz => (hCc.ok z hz).2.2
            obtain ⟨M, eM⟩ : ∃ M : Way, M = L ++ [({y with dv := d}, zs)] := ⟨_, rfl⟩
            rw [← eM] at hCc HL hok2
            clear hp hxy hlen eM hNc
            have hM1 : IntKind.i64.wrap ((M.length : Int) - (L.length : Int)) = 1 := by rw [HL.out, IntKind.wrap_i64]; omega
            have hM2 : IntKind.i64.wrap ((L.length : Int) + 1) = (M.length : Int) := by rw [HL.out, IntKind.wrap_i64]; omega
            go_wp2_with fail
            refine (many_any g w.heap.size v' m1 m2 M (N + 1) sn _ wc hCc.net (by omega) hok2).mono ?_
            rintro e wd ⟨rfl, hkd⟩
            obtain ⟨t1, t2⟩ := test_eq (rfl : (M.length : Int) = (M.length : Int))
            go_wp2_with fail
            refine (many_any g w.heap.size v' m1 m2 M (N + 1) sn _ wd (hCc.grew hkd).net (by omega) hok2).mono ?_
            rintro e we ⟨rfl, hke⟩
            go_wp2_with fail
            go_roundw
            case rel => exact ⟨k + 1, v', M, N + 1, sn, _, S, by omega, by omega, by go_num, rfl, (hCc.grew hkd).grew hke⟩
            case measure => simp [intOf]; omega
        · refine (nclear_any wa hCa.net).mono ?_
          rintro e wb ⟨rfl, hNb, hkb⟩
          have hCb := hCa.turn hkb hNb hC.inv.clear hCa.most (fun _ h => (by cases h)) hCa.sent
          go_wp2_with fail
          refine (many_any g w.heap.size _ m1 m2 [] N sn _ wb hCb.net (by have := hC.most; omega) (fun y hy => (by cases hy))).mono ?_
          rintro e wc ⟨rfl, hkc⟩
          go_wp2_with fail
          go_roundw
          case rel => exact ⟨k + 1, _, [], N, sn, _, S, by omega, by omega, by go_num, rfl, hCb.grew hkc⟩
          case measure => simp [intOf]; omega
        · refine (many_any g w.heap.size v m1 m2 L N sn mn wa hCa.net (by have := hC.most; omega) (fun y hy => (hC.ok y hy).2.2)).mono ?_
          rintro e wb ⟨rfl, hkb⟩
          obtain ⟨t1, t2⟩ := test_eq (rfl : (L.length : Int) = (L.length : Int))
          go_wp2_with fail
          go_roundw
          case rel => exact ⟨k + 1, v, L, N, sn, mn, S, by omega, by omega, by go_num, rfl, hCa.grew hkb⟩
          case measure => simp [intOf]; omega
      · obtain rfl : k = 300 := by omega
        go_wp2_with fail
        refine (names_any g w.heap.size v m1 m2 L N sn mn wr hC.net hC.inv (by have := hC.most; omega) (fun y hy => (hC.ok y hy).2.2) (fun y hy => ⟨(hC.ok y hy).1, (hC.ok y hy).2.1⟩)).mono ?_
        rintro e wa ⟨rfl, hka⟩
        go_wp2_with fail
        refine (head_any wa).mono ?_
        rintro e wb ⟨rfl, hkb⟩
        go_wp2_with fail
        go_ret
        exact ⟨rfl, (hC.keeps.trans hka).trans hkb⟩
    · obtain rfl : k = its.length := by omega
      go_wp2_with fail
      refine (names_any g w.heap.size v m1 m2 L N sn mn wr hC.net hC.inv (by have := hC.most; omega) (fun y hy => (hC.ok y hy).2.2) (fun y hy => ⟨(hC.ok y hy).1, (hC.ok y hy).2.1⟩)).mono ?_
      rintro e wa ⟨rfl, hka⟩
      go_wp2_with fail
      refine (head_any wa).mono ?_
      rintro e wb ⟨rfl, hkb⟩
      go_wp2_with fail
      go_ret
      exact ⟨rfl, (hC.keeps.trans hka).trans hkb⟩
end Go.Proofs.Ytcplogdaepmpnaa
