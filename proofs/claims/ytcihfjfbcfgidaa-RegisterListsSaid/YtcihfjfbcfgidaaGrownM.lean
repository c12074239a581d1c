/- cairnlaw7.grownMsgs, walked. -/
import Derived.Test.YtcihfjfbcfgidaaGrownP
namespace Go.Proofs.Ytcihfjfbcfgidaa.GM
open Go.RowKit Go.Maps Go.Proofs.YtcihfjfbcfgidaaW.PrintLast
set_option linter.unusedVariables false

theorem nth_marks (i m j : Nat) (h : j < m) : (marks i m)[j]? = some (mkC (500 + (i : Int)) (j : Int)) := by simp [marks, h]
theorem nth_tails (i m j : Nat) (h : j < m) : (tails i m)[j]? = some (mkC (-1 - (i : Int)) (j : Int)) := by simp [tails, h]

set_option maxRecDepth 100000 in
set_option maxHeartbeats 6400000 in
theorem grownmsgs_any (A : Option Addr) (n cap : Nat) (rs : Lot) (base : Nat) (w : World) (hA : Lies w A rs) (hM : Many w base rs) (hn : rs.length = n) (hr : n ≤ 1000000) (hl : ∀ (i : Nat) v zs, rs[i]? = some (v, zs) → zs.length ≤ 1000000) (hb : base ≤ w.heap.size) :
    Calls Try.prog 29 #[.slice A n cap] w (fun e w' => e = .returned (.bool true) ∧ Keeps (OwnM rs) w w') := by
  subst hn
  go_enter Try.func29, Try.ntmps29
  go_wp2
  go_loopw [3] (fun x wr => ∃ (i : Nat) (r1 : Lot), i ≤ rs.length ∧ x = .int .i64 i ∧ Fill w base rs i 0 r1 wr) (fun x _ => rs.length - (intOf x).toNat)
  case atStart => exact ⟨0, rs, by omega, rfl, Fill.start hM⟩
  case round =>
    obtain ⟨i, r1, hi, rfl, hF⟩ := hrel
    by_cases hlt : i < rs.length
    · have hlt1 : i < r1.length := by rw [hF.len]; exact hlt
      obtain ⟨⟨v, zs⟩, hvz⟩ : ∃ p, r1[i]? = some p := ⟨_, List.getElem?_eq_getElem hlt1⟩
      obtain ⟨ys, hvy, hyz⟩ := hF.same i v zs hvz
      have hlz := hl i v ys hvy
      rw [hyz] at hlz
      obtain ⟨Av, cv, rfl, -⟩ := (hF.many.row i v zs hvz).open_
      have HVZ := Lib.hid hvz
      have HVY := Lib.hid hvy
      have HYZ := Lib.hid hyz
      clear hvz hvy hyz
      obtain ⟨m, hm⟩ : ∃ m, m = zs.length := ⟨_, rfl⟩
      rw [← hm] at HVZ HVY HYZ hlz
      have HM := Lib.hid hm
      clear hm
      go_wp2
      go_loopw [4] (fun x wr => ∃ (j : Nat) (r1 : Lot), j ≤ m ∧ x = .int .i64 j ∧ Fill w base rs i j r1 wr) (fun x _ => m - (intOf x).toNat)
      case atStart => exact ⟨0, r1, by omega, rfl, hF⟩
      case round =>
        clear hF HVZ HYZ HM hlt1
        obtain ⟨j, r1, hj, rfl, hF⟩ := hrel
        have hlt1 : i < r1.length := by rw [hF.len]; exact hlt
        obtain ⟨⟨v2, zs⟩, hvz⟩ : ∃ p, r1[i]? = some p := ⟨_, List.getElem?_eq_getElem hlt1⟩
        obtain ⟨ys2, hvy2, hyz2⟩ := hF.same i _ zs hvz
        have hee := HVY.out.symm.trans hvy2
        cases hee
        obtain ⟨b, o, rfl, hob, hc⟩ := (hA.keeps hF.keeps) i _ _ HVY.out
        have hzl : zs.length = m := by obtain ⟨_, _, e, _⟩ := (hF.many.row i _ zs hvz).open_; cases e; rfl
        by_cases hjm : j < m
        · obtain ⟨g, c2, e2⟩ := (hF.many.row i _ zs hvz).pos (by omega)
          cases e2
          have hR := hF.many.row i _ zs hvz
          have hgj : wr.there g (j * 30) 30 := fun q hq => by
            have := hR.there (j * 30 + q) (by omega)
            rwa [Nat.zero_add] at this
          have hw1 : IntKind.i64.wrap (500 + (i : Int)) = 500 + (i : Int) := IntWalk.i64_in _ (by omega)
          have HVZ := Lib.hid hvz
          have HEQ := Lib.hid hyz2
          clear hvz hyz2 hvy2 hR
          go_wp2_with (refine wpList_store_mid ?_ 66 (.tmp 37) (.tmp 36) ?_ g (j * 30) (mkC (500 + (i : Int)) (j : Int)).toArray ?_ ?_ ?_ ?_ ?_ ?_; (rfl); (rfl); (rfl); (rfl); (exact hgj); (exact sizeMsg rfl); (simp [mkC, msgL, Value.oneCell']))
          go_roundw
          case rel => exact ⟨j + 1, _, by omega, by go_num, hF.put HVZ.out hjm⟩
          case measure => simp [intOf]; omega
        · obtain rfl : j = m := by omega
          have hzl2 : ∀ v zs', r1[i]? = some (v, zs') → zs'.length = j := by
            intro v zs' e
            rw [hvz] at e
            cases e
            exact hzl
          have hF2 := hF.next hzl2
          clear hF hvz hyz2 hvy2 hzl2
          go_wp2
          go_roundw
          case rel => exact ⟨i + 1, r1, by omega, by go_num, hF2⟩
          case measure => simp [intOf]; omega
    · obtain rfl : i = rs.length := by omega
      have FS := hF.forms
      have hS := hF.sec
      obtain ⟨vs, hvs⟩ : ∃ vs, vs = r1 := ⟨_, rfl⟩
      have hlen : vs.length = rs.length := by rw [hvs]; exact hF.len
      rw [← hvs] at FS hS
      have HLEN := Lib.hid hlen
      clear hF hvs hlen hM
      obtain ⟨N, hN⟩ : ∃ N, N = rs.length := ⟨_, rfl⟩
      rw [← hN] at hr hi HLEN ⊢
      have HN := Lib.hid hN
      clear hN hlt
      go_wp2_with fail
      obtain ⟨iM, hiM, hzM0, hzM1, hzM2⟩ := info_parts infoMsg
      obtain ⟨i1, hi1, hy0, hy1, hy2⟩ := info_parts infoMs
      go_loopw [5, 6] (fun m x wr => ∃ (i : Nat) (cur : Lot), i ≤ N ∧ x = .int .i64 i ∧ Sec w wr base rs vs cur m i 0) (fun _ x _ => N - (intOf x).toNat)
      case atStart => exact ⟨0, vs, by omega, rfl, hS⟩
      case round =>
        clear hS hi
        obtain ⟨i, cur, hi, rfl, hS⟩ := hrel
        have hcl : cur.length = N := hS.len.trans HLEN.out
        by_cases hlt : i < N
        · obtain ⟨⟨g, zs⟩, hgz⟩ : ∃ p, cur[i]? = some p := ⟨_, List.getElem?_eq_getElem (by omega)⟩
          have hv := (hS.at0 rfl).symm.trans hgz
          obtain ⟨hzm, ⟨Av, lv, cv, rfl⟩, ys, hry, hyl⟩ := FS.full i g zs hv
          obtain ⟨hl1, -⟩ := FS.form i _ _ _ _ hv
          obtain rfl := hl1
          have hlz := hl i _ ys hry
          rw [hyl] at hlz
          obtain ⟨b, o, rfl, hob, hc⟩ := (hA.keeps hS.keeps) i _ _ hry
          have hmo := hS.more
          obtain ⟨Am, cm, rfl⟩ := owns_slice hmo
          have HGZ := Lib.hid hgz
          have HV := Lib.hid hv
          have HZM := Lib.hid hzm
          have HCL := Lib.hid hcl
          clear hgz hv hzm hry hyl hcl hmo
          obtain ⟨z0, hz0'⟩ : ∃ z0, z0 = zs.length := ⟨_, rfl⟩
          have HZ0 := Lib.hid hz0'
          rw [← hz0'] at hlz hc HGZ HV
          clear hz0'
          have hw1 : IntKind.i64.wrap (-1 - (i : Int)) = -1 - (i : Int) := IntWalk.i64_in _ (by omega)
          go_wp2_with fail
          go_loopw [7, 8] (fun g x wr => ∃ (j : Nat) (cur : Lot) (zs : List (List Value)), j ≤ 40 ∧ x = .int .i64 j ∧ Hid (cur[i]? = some (g, zs)) ∧ Hid (zs.length = z0 + j) ∧ Sec w wr base rs vs cur (.slice Am i cm) i j) (fun _ x _ => 40 - (intOf x).toNat)
          case atStart => exact ⟨0, cur, zs, by omega, rfl, HGZ, Lib.hid HZ0.out.symm, hS⟩
          case round =>
            clear hS HGZ HCL HZ0 HV HZM hc
            obtain ⟨j, cur, zs, hj, rfl, HGZ, HZL, hS⟩ := hrel
            have hR := hS.row i _ zs HGZ.out
            obtain ⟨Ag, cg, rfl⟩ := hR.slice
            by_cases hj6 : j < 40
            · have hsz := hS.keeps.size
              have hzl : zs.length ≤ 1000000 + j := by have := HZL.out; omega
              have hRn := (hR.grew ((Keeps.refl None wr).alloc (.cells (mkC (-1 - (i : Int)) (j : Int)).toArray 66)))
              go_wp2_with (at_builtin; refine wpList_append_fine _ rfl (.tmp 52) (.tmp 57) 55 rfl base 66 iM (.agg msgZ) 30 312 Try.underlying55 hiM hzM0 hzM1 hzM2 rfl (by decide) _ zs.length _ rfl hRn.own ⟨wr.heap.size, 0, Option.none⟩ 1 1 (mkC (-1 - (i : Int)) (j : Int)) rfl rfl (fun q u hu => by rw [Addr.add_lit, Nat.zero_add]; exact (Blk.new wr 66 (mkC (-1 - (i : Int)) (j : Int))).cell q u hu) (mkC_one _ _) (by unfold maxLen; omega) (by omega) (by simp; omega) ?_; intro v' w2 hown hfine; have hr3 := MRow.of_append hR.len rfl rfl hown; clear hown)
              have hS2 := hS.push FS HGZ.out ((Keeps.refl None _).alloc _) hr3 hfine
              have hil : i < cur.length := (List.getElem?_eq_some_iff.1 HGZ.out).1
              go_roundw
              case rel => exact ⟨j + 1, _, zs ++ [mkC (-1 - (i : Int)) (j : Int)], by omega, by go_num, Lib.hid (by rw [List.getElem?_set_self hil]), Lib.hid (by rw [List.length_append, HZL.out]; simp; omega), hS2⟩
              case measure => simp [intOf]; omega
            · obtain rfl : j = 40 := by omega
              have hmr := hS.more
              have hsz := hS.keeps.size
              go_wp2_with (at_builtin; refine wpList_append_row _ rfl (.tmp 59) (.tmp 61) 82 rfl base 55 i1 (.slice Option.none 0 0) 1 24 Try.underlying82 hi1 hy0 hy1 hy2 rfl (by decide) _ i _ rfl (owns_grew hmr ((Keeps.refl None _).alloc _)) (some ⟨wr.heap.size, 0, Option.none⟩) 1 1 [Value.slice Ag zs.length cg] rfl rfl (fun e => by cases e) (src_new wr 55 _ _ rfl) (by intro u hu; simp at hu; subst hu; rfl) (by unfold maxLen; omega) (by omega) (by simp; omega) ?_; intro v' w2 hown hk1 hloc)
              have hS2 := hS.more_ FS HGZ.out ((Keeps.refl None _).alloc _) hown hk1 hloc
              go_roundw
              case rel => exact ⟨i + 1, cur, by omega, by go_num, hS2⟩
              case measure => simp [intOf]; omega
        · obtain rfl : i = N := by omega
          obtain ⟨Am, cm, rfl⟩ := owns_slice hS.more
          go_wp2_with fail
          go_loopw [9] (fun x wx => ∃ (k : Nat), k ≤ i ∧ x = .int .i64 k ∧ Keeps None wr wx) (fun x _ => i - (intOf x).toNat)
          case atStart => exact ⟨0, by omega, rfl, Keeps.refl _ _⟩
          case round =>
            obtain ⟨k, hk, rfl, KD⟩ := hrel
            by_cases hlt : k < i
            · obtain ⟨⟨v, zs⟩, hv⟩ : ∃ p, vs[k]? = some p := ⟨_, List.getElem?_eq_getElem (by have := HLEN.out; omega)⟩
              obtain ⟨⟨g, ys⟩, hg⟩ : ∃ p, cur[k]? = some p := ⟨_, List.getElem?_eq_getElem (by omega)⟩
              obtain ⟨hzm, ⟨Av, lv, cv, rfl⟩, us, hry, hyl⟩ := FS.full k v zs hv
              obtain ⟨hl1, -⟩ := FS.form k _ _ _ _ hv
              obtain rfl := hl1
              have hlz := hl k _ us hry
              rw [hyl] at hlz
              obtain ⟨b, o, rfl, hob, hc⟩ := (hA.keeps hS.keeps) k _ _ hry
              have hc := KD.cell hc id
              have hO := (hS.old k _ _ _ _ hv).grew KD
              have hR := (hS.row k g ys hg).grew KD
              have hd := hS.done k g ys _ zs hlt hg hv
              obtain ⟨gm, cm', em, hmc⟩ := owns_at hS.more (by omega)
              cases em
              have hmk := KD.cell (hmc k g (by rw [List.getElem?_map, List.getElem?_take, if_pos hlt, hg]; rfl)) id
              have hyl2 : ys.length = zs.length + 40 := by rw [hd, List.length_append, tails_len]
              obtain ⟨gb, cg, rfl⟩ := hR.pos (by omega)
              have hRN := hR.msgs
              have HD := Lib.hid hd
              have HZM := Lib.hid hzm
              have HYL := Lib.hid hyl2
              have HMC := Lib.hid hmc
              clear hd hzm hv hry hyl hg hcl hyl2 hmc HLEN HN
              obtain ⟨z0, hz0'⟩ : ∃ z0, z0 = zs.length := ⟨_, rfl⟩
              have HZ0 := Lib.hid hz0'
              rw [← hz0'] at hlz hc
              clear hz0'
              have hw0 : IntKind.i64.wrap ((z0 : Int) + 40) = (z0 : Int) + 40 := IntWalk.i64_in _ (by omega)
              have hw1 : IntKind.i64.wrap (500 + (k : Int)) = 500 + (k : Int) := IntWalk.i64_in _ (by omega)
              have hw2 : IntKind.i64.wrap (-1 - (k : Int)) = -1 - (k : Int) := IntWalk.i64_in _ (by omega)
              go_wp2_with fail
              have HC := Lib.hid hc
              have HMK := Lib.hid hmk
              clear hc hmk
              rename World => w5
              go_loopw [11] (fun x wx => ∃ (j : Nat), j ≤ z0 + 40 ∧ x = .int .i64 j ∧ Keeps None w5 wx) (fun x _ => z0 + 40 - (intOf x).toNat)
              case atStart => exact ⟨0, by omega, rfl, Keeps.refl _ _⟩
              case round =>
                obtain ⟨j, hj, rfl, KD2⟩ := hrel
                rename World => wx0
                have hc := KD2.cell HC.out id
                have hmk := KD2.cell HMK.out id
                by_cases hjz : j < z0 + 40
                · by_cases hj2 : j < z0
                  · obtain ⟨qb, eqb, hcq⟩ := (hO.grew KD2) j (mkC (500 + (k : Int)) (j : Int)) (by rw [HZM.out, ← HZ0.out]; exact nth_marks _ _ _ hj2)
                    subst eqb
                    obtain ⟨q2, e2, hcy⟩ := (hRN.grew KD2) j (mkC (500 + (k : Int)) (j : Int)) (by rw [HD.out, List.getElem?_append_left (by have := HZ0.out; omega), HZM.out, ← HZ0.out]; exact nth_marks _ _ _ hj2)
                    cases e2
                    have a0 := hcq 0 _ rfl
                    have a5 := hcq 5 _ rfl
                    clear hcq
                    have hyl3 : j < ys.length := by have := HYL.out; have := HZ0.out; omega
                    have rY : wx0.rangeAt gb (j * 30) (mkC (500 + (k : Int)) (j : Int)) := fun q u hu => hcy q u hu
                    have hZ0 := Blk.new wx0 66 (msgL 0 false 0 false 0 0 0 0 0 0 0 0 0 (.slice Option.none 0 0))
                    clear hcy
                    go_upto_region 26 with (first | (refine wpList_load_mid_w ?_ 66 (.tmp 85) rfl gb (j * 30) ?_ (mkC (500 + (k : Int)) (j : Int)) _ rY Try.underlying66 rfl (by kernel_rfl) ?_; (rfl); (rfl)) | (refine wpList_store_msg rfl (.tmp 12) (.tmp 86) rfl wx0.heap.size (mkC (500 + (k : Int)) (j : Int)) (msgL 0 false 0 false 0 0 0 0 0 0 0 0 0 (.slice Option.none 0 0)) ?_ ?_ ?_ ?_ ?_ ?_ ?_; (rfl); (rfl); (exact hZ0); (rfl); (rfl); (simp [mkC, msgL, Value.oneCell'])))
                    have hZ1 := hZ0.setRow (mkC (500 + (k : Int)) (j : Int))
                    have kz : Keeps None wx0 ((wx0.alloc (.cells (msgL 0 false 0 false 0 0 0 0 0 0 0 0 0 (.slice Option.none 0 0)).toArray 66)).setRow wx0.heap.size (mkC (500 + (k : Int)) (j : Int)).toArray) := ((Keeps.refl None wx0).alloc _).setRow _ _ (fun f => absurd f (Nat.lt_irrefl _))
                    obtain ⟨wz, hwz⟩ : ∃ W, W = (wx0.alloc (.cells (msgL 0 false 0 false 0 0 0 0 0 0 0 0 0 (.slice Option.none 0 0)).toArray 66)).setRow wx0.heap.size (mkC (500 + (k : Int)) (j : Int)).toArray := ⟨_, rfl⟩
                    rw [← hwz] at hZ1 kz
                    simp only [msgL, mkC] at hwz
                    simp only [mkC, msgL]
                    rw [← hwz]
                    obtain ⟨y, hy⟩ : ∃ y, y = wx0.heap.size := ⟨_, rfl⟩
                    rw [← hy] at hZ1 ⊢
                    clear hwz hy hZ0 rY
                    have hc := kz.cell hc id
                    have a0 := kz.cell a0 id
                    have a5 := kz.cell a5 id
                    rw [Nat.add_zero] at a0
                    have z0c := hZ1.cell 0 _ rfl
                    have z5c := hZ1.cell 5 _ rfl
                    have KD3 := KD2.trans kz
                    clear kz KD2 hZ1 hmk
                    go_wp2_with fail
                    go_roundw
                    case rel => exact ⟨j + 1, by omega, by go_num, KD3⟩
                    case measure => simp [intOf]; omega
                  · have hw3 : IntKind.i64.wrap ((j : Int) - (z0 : Int)) = (j : Int) - (z0 : Int) := IntWalk.i64_in _ (by omega)
                    obtain ⟨q2, e2, hcy⟩ := (hRN.grew KD2) j (mkC (-1 - (k : Int)) ((j : Int) - (z0 : Int))) (by
                      rw [HD.out, List.getElem?_append_right (by have := HZ0.out; omega), ← HZ0.out, nth_tails _ _ _ (by omega)]
                      congr 2
                      omega)
                    cases e2
                    have hyl3 : j < ys.length := by have := HYL.out; have := HZ0.out; omega
                    have rY : wx0.rangeAt gb (j * 30) (mkC (-1 - (k : Int)) ((j : Int) - (z0 : Int))) := fun q u hu => hcy q u hu
                    have hZ0 := Blk.new wx0 66 (msgL 0 false 0 false 0 0 0 0 0 0 0 0 0 (.slice Option.none 0 0))
                    clear hcy
                    go_upto_region 26 with (first | (refine wpList_load_mid_w ?_ 66 (.tmp 85) rfl gb (j * 30) ?_ (mkC (-1 - (k : Int)) ((j : Int) - (z0 : Int))) _ rY Try.underlying66 rfl (by kernel_rfl) ?_; (rfl); (rfl)) | (refine wpList_store_msg rfl (.tmp 12) (.tmp 86) rfl wx0.heap.size (mkC (-1 - (k : Int)) ((j : Int) - (z0 : Int))) (msgL 0 false 0 false 0 0 0 0 0 0 0 0 0 (.slice Option.none 0 0)) ?_ ?_ ?_ ?_ ?_ ?_ ?_; (rfl); (rfl); (exact hZ0); (rfl); (rfl); (simp [mkC, msgL, Value.oneCell'])))
                    have hZ1 := hZ0.setRow (mkC (-1 - (k : Int)) ((j : Int) - (z0 : Int)))
                    have kz : Keeps None wx0 ((wx0.alloc (.cells (msgL 0 false 0 false 0 0 0 0 0 0 0 0 0 (.slice Option.none 0 0)).toArray 66)).setRow wx0.heap.size (mkC (-1 - (k : Int)) ((j : Int) - (z0 : Int))).toArray) := ((Keeps.refl None wx0).alloc _).setRow _ _ (fun f => absurd f (Nat.lt_irrefl _))
                    obtain ⟨wz, hwz⟩ : ∃ W, W = (wx0.alloc (.cells (msgL 0 false 0 false 0 0 0 0 0 0 0 0 0 (.slice Option.none 0 0)).toArray 66)).setRow wx0.heap.size (mkC (-1 - (k : Int)) ((j : Int) - (z0 : Int))).toArray := ⟨_, rfl⟩
                    rw [← hwz] at hZ1 kz
                    simp only [msgL, mkC] at hwz
                    simp only [mkC, msgL]
                    rw [← hwz]
                    obtain ⟨y, hy⟩ : ∃ y, y = wx0.heap.size := ⟨_, rfl⟩
                    rw [← hy] at hZ1 ⊢
                    clear hwz hy hZ0 rY
                    have hc := kz.cell hc id
                    skip
                    have z0c := hZ1.cell 0 _ rfl
                    have z5c := hZ1.cell 5 _ rfl
                    have KD3 := KD2.trans kz
                    clear kz KD2 hZ1 hmk
                    go_wp2_with fail
                    go_roundw
                    case rel => exact ⟨j + 1, by omega, by go_num, KD3⟩
                    case measure => simp [intOf]; omega
                · obtain rfl : j = z0 + 40 := by omega
                  go_wp2_with fail
                  go_roundw
                  case rel => exact ⟨k + 1, by omega, by go_num, (KD.trans KD2)⟩
                  case measure => simp [intOf]; omega
            · go_wp2_with fail
              go_ret
              exact ⟨rfl, hS.keeps.trans KD.of_none⟩
end Go.Proofs.Ytcihfjfbcfgidaa.GM
