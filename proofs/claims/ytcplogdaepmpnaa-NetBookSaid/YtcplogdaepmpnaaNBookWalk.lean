/- NetBook, walked. -/
import Derived.Test.YtcplogdaepmpnaaNBookState
import Derived.Test.YtcplogdaepmpnaaNetSend
namespace Go.Proofs.Ytcplogdaepmpnaa
open Go.RowKit Go.Maps Go.ChangeMaps Go.WideElems Go.Proofs.YtcplogdaepmpnaaW.PrintLast

set_option maxRecDepth 100000 in
set_option maxHeartbeats 8000000 in
theorem nbook_any (A : Option Addr) (n cap : Nat) (its : List By) (w : World) (hA : BysAt w A its) (hR : ∀ x ∈ its, x.Raw w) (hn : its.length = n) (hr : n ≤ 140737488351232) :
    Calls Try.prog 4 #[.slice A n cap] w fun e w' => e = .returned (.bool true) ∧ Keeps None w w' := by
  subst hn
  obtain ⟨i0, hi, hz0, hz1, hz2⟩ := info_parts Try.infoBs
  go_enter Try.func4, Try.ntmps4
  go_wp2_with fail
  refine (nnew_any w).mono ?_
  rintro e w1 ⟨g, m1, m2, rfl, hN, hk1⟩
  go_wp2_with fail
  have hBa0 := Blk.new w1 27 [.bool false, .int .i64 1]
  have ka := (Keeps.refl None w1).alloc (.cells #[.bool false, .int .i64 1] 27)
  have hBb0 := Blk.new (w1.alloc (.cells #[.bool false, .int .i64 1] 27)) 27 [.bool true, .int .i64 2]
  have kb := ka.alloc (.cells #[.bool true, .int .i64 2] 27)
  have hBa1 := hBa0.alloc (.cells #[.bool true, .int .i64 2] 27)
  have hNb := hN.grew kb
  have hIa : IntV aA.2 := (show (Lit.int .i64 1).wf = true by decide)
  have hIb : IntV bA.2 := (show (Lit.int .i64 2).wf = true by decide)
  go_loopw [6, 7, 8] (fun al wv x wr => ∃ (i : Nat) (v : Value) (L : Way) (N : Nat) (sn : Ad → Int) (mn : Pr → Int) (rs : Lot), i ≤ its.length ∧ i ≤ 12 ∧ x = .int .i64 i ∧ Bk w its i g v m1 m2 L N sn mn rs al wv wr ∧ Blk wr w1.heap.size 27 [.bool false, .int .i64 1] ∧ Blk wr (w1.heap.size + 1) 27 [.bool true, .int .i64 2]) (fun _ _ x _ => its.length - (intOf x).toNat)
  case atStart => exact ⟨0, _, [], 0, _, _, [], Nat.zero_le _, by omega, rfl, ⟨hNb, by omega, Bs.nil its, rfl, rfl, ⟨⟨(fun i v zs e => by simp at e), (fun i j v zs u ys b e => by simp at e)⟩, World.ownsRow_nil _ _ _ _, World.ownsRow_nil _ _ _ _, (fun b e => by cases e), (fun j v zs e => by simp at e)⟩, fun b hb x hx => (by cases hx), Nat.le_refl _, fun x hx => (by cases hx), hk1.trans kb⟩, hBa1, by simpa using hBb0⟩
  case round =>
    obtain ⟨i, v, L, N, sn, mn, rs, hi1, hi2, rfl, hB, hBa, hBb⟩ := hrel
    rcases (by omega : (i < its.length ∧ i < 12) ∨ ¬ i < its.length ∨ (i < its.length ∧ ¬ i < 12)) with hgo | hend | hend
    · obtain ⟨hlt, h12⟩ := hgo
      · obtain ⟨x, hx⟩ : ∃ x, its[i]? = some x := ⟨_, List.getElem?_eq_getElem hlt⟩
        have hxR := (hR x (List.mem_of_getElem? hx)).grew hB.keeps
        obtain ⟨b, o, rfl, hxc⟩ := hA.grew hB.keeps i x hx
        go_wp2_with fail
        refine (lend_any x.A x.len x.cap x.bs wr hxR.nums hxR.len hxR.most).mono ?_
        rintro e wa ⟨gd, rfl, hgd, hBd, hka⟩
        have hxR1 := hxR.grew hka
        have hBka := hB.grew hka
        have hBa1' := hBa.grew hka
        have hBb1' := hBb.grew hka
        have a0 := hBa1'.cell 0 _ rfl
        have a1 := hBa1'.cell 1 _ rfl
        have b0 := hBb1'.cell 0 _ rfl
        have b1 := hBb1'.cell 1 _ rfl
        have hmost := hB.most
        have hsn : IntV (sn aA + 1) := (intV_iff _).2 (by rw [hB.sn]; omega)
        go_wp2_with fail
        refine (send_any g w.heap.size v m1 m2 L N sn mn ⟨aA, 0, bA, .slice (some ⟨gd, 0, Option.none⟩) x.bs.length (x.bs.length + 5)⟩ x.bs (some ⟨gd, 0, Option.none⟩) x.bs.length (x.bs.length + 5) wa hBka.net rfl (lentCells_nums hBd) rfl (by rw [hxR.len]; exact hxR.most) hIa hIb hsn (by omega)).mono ?_
        rintro e wb (⟨hfull, _⟩ | ⟨hroom, rfl, v1, d, hN1, hk2, hloc1, hd1⟩)
        · exact absurd (show 64 ≤ mn (aA, bA) from hfull) (by rw [hB.mn]; omega)
        · have hL1 : ∀ y ∈ L ++ [((⟨aA, (i : Int) + 1, bA, d⟩ : Pk), x.bs)], IntV y.1.fr.2 ∧ IntV y.1.to.2 ∧ y.2.length ≤ 140737488351232 ∧ y.1.pair = (aA, bA) := fun y hy => by
            rcases List.mem_append.1 hy with h | h
            · obtain ⟨j, hj, e⟩ := List.mem_iff_getElem.1 h
              obtain ⟨q1, q2, _, _⟩ := hB.way.at_ j y (by rw [← e]; exact List.getElem?_eq_getElem hj)
              exact ⟨by rw [q1]; exact hIa, by rw [q2]; exact hIb, hB.short y h, by rw [Pk.pair, q1, q2]⟩
            · obtain rfl := List.mem_singleton.1 h
              exact ⟨hIa, hIb, by simp only; rw [hxR.len]; exact hxR.most, rfl⟩
          have hN1' : Nt wb g w.heap.size v1 m1 m2 (L ++ [(⟨aA, (i : Int) + 1, bA, d⟩, x.bs)]) (N + 2) (upd sn aA ((i : Int) + 1)) (upd mn (aA, bA) (2 * (i : Int) + 1)) := by
            have h : Nt wb g w.heap.size v1 m1 m2 (L ++ [(⟨aA, sn aA + 1, bA, d⟩, x.bs)]) (N + 2) (upd sn aA (sn aA + 1)) (upd mn (aA, bA) (mn (aA, bA) + 1)) := hN1
            rw [hB.sn, hB.mn] at h
            exact h
          have hkb0 : Keeps None w wb := (hB.keeps.trans hka).andThen hk2 (fun b hb e => by have := mine_ge hB.net b e; omega)
          obtain ⟨_, _, eb, hxb⟩ := hA.grew hkb0 i x hx
          cases eb
          have hxRb := (hR x (List.mem_of_getElem? hx)).grew hkb0
          have hBdb := hBd.keeps hk2 (mine_blk hBka.net hBd (by decide) (by decide))
          have hBab := hBa1'.keeps hk2 (mine_blk hBka.net hBa1' (by decide) (by decide))
          have hBbb := hBb1'.keeps hk2 (mine_blk hBka.net hBb1' (by decide) (by decide))
          have hot1 := hBka.ot.mine hBka.net hk2
          simp only [hB.sn]
          have hwi : IntKind.i64.wrap ((i : Int) + 1) = (i : Int) + 1 := by rw [IntKind.wrap_i64]; omega
          obtain ⟨t1, t2⟩ := test_eq (rfl : (i : Int) + 1 = (i : Int) + 1)
          clear hN1 hsn hroom
          go_wp2_with fail
          refine (back_any gd x.bs.length x.bs x.A x.len x.cap wb hBdb rfl hxRb.nums hxRb.len (by rw [hxRb.len]; exact hxRb.most)).mono ?_
          rintro e wc ⟨rfl, hBdc, hk3⟩
          have hs0 := hka.size
          have hBdlt := hBd.lt
          have hBalt := hBa.lt
          have hBblt := hBb.lt
          have hwbz := hk2.size
          have hN2 : Nt wc g w.heap.size v1 m1 m2 (L ++ (⟨aA, (i : Int) + 1, bA, d⟩, x.bs) :: []) (N + 2) (upd sn aA ((i : Int) + 1)) (upd mn (aA, bA) (2 * (i : Int) + 1)) := by
            refine hN1'.keeps hk3 (fun b hm e => ?_) (fun y hy b hb e => ?_)
            · rw [show b = gd from e] at hm
              exact mine_blk hN1' hBdb (by decide) (by decide) hm
            · rw [show b = gd from e] at hb
              rcases List.mem_append.1 hy with h | h
              · have := ((hB.net.bytes y h).lt _ hb).2
                omega
              · obtain rfl := List.mem_singleton.1 h
                have := hd1 _ hb
                omega
          have hot2 := hot1.keeps hk3 (fun b hb e => by have := hB.ot.manyLt hb; simp only [One] at e; omega) (fun b hb e => by have := (World.ownsRow.lt hB.ot.all b hb).2; simp only [One] at e; omega) (fun b hb e => by have := (World.ownsRow.lt hB.ot.want b hb).2; simp only [One] at e; omega)
          have hBac := hBab.keeps hk3 (fun e => by simp only [One] at e; omega)
          have hBbc := hBbb.keeps hk3 (fun e => by simp only [One] at e; omega)
          have haw1 := away_more (x := (⟨aA, (i : Int) + 1, bA, d⟩, x.bs)) hBka.ot.many hB.away hd1
          have hno := hB.way.named_no
          have hnm : Pk.named ⟨aA, (i : Int) + 1, bA, d⟩ aA ((i : Int) + 1) = true := by simp [Pk.named]
          have c0 := hBac.cell 0 _ rfl
          have c1 := hBac.cell 1 _ rfl
          have hv1 : (upd mn (aA, bA) (2 * (i : Int) + 1)) (aA, bA) = 2 * (i : Int) + 1 := upd_same _ _ _
          have hsv : (upd sn aA ((i : Int) + 1)) aA = (i : Int) + 1 := upd_same _ _ _
          generalize upd mn (aA, bA) (2 * (i : Int) + 1) = mn1 at hN2 hv1
          generalize upd sn aA ((i : Int) + 1) = sn1 at hN2 hsv
          clear hN1' hN
          go_wp2_with fail
          refine (double_mid aA ((i : Int) + 1) hN2 hno hnm (by show mn1 (aA, bA) < 64; rw [hv1]; omega) (fun y hy => ⟨(hL1 y hy).1, (hL1 y hy).2.1, (hL1 y hy).2.2.1⟩) (by omega)).mono ?_
          rintro e wd ⟨rfl, v2, d2, hN3, hk4, hd2⟩
          replace hN3 : Nt wd g w.heap.size v2 m1 m2 (L ++ (⟨aA, (i : Int) + 1, bA, d⟩, x.bs) :: [(⟨aA, (i : Int) + 1, bA, d2⟩, x.bs)]) (N + 3) sn1 (upd mn1 (aA, bA) (mn1 (aA, bA) + 1)) := hN3
          have hv2 : (upd mn1 (aA, bA) (mn1 (aA, bA) + 1)) (aA, bA) = 2 * (i : Int) + 2 := by rw [upd_same, hv1]; omega
          generalize upd mn1 (aA, bA) (mn1 (aA, bA) + 1) = mn2 at hN3 hv2
          have hot3 := hot2.mine hN2 hk4
          have hBad := hBac.keeps hk4 (mine_blk hN2 hBac (by decide) (by decide))
          have hBbd := hBbc.keeps hk4 (mine_blk hN2 hBbc (by decide) (by decide))
          have haw2 := away_more (x := (⟨aA, (i : Int) + 1, bA, d2⟩, x.bs)) hot2.many haw1 hd2
          have hL2 : ∀ y ∈ L ++ ((⟨aA, (i : Int) + 1, bA, d⟩ : Pk), x.bs) :: [((⟨aA, (i : Int) + 1, bA, d2⟩ : Pk), x.bs)], IntV y.1.fr.2 ∧ IntV y.1.to.2 ∧ y.2.length ≤ 140737488351232 ∧ y.1.pair = (aA, bA) := fun y hy => by
            have hz : x.bs.length ≤ 140737488351232 := by rw [hxR.len]; exact hxR.most
            simp only [List.mem_append, List.mem_cons, List.not_mem_nil, or_false] at hy
            rcases hy with h | rfl | rfl
            · exact hL1 y (List.mem_append_left _ h)
            · exact ⟨hIa, hIb, hz, rfl⟩
            · exact ⟨hIa, hIb, hz, rfl⟩
          have c0' := hBad.cell 0 _ rfl
          have c1' := hBad.cell 1 _ rfl
          go_wp2_with fail
          refine (double_mid aA ((i : Int) + 1) hN3 hno hnm (by show mn2 (aA, bA) < 64; rw [hv2]; omega) (fun y hy => ⟨(hL2 y hy).1, (hL2 y hy).2.1, (hL2 y hy).2.2.1⟩) (by omega)).mono ?_
          rintro e we ⟨rfl, v3, d3, hN4, hk5, hd3⟩
          replace hN4 : Nt we g w.heap.size v3 m1 m2 (L ++ (⟨aA, (i : Int) + 1, bA, d⟩, x.bs) :: [(⟨aA, (i : Int) + 1, bA, d2⟩, x.bs), (⟨aA, (i : Int) + 1, bA, d3⟩, x.bs)]) (N + 4) sn1 (upd mn2 (aA, bA) (mn2 (aA, bA) + 1)) := hN4
          have hv3 : (upd mn2 (aA, bA) (mn2 (aA, bA) + 1)) (aA, bA) = 2 * (i : Int) + 3 := by rw [upd_same, hv2]; omega
          generalize upd mn2 (aA, bA) (mn2 (aA, bA) + 1) = mn3 at hN4 hv3
          have hot4 := hot3.mine hN3 hk5
          have hBae := hBad.keeps hk5 (mine_blk hN3 hBad (by decide) (by decide))
          have hBbe := hBbd.keeps hk5 (mine_blk hN3 hBbd (by decide) (by decide))
          have haw3 := away_more (x := (⟨aA, (i : Int) + 1, bA, d3⟩, x.bs)) hot3.many haw2 hd3
          have hL3 : ∀ y ∈ L ++ ((⟨aA, (i : Int) + 1, bA, d⟩ : Pk), x.bs) :: [((⟨aA, (i : Int) + 1, bA, d2⟩ : Pk), x.bs), ((⟨aA, (i : Int) + 1, bA, d3⟩ : Pk), x.bs)], IntV y.1.fr.2 ∧ IntV y.1.to.2 ∧ y.2.length ≤ 140737488351232 ∧ y.1.pair = (aA, bA) := fun y hy => by
            have hz : x.bs.length ≤ 140737488351232 := by rw [hxR.len]; exact hxR.most
            simp only [List.mem_append, List.mem_cons, List.not_mem_nil, or_false] at hy
            rcases hy with h | rfl | rfl | rfl
            · exact hL1 y (List.mem_append_left _ h)
            · exact ⟨hIa, hIb, hz, rfl⟩
            · exact ⟨hIa, hIb, hz, rfl⟩
            · exact ⟨hIa, hIb, hz, rfl⟩
          have e0' := hBae.cell 0 _ rfl
          have e1' := hBae.cell 1 _ rfl
          go_wp2_with fail
          refine (deliver_mid aA ((i : Int) + 1) hN4 hno hnm (fun y hy => ⟨(hL3 y hy).1, (hL3 y hy).2.1, by rw [(hL3 y hy).2.2.2, hv3]; omega⟩) (by omega)).mono ?_
          rintro e wf ⟨rfl, v4, hN5, hk6, _⟩
          replace hN5 : Nt wf g w.heap.size v4 m1 m2 (L ++ [(⟨aA, (i : Int) + 1, bA, d2⟩, x.bs), (⟨aA, (i : Int) + 1, bA, d3⟩, x.bs)]) (N + 5) sn1 (upd mn3 (aA, bA) (mn3 (aA, bA) - 1)) := hN5
          have hv4 : (upd mn3 (aA, bA) (mn3 (aA, bA) - 1)) (aA, bA) = 2 * ((i + 1 : Nat) : Int) := by rw [upd_same, hv3]; omega
          generalize upd mn3 (aA, bA) (mn3 (aA, bA) - 1) = mn4 at hN5 hv4
          have hot5 := hot4.mine hN4 hk6
          have hBaf := hBae.keeps hk6 (mine_blk hN4 hBae (by decide) (by decide))
          have hBbf := hBbe.keeps hk6 (mine_blk hN4 hBbe (by decide) (by decide))
          have hxd4 : Row .u8 5 we w.heap.size d x.bs := hN4.bytes (⟨aA, (i : Int) + 1, bA, d⟩, x.bs) (by simp)
          have hxd5 := hxd4.keeps hk6 (fun b hb e => hN4.byte_off hxd4 hb e)
          have hsep := apart_mid hN4.apart
          have hkf : Keeps None w wf := ((((hkb0.andThen hk3 (fun b hb e => by have := hB.keeps.size; simp only [One] at e; omega)).andThen hk4 (fun b hb e => by have := mine_ge hN2 b e; omega)).andThen hk5 (fun b hb e => by have := mine_ge hN3 b e; omega)).andThen hk6 (fun b hb e => by have := mine_ge hN4 b e; omega))
          obtain ⟨Ad, cd, rfl⟩ := hxd5.slice
          have hY := Blk.new wf 33 [.bool false, .int .i64 0, .int .i64 0, .bool false, .int .i64 0, .slice Option.none 0 0]
          have kY := (Keeps.refl None wf).alloc (.cells #[.bool false, .int .i64 0, .int .i64 0, .bool false, .int .i64 0, .slice Option.none 0 0] 33)
          go_wp2_with (first
            | (with_reducible refine wpList_store_pk rfl (.tmp 12) (.tmp 88) rfl wf.heap.size ⟨aA, (i : Int) + 1, bA, .slice Ad x.bs.length cd⟩ rfl rfl rfl _ hY rfl ?_; intro wg hBg hkg; have g5 := hBg.cell 5 _ rfl))
          have kfg : Keeps None wf wg := kY.andThen hkg (fun j hj e => by simp only [One] at e; omega)
          have hkgw := hkf.trans kfg
          obtain ⟨_, _, eb2, hxg⟩ := hA.grew hkgw i x hx
          cases eb2
          have hxRg := (hR x (List.mem_of_getElem? hx)).grew hkgw
          have hxdg := hxd5.grew kfg
          have hsame : ∀ n, Calls Try.prog 15 #[.slice Ad x.bs.length cd, .slice x.A x.len x.cap] (wg.drewN n) fun e w'' => e = .returned (.bool true) ∧ ∃ m, w'' = wg.drewN m := fun n =>
            Calls.quiet_of ((same_any Ad x.bs.length cd x.bs x.A x.len x.cap x.bs (wg.drewN n) ((Nums.row hxdg).1.grew ((Keeps.refl None wg).drewN n)) rfl (hxRg.nums.grew ((Keeps.refl None wg).drewN n)) hxRg.len (by rw [hxRg.len]; exact hxRg.most)).mono fun _ _ h => ⟨by rw [h.1]; simp [SameB], h.2.out⟩)
          go_quiet ((go_at_call 15; exact hsame _))
          have hotg := hot5.grew kfg
          have hfew := hB.few
          go_wp2_with (at_builtin; refine wpList_append_row _ rfl (.tmp 102) (.tmp 105) 23 rfl w.heap.size 28 i0 (.slice Option.none 0 0) 1 24 Try.underlying23 hi hz0 hz1 hz2 rfl (by decide) u6 rs.length _ rfl (owns_grew hotg.all ((Keeps.refl None _).drewN _ |>.alloc _)) (some ⟨wg.heap.size, 0, Option.none⟩) 1 1 [Value.slice Ad x.bs.length cd] rfl rfl (fun e => by cases e) (src_new _ 28 _ _ rfl) (by intro u hu; simp at hu; subst hu; rfl) (by unfold maxLen; omega) (by omega) (by have := hkgw.size; simp; omega) ?_; intro al' wh hown hkh hloch)
          have kgh : ∀ n, Keeps None wg ((wg.drewN n).alloc (.cells #[Value.slice Ad x.bs.length cd] 28)) := fun n => ((Keeps.refl None wg).drewN n).alloc _
          obtain ⟨nq, hkh, hloch⟩ : ∃ n, Keeps (OwnB u6) ((wg.drewN n).alloc (.cells #[Value.slice Ad x.bs.length cd] 28)) wh ∧ (al'.ownBlock = u6.ownBlock ∨ al'.ownBlock = some ((wg.drewN n).alloc (.cells #[Value.slice Ad x.bs.length cd] 28)).heap.size) := ⟨_, hkh, hloch⟩
          have hfar : ∀ b, OwnM rs b → (Value.slice Ad x.bs.length cd).ownBlock ≠ some b := fun b hb => haw3 b hb (⟨aA, (i : Int) + 1, bA, .slice Ad x.bs.length cd⟩, x.bs) (by simp)
          have hot7 := Ot.push (hotg.grew (kgh nq)) (hxdg.grew (kgh nq)) hfar (by rw [hxR.len]; exact hxR.most) hown hkh hloch
          have hNh : Nt wh g w.heap.size v4 m1 m2 (L ++ [(⟨aA, (i : Int) + 1, bA, d2⟩, x.bs), (⟨aA, (i : Int) + 1, bA, d3⟩, x.bs)]) (N + 5) sn1 mn4 :=
            ((hN5.grew kfg).grew (kgh nq)).keeps hkh (fun b hm hb => mine_off ((hN5.grew kfg).grew (kgh nq)) (hotg.grew (kgh nq)).all (by decide) (by decide) b hb hm) (fun y hy b hb hb' => rows_apart (hotg.grew (kgh nq)).all (((hN5.grew kfg).grew (kgh nq)).bytes y hy).raw (by decide) hb' hb)
          have hkwh : Keeps None w wh := (hkgw.trans (kgh nq)).andThen hkh (fun b hb e => by have := (World.ownsRow.lt hotg.all b e).1; omega)
          have hBah : Blk wh w1.heap.size 27 [.bool false, .int .i64 1] := ((hBaf.grew kfg).grew (kgh nq)).keeps hkh (fun e => by
            obtain ⟨cur, hc⟩ := owns_obj (hotg.grew (kgh nq)).all e
            rw [((hBaf.grew kfg).grew (kgh nq)).raw] at hc
            cases hc)
          have hBbh : Blk wh (w1.heap.size + 1) 27 [.bool true, .int .i64 2] := ((hBbf.grew kfg).grew (kgh nq)).keeps hkh (fun e => by
            obtain ⟨cur, hc⟩ := owns_obj (hotg.grew (kgh nq)).all e
            rw [((hBbf.grew kfg).grew (kgh nq)).raw] at hc
            cases hc)
          obtain ⟨_, _, eb3, hxh⟩ := hA.grew hkwh i x hx
          cases eb3
          clear hown hkh hloch hot1 hot2 hot3 hot4 hN2 hN3 hN4
          have hbu7 : ¬ OwnB u7 b := fun e => by
            have h1 := (World.ownsRow.lt hot7.want b e).1
            obtain ⟨_, _, eb4, hxw⟩ := hA i x hx
            cases eb4
            have := World.block_lt_of_cell? w _ hxw
            simp only at this
            omega
          refine start_ (ds := []) (S := (fun w' => Keeps (OwnB u7) wh w')) #[false, false, false, false, false, false, false, false, false, false, false, false] (by kernel_rfl) rfl rfl ((Keeps.refl _ _).drew) (fun hS0 => ?_)
          refine pure_ (i := 0) (N := some 107) (v := u7) #[true, false, false, false, false, false, false, false, false, false, false, false] rfl rfl (by kernel_rfl) (fun _ _ _ h => h) (Or.inl ⟨wanted_none rfl, fun w => by rfl⟩) rfl ?_
          try simp only [Act.put, List.setIfInBounds_toArray, List.set_cons_zero, List.set_cons_succ]
          refine pure_ (i := 1) (N := some 108) (v := .slice (some ⟨b, o, Option.none⟩) its.length cap) #[true, true, false, false, false, false, false, false, false, false, false, false] rfl rfl (by kernel_rfl) (fun _ _ _ h => h) (Or.inl ⟨wanted_none rfl, fun w => by rfl⟩) rfl ?_
          try simp only [Act.put, List.setIfInBounds_toArray, List.set_cons_zero, List.set_cons_succ]
          refine pure_ (i := 2) (N := some 109) (v := .int .i64 (i : Int)) #[true, true, true, false, false, false, false, false, false, false, false, false] rfl rfl (by kernel_rfl) (fun _ _ _ h => h) (Or.inl ⟨wanted_none rfl, fun w => by rfl⟩) rfl ?_
          try simp only [Act.put, List.setIfInBounds_toArray, List.set_cons_zero, List.set_cons_succ]
          refine pure_ (i := 3) (N := some 110) (v := .pointer (some ⟨b, o + i, Option.none⟩)) #[true, true, true, true, false, false, false, false, false, false, false, false] rfl rfl (by kernel_rfl) (fun _ _ _ h => h) (Or.inl ⟨wanted_none rfl, fun w => by go_simp⟩) rfl ?_
          try simp only [Act.put, List.setIfInBounds_toArray, List.set_cons_zero, List.set_cons_succ]
          refine take_ (i := 4) (N := some 111) (v := .slice x.A x.len x.cap) #[true, true, true, true, true, false, false, false, false, false, false, false] rfl rfl (by kernel_rfl) (fun _ _ _ h => h) (Or.inl ⟨wanted_none rfl, by intro w' hSw; have q := hSw.cell hxh hbu7; go_simp⟩) hS0 rfl ?_
          try simp only [Act.put, List.setIfInBounds_toArray, List.set_cons_zero, List.set_cons_succ]
          refine pure_ (i := 5) (N := some 112) (v := .slice (some ⟨b, o, Option.none⟩) its.length cap) #[true, true, true, true, true, true, false, false, false, false, false, false] rfl rfl (by kernel_rfl) (fun _ _ _ h => h) (Or.inl ⟨wanted_none rfl, fun w => by rfl⟩) rfl ?_
          try simp only [Act.put, List.setIfInBounds_toArray, List.set_cons_zero, List.set_cons_succ]
          refine pure_ (i := 6) (N := some 113) (v := .int .i64 (i : Int)) #[true, true, true, true, true, true, true, false, false, false, false, false] rfl rfl (by kernel_rfl) (fun _ _ _ h => h) (Or.inl ⟨wanted_none rfl, fun w => by rfl⟩) rfl ?_
          try simp only [Act.put, List.setIfInBounds_toArray, List.set_cons_zero, List.set_cons_succ]
          refine pure_ (i := 7) (N := some 114) (v := .pointer (some ⟨b, o + i, Option.none⟩)) #[true, true, true, true, true, true, true, true, false, false, false, false] rfl rfl (by kernel_rfl) (fun _ _ _ h => h) (Or.inl ⟨wanted_none rfl, fun w => by go_simp⟩) rfl ?_
          try simp only [Act.put, List.setIfInBounds_toArray, List.set_cons_zero, List.set_cons_succ]
          refine take_ (i := 8) (N := some 115) (v := .slice x.A x.len x.cap) #[true, true, true, true, true, true, true, true, true, false, false, false] rfl rfl (by kernel_rfl) (fun _ _ _ h => h) (Or.inl ⟨wanted_none rfl, by intro w' hSw; have q := hSw.cell hxh hbu7; go_simp⟩) hS0 rfl ?_
          try simp only [Act.put, List.setIfInBounds_toArray, List.set_cons_zero, List.set_cons_succ]
          have hbs := Blk.new wh.drew 28 [Value.slice x.A x.len x.cap, Value.slice x.A x.len x.cap]
          have ks : Keeps None wh (wh.drew.alloc (.cells #[Value.slice x.A x.len x.cap, Value.slice x.A x.len x.cap] 28)) := ((Keeps.refl _ _).drew).alloc _
          refine one_ (i := 9) (oi := ({ dst := some 116, op := Op.buildSlice 23 2 #[(0, Operand.tmp 111), (1, Operand.tmp 115)], type := 23, pos := "outright.go:217", after := #[{ on := 4, ground := Ground.data }, { on := 8, ground := Ground.data }], guard := Option.none } : Oper)) (N := some 116) #[true, true, true, true, true, true, true, true, true, true, false, false] rfl rfl (by kernel_rfl) (by decide) ?_
          intro KK hKK
          refine value_ (wanted_none rfl) rfl (w1 := wh.drew.alloc (.cells #[Value.slice x.A x.len x.cap, Value.slice x.A x.len x.cap] 28)) (v := .slice (some ⟨wh.drew.heap.size, 0, Option.none⟩) 2 2) (by go_simp) (hKK.out _ _ ks.of_none (fun hS1 => ?_))
          try simp only [Act.put, List.setIfInBounds_toArray, List.set_cons_zero, List.set_cons_succ]
          refine one_ (i := 10) (oi := ({ dst := some 117, op := Op.call { callee := Callee.builtin Builtin.append, args := #[Operand.tmp 107, Operand.tmp 116], argTypes := #[23, 23] }, type := 23, pos := "outright.go:217", after := #[{ on := 0, ground := Ground.data }, { on := 9, ground := Ground.data }], guard := Option.none } : Oper)) (N := some 117) #[true, true, true, true, true, true, true, true, true, true, true, false] rfl rfl (by kernel_rfl) (by decide) ?_
          intro KK hKK
          refine step_append_row _ (wanted_none rfl) rfl (.tmp 107) (.tmp 116) 23 rfl w.heap.size 28 i0 _ 1 24 Try.underlying23 hi hz0 hz1 hz2 rfl (by decide) u7 (2 * i) _ rfl (owns_grew hot7.want ks) (some ⟨wh.drew.heap.size, 0, Option.none⟩) 2 2 [Value.slice x.A x.len x.cap, Value.slice x.A x.len x.cap] rfl rfl (fun e => by cases e) (src_cells hbs) (by intro u hu; simp at hu; subst hu; rfl) (by unfold maxLen; omega) (by omega) (by have := ks.size; have := hkwh.size; omega) ?_
          intro wv' wi hown2 hki hloci
          refine hKK.out _ _ (hS1.andThen hki (fun _ _ e => e)) (fun hS2 => ?_)
          try simp only [Act.put, List.setIfInBounds_toArray, List.set_cons_zero, List.set_cons_succ]
          refine pure_ (i := 11) (N := some 7) (v := wv') #[true, true, true, true, true, true, true, true, true, true, true, true] rfl rfl (by kernel_rfl) (fun _ _ _ h => h) (Or.inl ⟨wanted_none rfl, fun w => by rfl⟩) rfl ?_
          try simp only [Act.put, List.setIfInBounds_toArray, List.set_cons_zero, List.set_cons_succ]
          refine done_ (by kernel_rfl) ?_
          obtain ⟨hki, hloci⟩ : Keeps (OwnB u7) (wh.drew.alloc (.cells #[Value.slice x.A x.len x.cap, Value.slice x.A x.len x.cap] 28)) wi ∧ (wv'.ownBlock = u7.ownBlock ∨ wv'.ownBlock = some (wh.drew.alloc (.cells #[Value.slice x.A x.len x.cap, Value.slice x.A x.len x.cap] 28)).heap.size) := ⟨hki, hloci⟩
          have hot9 := hot7.grew ks
          have hot10 := Ot.wish hot9 (by rw [← wantCells_succ hx] at hown2; exact hown2) hki hloci
          have hNi := (hNh.grew ks).keeps hki (fun b hm hb => mine_off (hNh.grew ks) hot9.want (by decide) (by decide) b hb hm) (fun y hy b hb hb' => rows_apart hot9.want ((hNh.grew ks).bytes y hy).raw (by decide) hb' hb)
          have hBai : Blk wi w1.heap.size 27 [.bool false, .int .i64 1] := (hBah.grew ks).keeps hki (fun e => by
            obtain ⟨cur, hc⟩ := owns_obj hot9.want e
            rw [(hBah.grew ks).raw] at hc
            cases hc)
          have hBbi : Blk wi (w1.heap.size + 1) 27 [.bool true, .int .i64 2] := (hBbh.grew ks).keeps hki (fun e => by
            obtain ⟨cur, hc⟩ := owns_obj hot9.want e
            rw [(hBbh.grew ks).raw] at hc
            cases hc)
          go_wp2_with fail
          go_roundw
          case rel =>
            refine ⟨i + 1, v4, _, N + 5, sn1, mn4, rs ++ [(.slice Ad x.bs.length cd, x.bs)], by omega, by omega, by go_num, ⟨hNi, by omega, hB.way.step hx d2 d3, by rw [hsv]; omega, hv4, hot10, ?_, by simp; omega, fun y hy => ?_, (hkwh.trans ks).andThen hki (fun b hb e => by have := (World.ownsRow.lt hot7.want b e).1; omega)⟩, hBai, hBbi⟩
            · intro b hb y hy
              rcases hb.snoc with h | h
              · refine haw3 b h y ?_
                simp only [List.mem_append, List.mem_cons, List.not_mem_nil, or_false] at hy ⊢
                rcases hy with hy | rfl | rfl
                · exact .inl (.inl (.inl hy))
                · exact .inl (.inr rfl)
                · exact .inr rfl
              · exact hsep y hy b h
            · refine (hL3 y ?_).2.2.1
              simp only [List.mem_append, List.mem_cons, List.not_mem_nil, or_false] at hy ⊢
              rcases hy with hy | rfl | rfl
              · exact .inl hy
              · exact .inr (.inr (.inl rfl))
              · exact .inr (.inr (.inr rfl))
          case measure => simp [intOf]; omega
    all_goals
      go_wp2_with fail
      have hB2 : B2 w its i g v m1 m2 L N sn mn (12 + 24 * 0) rs u6 u7 wr := ⟨hB.net, hB.ot, hB.away, by have := hB.few; omega, hB.keeps⟩
      have hWAY := hB.way
      have hLl := hB.way.len
      have hmost := hB.most
      have hshort := hB.short
      have hmn := hB.mn
      clear hB
      go_loopw [6, 14] (fun al x wr => ∃ (t : Nat) (rs : Lot), t ≤ 2 ∧ x = .int .i64 t ∧ B2 w its i g v m1 m2 L N sn mn (12 + 24 * t) rs al u7 wr ∧ Blk wr w1.heap.size 27 [.bool false, .int .i64 1]) (fun _ x _ => 2 - (intOf x).toNat)
      case atStart => exact ⟨0, rs, by omega, rfl, hB2, hBa⟩
      case round =>
        clear hB2 hBa hBb
        obtain ⟨t, rs, ht, rfl, hB, hBa⟩ := hrel
        by_cases h2 : t < 2
        · go_wp2_with fail
          refine (listed_any g w.heap.size v m1 m2 L N sn mn _ hB.net (by omega) hshort).mono ?_
          rintro e wa ⟨u, M, rfl, hT, hka⟩
          obtain ⟨Au, cu, rfl⟩ := owns_slice hT.row
          have hLlt : ∀ x ∈ L, ∀ b, x.1.dv.ownBlock = some b → b < wr.heap.size := fun x hx b hb => ((hB.net.bytes x hx).lt b hb).2
          have hrlt : ∀ b, OwnM rs b → b < wr.heap.size := fun b hb => (hB.ot.manyLt hb).2
          have hML : M.length ≤ 24 := by have := hT.len; omega
          have hBs := hB.grew hka
          have hBas := hBa.grew hka
          have hwr := hB.keeps.size
          have hMs : ∀ x ∈ M, x.2.length ≤ 140737488351232 := fun x hx => by
            obtain ⟨j, hj, e⟩ := List.mem_iff_getElem.1 hx
            obtain ⟨y, hy, _, _, _, e2⟩ := hT.at_ (j := j) (x := x) (by rw [← e]; exact List.getElem?_eq_getElem hj)
            rw [← e2]
            exact hshort y (List.mem_of_getElem? hy)
          clear hB hBa
          obtain ⟨B1, eB1⟩ : ∃ B1, B1 = wr.heap.size := ⟨_, rfl⟩
          rw [← eB1] at hT hLlt hrlt hwr
          clear eB1
          go_wp2_with fail
          go_loopw [6, 17] (fun al x wq => ∃ (k : Nat) (rs' : Lot), k ≤ M.length ∧ x = .int .i64 k ∧ B2 w its i g v m1 m2 L N sn mn (12 + 24 * t + k) rs' al u7 wq ∧ Told wq B1 (.slice Au M.length cu) L M ∧ Blk wq w1.heap.size 27 [.bool false, .int .i64 1] ∧
            (∀ b, OwnM rs' b → b < B1 ∨ ∃ j y, j < k ∧ M[j]? = some y ∧ y.1.dv.ownBlock = some b)) (fun _ x _ => M.length - (intOf x).toNat)
          case atStart => exact ⟨0, rs, by omega, rfl, hBs, hT, hBas, fun b hb => .inl (hrlt b hb)⟩
          case round =>
            clear hBs hT hBas hrlt
            obtain ⟨k, rs', hk, rfl, hB, hT, hBa, hin⟩ := hrel
            by_cases hlt : k < M.length
            · obtain ⟨x, hx⟩ : ∃ x, M[k]? = some x := ⟨_, List.getElem?_eq_getElem hlt⟩
              obtain ⟨bM, oM, rfl, hpk⟩ := (Pks.of_owns hT.row).1 k x.1 (by rw [List.getElem?_map, hx]; rfl)
              have hrx := hT.bytes x (List.mem_of_getElem? hx)
              obtain ⟨Ax, cx, edx⟩ := hrx.slice
              have p5 := hpk 5 _ rfl
              rw [edx] at p5
              rw [edx] at hrx
              have hfew := hB.few
              go_wp2_with (at_builtin; refine wpList_append_row _ rfl (.tmp 133) (.tmp 139) 23 rfl w.heap.size 28 i0 (.slice Option.none 0 0) 1 24 Try.underlying23 hi hz0 hz1 hz2 rfl (by decide) u6 rs'.length _ rfl (owns_grew hB.ot.all ((Keeps.refl None _).alloc _)) (some ⟨wr.heap.size, 0, Option.none⟩) 1 1 [Value.slice Ax x.2.length cx] rfl rfl (fun e => by cases e) (src_new _ 28 _ _ rfl) (by intro u hu; simp at hu; subst hu; rfl) (by unfold maxLen; omega) (by omega) (by have := hB.keeps.size; simp; omega) ?_; intro al' wh hown hkh hloch)
              have ks : Keeps None wr (wr.alloc (.cells #[Value.slice Ax x.2.length cx] 28)) := (Keeps.refl None wr).alloc _
              replace hkh : Keeps (OwnB u6) (wr.alloc (.cells #[Value.slice Ax x.2.length cx] 28)) wh := hkh
              have hrx1 : Row .u8 5 wr w.heap.size (Value.slice Ax x.2.length cx) x.2 := hrx.down (by omega)
              have hBn := (hB.grew ks).push (hrx1.grew ks) (fun b hb e => by
                rcases hin b hb with h | ⟨j, y, hj, hy, hyb⟩
                · have := (hrx.lt b e).1
                  omega
                · exact apart_two hT.apart hy hx hj b hyb (edx ▸ e)) (hMs x (List.mem_of_getElem? hx)) (fun y hy b e he => by
                have := (hrx.lt b e).1
                have := hLlt y hy b he
                omega) hown hkh hloch
              have hTn := (hT.grew ks).keeps hkh (fun b hb e => rows_apart (hB.grew ks).ot.all (hT.grew ks).row (by decide) e hb) (fun y hy b hb e => rows_apart (hB.grew ks).ot.all ((hT.grew ks).bytes y hy).raw (by decide) e hb)
              have hBan : Blk wh w1.heap.size 27 [.bool false, .int .i64 1] := (hBa.grew ks).keeps hkh (fun e => by
                obtain ⟨cur, hc⟩ := owns_obj (hB.grew ks).ot.all e
                rw [(hBa.grew ks).raw] at hc
                cases hc)
              go_wp2_with fail
              go_roundw
              case rel => exact ⟨k + 1, rs' ++ [(.slice Ax x.2.length cx, x.2)], by omega, by go_num, hBn, hTn, hBan, fun b hb => by
                rcases hb.snoc with h | h
                · rcases hin b h with h | ⟨j, y, hj, hy, hyb⟩
                  · exact .inl h
                  · exact .inr ⟨j, y, by omega, hy, hyb⟩
                · exact .inr ⟨k, x, by omega, hx, by rw [edx]; exact h⟩⟩
              case measure => simp [intOf]; omega
            · obtain rfl : k = M.length := by omega
              go_wp2_with fail
              go_roundw
              case rel => exact ⟨t + 1, rs', by omega, by go_num, hB.more (by omega), hBa⟩
              case measure => simp [intOf]; omega
        · obtain rfl : t = 2 := by omega
          go_wp2_with fail
          refine (listed_any g w.heap.size v m1 m2 L N sn mn _ hB.net (by omega) hshort).mono ?_
          rintro e wa ⟨u, M, rfl, hT, hka⟩
          have hMl := hT.len
          obtain ⟨hnet0, hot0, haway, hfew, hkeep0⟩ := hB.grew hka
          have hBa1 := hBa.grew hka
          have hmany0 := hot0.many
          have hwant0 : wa.ownsRow w.heap.size 28 1 u7 M.length (wantCells its i) := by rw [hMl, hLl]; exact hot0.want
          obtain ⟨Au, cu, rfl⟩ := owns_slice hT.row
          obtain ⟨Aw, cw, rfl⟩ := owns_open hwant0
          obtain ⟨Aa, ca, rfl⟩ := owns_open hot0.all
          have hlies := hot0.lies
          have hrlt : ∀ b, OwnM rs b → w.heap.size ≤ b ∧ b < wr.heap.size := fun b hb => hB.ot.manyLt hb
          have hrsl := hot0.short
          have hvB0 : ∀ b, v.ownBlock = some b → b < wr.heap.size := fun b hb => (World.ownsRow.lt hB.net.row b hb).2
          have hM24 : M.length ≤ 24 := by omega
          have hMI := Lib.hid (hMl.trans hLl)
          clear hB hBa hMl hot0
          go_wp2_with fail
          refine (grown_any Aa rs.length ca rs w.heap.size wa hlies hmany0 rfl (by omega) hrsl hkeep0.size).mono ?_
          rintro e wb ⟨rfl, hkb⟩
          have hT1 : Told wb wr.heap.size (.slice Au M.length cu) L M := hT.keeps hkb (fun b hb ⟨j, u, ys, e1, e2⟩ => rows_apart hT.row (hmany0.row j u ys e1).raw (by decide) hb e2) (fun y hy b hb hm => by
            have h1 := ((hT.bytes y hy).lt b hb).1
            have h2 := (hrlt b hm).2
            omega)
          have hnet1 := hnet0.keeps hkb (fun b hm ⟨j, u, ys, e1, e2⟩ => hnet0.byte_off (hmany0.row j u ys e1) e2 hm) (fun y hy b hb hm => haway b hm y hy hb)
          have hwant1 := owns_keeps hwant0 hkb (fun b hb ⟨j, u, ys, e1, e2⟩ => rows_apart hwant0 (hmany0.row j u ys e1).raw (by decide) hb e2)
          have hBa2 := hBa1.keeps hkb (fun ⟨j, u, ys, e1, e2⟩ => by
            obtain ⟨cur, hc⟩ := owns_obj (hmany0.row j u ys e1).raw e2
            rw [hBa1.raw] at hc
            cases hc)
          have hkeep1 : Keeps None w wb := hkeep0.andThen hkb (fun b hb hm => by have := (hrlt b hm).1; omega)
          obtain ⟨B1, eB1⟩ : ∃ B1, B1 = wr.heap.size := ⟨_, rfl⟩
          rw [← eB1] at hT1 hrlt hvB0
          have hLI : ∀ y ∈ L, IntV y.1.fr.2 ∧ IntV y.1.to.2 ∧ y.1.pair = (aA, bA) := fun y hy => by
            obtain ⟨j, hj, e⟩ := List.mem_iff_getElem.1 hy
            obtain ⟨q1, q2, _, _⟩ := hWAY.at_ j y (by rw [← e]; exact List.getElem?_eq_getElem hj)
            exact ⟨by rw [q1]; exact hIa, by rw [q2]; exact hIb, by rw [Pk.pair, q1, q2]⟩
          obtain ⟨t1, t2⟩ := test_eq (rfl : (M.length : Int) = (M.length : Int))
          have hmn0 : mn (aA, bA) = (M.length : Int) - (0 : Nat) := by rw [hmn, hMI.out]; omega
          clear hT hnet0 hwant0 hBa1 hkeep0 hkb hka hmany0 hlies hrlt haway hrsl eB1 hmn
          go_wp2_with fail
          go_loopw [20] (fun x wr => ∃ (j : Nat) (v : Value) (N' : Nat) (mn' : Pr → Int), j ≤ M.length ∧ x = .int .i64 j ∧ Nt wr g w.heap.size v m1 m2 (L.drop j) N' sn mn' ∧ N' ≤ 72 + j ∧ mn' (aA, bA) = (M.length : Int) - (j : Nat) ∧ Told wr B1 (.slice Au M.length cu) L M ∧
            wr.ownsRow w.heap.size 28 1 (.slice Aw M.length cw) M.length (wantCells its i) ∧ Blk wr w1.heap.size 27 [.bool false, .int .i64 1] ∧ Keeps None w wr ∧ ∀ b, v.ownBlock = some b → b < B1) (fun x _ => M.length - (intOf x).toNat)
          case atStart => exact ⟨0, v, N, mn, by omega, rfl, hnet1, by omega, hmn0, hT1, hwant1, hBa2, hkeep1, hvB0⟩
          case round =>
            clear hnet1 hmn0 hT1 hwant1 hBa2 hkeep1
            obtain ⟨j, v, N', mn', hj, rfl, hnet, hN', hmnj, hT, hwant, hBa, hkeep, hvB⟩ := hrel
            by_cases hlt : j < M.length
            · obtain ⟨x, hx⟩ : ∃ x, M[j]? = some x := ⟨_, List.getElem?_eq_getElem hlt⟩
              obtain ⟨y, hy, efr, ect, eto, ebs⟩ := hT.at_ hx
              obtain ⟨q1, q2, q3, it, hit, q5⟩ := hWAY.at_ j y hy
              have hitR := (hR it (List.mem_of_getElem? hit)).grew hkeep
              obtain ⟨bM, oM, rfl, hpk⟩ := (Pks.of_owns hT.row).1 j x.1 (by rw [List.getElem?_map, hx]; rfl)
              have hrx := hT.bytes x (List.mem_of_getElem? hx)
              obtain ⟨Ax, cx, edx⟩ := hrx.slice
              have p5 := hpk 5 _ rfl
              have p2 := hpk 2 _ rfl
              rw [edx] at p5 hrx
              obtain ⟨gw, cw', ew, hcw⟩ := owns_at hwant (by omega)
              cases ew
              have pw := hcw j _ (wantCells_at its i j it (by have := hMI.out; omega) hit)
              have exb : x.2 = it.bs := by rw [← ebs, q5]
              have hxl : x.2.length ≤ 140737488351232 := by rw [exb, hitR.len]; exact hitR.most
              have hsame : ∀ n, Calls Try.prog 15 #[.slice Ax x.2.length cx, .slice it.A it.len it.cap] (wr.drewN n) fun e w'' => e = .returned (.bool true) ∧ ∃ m, w'' = wr.drewN m := fun n =>
                Calls.quiet_of ((same_any Ax x.2.length cx x.2 it.A it.len it.cap it.bs (wr.drewN n) ((Nums.row hrx).1.grew ((Keeps.refl None wr).drewN n)) rfl (hitR.nums.grew ((Keeps.refl None wr).drewN n)) hitR.len hxl).mono fun _ _ h => ⟨by rw [h.1]; simp [SameB, exb], h.2.out⟩)
              have HX := Lib.hid exb
              have HQ := Lib.hid q5
              have HE := Lib.hid ebs
              clear exb q5 ebs
              go_wp2_with fail
              go_quiet ((go_at_call 15; exact hsame _))
              rename_i nq
              obtain ⟨w9, ew9⟩ : ∃ w9, w9 = wr.drewN nq := ⟨_, rfl⟩
              rw [← ew9]
              have kq : Keeps None wr w9 := by rw [ew9]; exact (Keeps.refl None wr).drewN nq
              clear ew9 hsame
              go_wp2_with fail
              have hdr : L.drop j = y :: L.drop (j + 1) := by
                obtain ⟨hjl, e⟩ := List.getElem?_eq_some_iff.1 hy
                rw [List.drop_eq_getElem_cons hjl, e]
              rw [hdr] at hnet
              have hnet9 : Nt w9 g w.heap.size v m1 m2 ([] ++ y :: L.drop (j + 1)) N' sn mn' := hnet.grew kq
              have hBa9 := hBa.grew kq
              have hnmy : y.1.named aA x.1.ct = true := by simp [Pk.named, q1, ect]
              have hLIj : ∀ z ∈ ([] : Way) ++ y :: L.drop (j + 1), IntV z.1.fr.2 ∧ IntV z.1.to.2 ∧ 0 ≤ mn' z.1.pair := fun z hz => by
                have hz' : z ∈ L.drop j := by rw [hdr]; exact hz
                obtain ⟨h1, h2, h3⟩ := hLI z (List.mem_of_mem_drop hz')
                exact ⟨h1, h2, by rw [h3, hmnj]; omega⟩
              have hbox := mine_blk hnet9 hBa9 (by decide) (by decide)
              have hmlt : ∀ b, Mine g m1 m2 v b → ¬ w9.heap.size ≤ b := fun b hm hle => by
                rcases hm with h | h | h | h
                · have := hnet9.blk.lt; omega
                · have := hnet9.sent.lt; omega
                · have := hnet9.many.lt; omega
                · have := (World.ownsRow.lt hnet9.row b h).2; omega
              obtain ⟨bM', eMM⟩ := (Pks.of_owns hT.row).2.2 _ rfl
              cases eMM
              have p29 : w9.cell? ⟨bM, j * 6 + 2, Option.none⟩ = some (.int .i64 x.1.ct) := by have := kq.cell p2 id; simpa using this
              have hTo9 := told_off hnet9 (hT.grew kq) hvB
              have hbM : ¬ Mine g m1 m2 v bM := hTo9 bM rfl
              have hy1 : y.1.dv.oneCell' = true := hnet9.dv_one (x := y.1) (zs := y.2) (by simp)
              refine start_ (ds := []) (S := (fun w' => Keeps (Mine g m1 m2 v) w9 w')) #[false, false, false, false, false, false, false, false, false, false, false, false, false, false] (by kernel_rfl) rfl rfl ((Keeps.refl _ _).drew) (fun hS0 => ?_)
              refine pure_ (i := 0) (N := some 176) (v := .pointer (some ⟨g, 0, Option.none⟩)) #[true, false, false, false, false, false, false, false, false, false, false, false, false, false] rfl rfl (by kernel_rfl) (fun _ _ _ h => h) (Or.inl ⟨wanted_none rfl, fun w => by rfl⟩) rfl ?_
              try simp only [Act.put, List.setIfInBounds_toArray, List.set_cons_zero, List.set_cons_succ]
              refine take_ (i := 1) (N := some 177) (v := .agg #[.bool false, .int .i64 1]) #[true, true, false, false, false, false, false, false, false, false, false, false, false, false] rfl rfl (by kernel_rfl) (fun _ _ _ h => h) (Or.inl ⟨wanted_none rfl, by intro w' hSw; have q0 := (hBa9.keeps hSw hbox).cell 0 _ rfl; have q1 := (hBa9.keeps hSw hbox).cell 1 _ rfl; go_simp⟩) hS0 rfl ?_
              try simp only [Act.put, List.setIfInBounds_toArray, List.set_cons_zero, List.set_cons_succ]
              refine pure_ (i := 2) (N := some 178) (v := .slice (some ⟨bM, 0, Option.none⟩) M.length cu) #[true, true, true, false, false, false, false, false, false, false, false, false, false, false] rfl rfl (by kernel_rfl) (fun _ _ _ h => h) (Or.inl ⟨wanted_none rfl, fun w => by rfl⟩) rfl ?_
              try simp only [Act.put, List.setIfInBounds_toArray, List.set_cons_zero, List.set_cons_succ]
              refine pure_ (i := 3) (N := some 179) (v := .int .i64 (j : Int)) #[true, true, true, true, false, false, false, false, false, false, false, false, false, false] rfl rfl (by kernel_rfl) (fun _ _ _ h => h) (Or.inl ⟨wanted_none rfl, fun w => by rfl⟩) rfl ?_
              try simp only [Act.put, List.setIfInBounds_toArray, List.set_cons_zero, List.set_cons_succ]
              refine pure_ (i := 4) (N := some 180) (v := .pointer (some ⟨bM, j * 6, Option.none⟩)) #[true, true, true, true, true, false, false, false, false, false, false, false, false, false] rfl rfl (by kernel_rfl) (fun _ _ _ h => h) (Or.inl ⟨wanted_none rfl, fun w => by go_simp⟩) rfl ?_
              try simp only [Act.put, List.setIfInBounds_toArray, List.set_cons_zero, List.set_cons_succ]
              refine pure_ (i := 5) (N := some 181) (v := .pointer (some ⟨bM, j * 6 + 2, Option.none⟩)) #[true, true, true, true, true, true, false, false, false, false, false, false, false, false] rfl rfl (by kernel_rfl) (fun _ _ _ h => h) (Or.inl ⟨wanted_none rfl, fun w => by go_simp⟩) rfl ?_
              try simp only [Act.put, List.setIfInBounds_toArray, List.set_cons_zero, List.set_cons_succ]
              refine take_ (i := 6) (N := some 182) (v := .int .i64 x.1.ct) #[true, true, true, true, true, true, true, false, false, false, false, false, false, false] rfl rfl (by kernel_rfl) (fun _ _ _ h => h) (Or.inl ⟨wanted_none rfl, by intro w' hSw; have q := hSw.cell p29 hbM; go_simp⟩) hS0 rfl ?_
              try simp only [Act.put, List.setIfInBounds_toArray, List.set_cons_zero, List.set_cons_succ]
              refine two_ (i := 7) (j := 11) (oi := ({ dst := some 183, op := Op.call { callee := Callee.value (Operand.func 14), args := #[Operand.tmp 176, Operand.tmp 177, Operand.tmp 182], argTypes := #[24, 27, 3] }, type := 37, pos := "outright.go:236", after := #[{ on := 0, ground := Ground.data }, { on := 1, ground := Ground.data }, { on := 6, ground := Ground.data }], guard := Option.none } : Oper)) (oj := ({ dst := some 21, op := Op.alloc 33, type := 0, pos := "outright.go:236", after := #[], guard := Option.none } : Oper)) (Ni := some 183) (Nj := some 21) #[true, true, true, true, true, true, true, true, false, false, false, false, false, false] #[true, true, true, true, true, true, true, false, false, false, false, true, false, false] rfl rfl rfl rfl (by kernel_rfl) (by decide) (by decide) ?_ ?_
              · intro KK hKK
                refine goes_ Try.func14 (by kernel_rfl) rfl #[.pointer (some ⟨g, 0, Option.none⟩), adV aA, .int .i64 x.1.ct] (wanted_none rfl) rfl rfl (by simp [Act.eval, adV]) ?_
                refine (deliver_mid aA x.1.ct (hnet9.grew ((Keeps.refl None w9).drew)) (fun _ h => by cases h) hnmy hLIj (by omega)).mono ?_
                rintro e w5 ⟨rfl, v5, hnet5, hk5, hv5⟩
                have hm5 := hS0.andThen hk5 (fun _ _ e => e)
                refine ⟨_, rfl, hKK.out _ _ hm5 (fun hS1 => ?_)⟩
                try simp only [Act.put, List.setIfInBounds_toArray, List.set_cons_zero, List.set_cons_succ]
                refine pure_ (i := 8) (N := some 175) (v := .tuple #[y.1.val, .int .i64 0]) #[true, true, true, true, true, true, true, true, true, false, false, false, false, false] rfl rfl (by kernel_rfl) (fun _ _ _ h => h) (Or.inl ⟨wanted_none rfl, fun w => by rfl⟩) rfl ?_
                try simp only [Act.put, List.setIfInBounds_toArray, List.set_cons_zero, List.set_cons_succ]
                refine pure_ (i := 9) (N := some 184) (v := y.1.val) #[true, true, true, true, true, true, true, true, true, true, false, false, false, false] rfl rfl (by kernel_rfl) (fun _ _ _ h => h) (Or.inl ⟨wanted_none rfl, fun w => by rfl⟩) rfl ?_
                try simp only [Act.put, List.setIfInBounds_toArray, List.set_cons_zero, List.set_cons_succ]
                refine pure_ (i := 10) (N := some 185) (v := .int .i64 0) #[true, true, true, true, true, true, true, true, true, true, true, false, false, false] rfl rfl (by kernel_rfl) (fun _ _ _ h => h) (Or.inl ⟨wanted_none rfl, fun w => by rfl⟩) rfl ?_
                try simp only [Act.put, List.setIfInBounds_toArray, List.set_cons_zero, List.set_cons_succ]
                refine one_ (i := 11) (oi := ({ dst := some 21, op := Op.alloc 33, type := 0, pos := "outright.go:236", after := #[], guard := Option.none } : Oper)) (N := some 21) #[true, true, true, true, true, true, true, true, true, true, true, true, false, false] rfl rfl (by kernel_rfl) (by decide) ?_
                intro KK hKK
                refine value_ (wanted_none rfl) rfl (w1 := (w5.alloc (.cells #[.bool false, .int .i64 0, .int .i64 0, .bool false, .int .i64 0, .slice Option.none 0 0] 33))) (v := .pointer (some ⟨w5.heap.size, 0, Option.none⟩)) (by go_simp) (hKK.out _ _ (hS1.alloc _) (fun hS2 => ?_))
                try simp only [Act.put, List.setIfInBounds_toArray, List.set_cons_zero, List.set_cons_succ]
                have hY0 := Blk.new (w5) 33 [.bool false, .int .i64 0, .int .i64 0, .bool false, .int .i64 0, .slice Option.none 0 0]
                have hY := hY0
                have hb9 : w9.heap.size ≤ w5.heap.size := hk5.size
                refine one_ (i := 12) (oi := ({ dst := Option.none, op := Op.store 33 (Operand.tmp 21) (Operand.tmp 184), type := 0, pos := "outright.go:236", after := #[{ on := 11, ground := Ground.data }, { on := 9, ground := Ground.data }, { on := 7, ground := Ground.chain }, { on := 0, ground := Ground.phase }, { on := 1, ground := Ground.phase }, { on := 2, ground := Ground.phase }, { on := 3, ground := Ground.phase }, { on := 4, ground := Ground.phase }, { on := 5, ground := Ground.phase }, { on := 6, ground := Ground.phase }, { on := 7, ground := Ground.phase }, { on := 8, ground := Ground.phase }, { on := 9, ground := Ground.phase }, { on := 10, ground := Ground.textOnly Departure.lateStores }, { on := 11, ground := Ground.phase }], guard := Option.none } : Oper)) (N := Option.none) #[true, true, true, true, true, true, true, true, true, true, true, true, true, false] rfl rfl (by kernel_rfl) (by decide) ?_
                intro KK hKK
                refine skip_ (wanted_none rfl) rfl (w1 := (w5.alloc (.cells #[.bool false, .int .i64 0, .int .i64 0, .bool false, .int .i64 0, .slice Option.none 0 0] 33)).setRow (w5.heap.size) y.1.cells.toArray) (exec_store_pk (.tmp 21) (.tmp 184) rfl (w5.heap.size) y.1 rfl rfl hy1 _ hY rfl) (hKK.out _ _ (hS2.setRow _ _ (fun e => by have h9 := hb9; omega)) (fun hS3 => ?_))
                try simp only [Act.put, List.setIfInBounds_toArray, List.set_cons_zero, List.set_cons_succ]
                refine pure_ (i := 13) (N := some 22) (v := .int .i64 0) #[true, true, true, true, true, true, true, true, true, true, true, true, true, true] rfl rfl (by kernel_rfl) (fun _ _ _ h => h) (Or.inl ⟨wanted_none rfl, fun w => by rfl⟩) rfl ?_
                try simp only [Act.put, List.setIfInBounds_toArray, List.set_cons_zero, List.set_cons_succ]
                refine done_ (by kernel_rfl) ?_
                have hbz : Keeps (One (w5.heap.size)) w5 ((w5.alloc (.cells #[.bool false, .int .i64 0, .int .i64 0, .bool false, .int .i64 0, .slice Option.none 0 0] 33)).setRow (w5.heap.size) y.1.cells.toArray) := ((Keeps.refl _ _).alloc _).setRow _ _ (fun _ => rfl)
                have hbY : Blk ((w5.alloc (.cells #[.bool false, .int .i64 0, .int .i64 0, .bool false, .int .i64 0, .slice Option.none 0 0] 33)).setRow (w5.heap.size) y.1.cells.toArray) (w5.heap.size) 33 y.1.cells := hY.setRow _
                generalize (w5.alloc (.cells #[.bool false, .int .i64 0, .int .i64 0, .bool false, .int .i64 0, .slice Option.none 0 0] 33)).setRow (w5.heap.size) y.1.cells.toArray = wz at hbz hbY ⊢
                obtain ⟨bx, ebx⟩ : ∃ bx, bx = w5.heap.size := ⟨_, rfl⟩
                rw [← ebx] at hbz hbY hb9 ⊢
                clear ebx hY hY0
                have hdj : ∀ z ∈ L.drop (j + 1), ∀ b, z.1.dv.ownBlock = some b → b < w9.heap.size := fun z hz b hb => ((hnet9.bytes z (List.mem_cons_of_mem _ hz)).lt b hb).2
                have hnetz : Nt wz g w.heap.size v5 m1 m2 (L.drop (j + 1)) (N' + 1) sn (upd mn' y.1.pair (mn' y.1.pair - 1)) := hnet5.keeps hbz (fun b hm e => by
                  rw [show b = bx from e] at hm
                  rcases hm with h | h | h | h
                  · exact hmlt _ (.inl h) hb9
                  · exact hmlt _ (.inr (.inl h)) hb9
                  · exact hmlt _ (.inr (.inr (.inl h))) hb9
                  · exact hmlt _ (.inr (.inr (.inr (hv5 ▸ h)))) hb9) (fun z hz b hb e => by
                  rw [show b = bx from e] at hb
                  have := hdj z hz _ hb
                  omega)
                have hkz : ∀ {S : Nat → Prop} {a : World}, Keeps S a w5 → a.heap.size ≤ w9.heap.size → Keeps S a wz := fun h1 h2 => h1.andThen hbz (fun i hi e => by simp only [One] at e; omega)
                have hk5w : Keeps None w w5 := (hkeep.trans kq).andThen hm5 (fun b hb e => by have := mine_ge hnet9 b e; omega)
                have hkeepz : Keeps None w wz := hkz hk5w (hkeep.trans kq).size
                have hM9 : Keeps (Mine g m1 m2 v) w9 wz := hkz hm5 (Nat.le_refl _)
                have hTz := (hT.grew kq).keeps hM9 hTo9 (fun z hz b hb e => by
                  have h1 := (((hT.grew kq).bytes z hz).lt b hb).1
                  have h2 := hnet9.byte_off ((hT.grew kq).bytes z hz) hb e
                  exact h2)
                have hwantz := owns_keeps (owns_grew hwant kq) hM9 (mine_off hnet9 (owns_grew hwant kq) (by decide) (by decide))
                have hBaz := hBa9.keeps hM9 hbox
                have hyb9 : Row .u8 5 w9 w.heap.size y.1.dv y.2 := hnet9.bytes y (by simp)
                have hybz := hyb9.keeps hM9 (fun b hb e => hnet9.byte_off hyb9 hb e)
                obtain ⟨Ay, cy, edy⟩ := hybz.slice
                have hcz := hbY.cell 5 _ rfl
                rw [edy] at hcz
                rw [edy] at hybz
                have pwz := hM9.cell (kq.cell pw id) (mine_off hnet9 (owns_grew hwant kq) (by decide) (by decide) gw rfl)
                have hitz := (hR it (List.mem_of_getElem? hit)).grew hkeepz
                have hyl : y.2.length ≤ 140737488351232 := by rw [HQ.out, hitz.len]; exact hitz.most
                have hsame2 : ∀ n, Calls Try.prog 15 #[.slice Ay y.2.length cy, .slice it.A it.len it.cap] (wz.drewN n) fun e w'' => e = .returned (.bool true) ∧ ∃ m, w'' = wz.drewN m := fun n =>
                  Calls.quiet_of ((same_any Ay y.2.length cy y.2 it.A it.len it.cap it.bs (wz.drewN n) ((Nums.row hybz).1.grew ((Keeps.refl None wz).drewN n)) rfl (hitz.nums.grew ((Keeps.refl None wz).drewN n)) hitz.len hyl).mono fun _ _ h => ⟨by rw [h.1]; simp [SameB, HQ.out], h.2.out⟩)
                have hmnz : upd mn' y.1.pair (mn' y.1.pair - 1) (aA, bA) = (M.length : Int) - ((j + 1 : Nat) : Int) := by
                  have hpy := (hLI y (List.mem_of_getElem? hy)).2.2
                  rw [hpy, upd_same, hmnj]
                  omega
                have HMZ := Lib.hid hmnz
                have hvz : ∀ b, v5.ownBlock = some b → b < B1 := fun b hb => hvB b (hv5 ▸ hb)
                clear hmnz p5 p2 p29 pw hT hwant hnet9 hnet5 hnet hmnj
                go_wp2_with fail
                go_quiet ((go_at_call 15; exact hsame2 _))
                go_wp2_with fail
                go_roundw
                case rel => exact ⟨j + 1, v5, N' + 1, _, by omega, by go_num, hnetz.grew ((Keeps.refl None _).drewN _), by omega, HMZ.out, hTz.grew ((Keeps.refl None _).drewN _), owns_grew hwantz ((Keeps.refl None _).drewN _), hBaz.grew ((Keeps.refl None _).drewN _), hkeepz.drewN _, hvz⟩
                case measure => simp [intOf]; omega
              · intro KK hKK
                refine value_ (wanted_none rfl) rfl (w1 := (w9.drew.alloc (.cells #[.bool false, .int .i64 0, .int .i64 0, .bool false, .int .i64 0, .slice Option.none 0 0] 33))) (v := .pointer (some ⟨w9.drew.heap.size, 0, Option.none⟩)) (by go_simp) (hKK.out _ _ (hS0.alloc _) (fun hS4 => ?_))
                try simp only [Act.put, List.setIfInBounds_toArray, List.set_cons_zero, List.set_cons_succ]
                refine one_ (i := 7) (oi := ({ dst := some 183, op := Op.call { callee := Callee.value (Operand.func 14), args := #[Operand.tmp 176, Operand.tmp 177, Operand.tmp 182], argTypes := #[24, 27, 3] }, type := 37, pos := "outright.go:236", after := #[{ on := 0, ground := Ground.data }, { on := 1, ground := Ground.data }, { on := 6, ground := Ground.data }], guard := Option.none } : Oper)) (N := some 183) #[true, true, true, true, true, true, true, true, false, false, false, true, false, false] rfl rfl (by kernel_rfl) (by decide) ?_
                intro KK hKK
                refine goes_ Try.func14 (by kernel_rfl) rfl #[.pointer (some ⟨g, 0, Option.none⟩), adV aA, .int .i64 x.1.ct] (wanted_none rfl) rfl rfl (by simp [Act.eval, adV]) ?_
                refine (deliver_mid aA x.1.ct (hnet9.grew (((Keeps.refl None w9).drew).alloc (.cells #[.bool false, .int .i64 0, .int .i64 0, .bool false, .int .i64 0, .slice Option.none 0 0] 33))) (fun _ h => by cases h) hnmy hLIj (by omega)).mono ?_
                rintro e w5 ⟨rfl, v5, hnet5, hk5, hv5⟩
                have hm5 := hS4.andThen hk5 (fun _ _ e => e)
                refine ⟨_, rfl, hKK.out _ _ hm5 (fun hS5 => ?_)⟩
                try simp only [Act.put, List.setIfInBounds_toArray, List.set_cons_zero, List.set_cons_succ]
                refine pure_ (i := 8) (N := some 175) (v := .tuple #[y.1.val, .int .i64 0]) #[true, true, true, true, true, true, true, true, true, false, false, true, false, false] rfl rfl (by kernel_rfl) (fun _ _ _ h => h) (Or.inl ⟨wanted_none rfl, fun w => by rfl⟩) rfl ?_
                try simp only [Act.put, List.setIfInBounds_toArray, List.set_cons_zero, List.set_cons_succ]
                refine pure_ (i := 9) (N := some 184) (v := y.1.val) #[true, true, true, true, true, true, true, true, true, true, false, true, false, false] rfl rfl (by kernel_rfl) (fun _ _ _ h => h) (Or.inl ⟨wanted_none rfl, fun w => by rfl⟩) rfl ?_
                try simp only [Act.put, List.setIfInBounds_toArray, List.set_cons_zero, List.set_cons_succ]
                refine pure_ (i := 10) (N := some 185) (v := .int .i64 0) #[true, true, true, true, true, true, true, true, true, true, true, true, false, false] rfl rfl (by kernel_rfl) (fun _ _ _ h => h) (Or.inl ⟨wanted_none rfl, fun w => by rfl⟩) rfl ?_
                try simp only [Act.put, List.setIfInBounds_toArray, List.set_cons_zero, List.set_cons_succ]
                have hY0 := Blk.new (w9.drew) 33 [.bool false, .int .i64 0, .int .i64 0, .bool false, .int .i64 0, .slice Option.none 0 0]
                have hb9 : w9.heap.size ≤ w9.drew.heap.size := Nat.le_refl _
                have hY := hY0.keeps hk5 (fun e => hmlt _ e hb9)
                refine one_ (i := 12) (oi := ({ dst := Option.none, op := Op.store 33 (Operand.tmp 21) (Operand.tmp 184), type := 0, pos := "outright.go:236", after := #[{ on := 11, ground := Ground.data }, { on := 9, ground := Ground.data }, { on := 7, ground := Ground.chain }, { on := 0, ground := Ground.phase }, { on := 1, ground := Ground.phase }, { on := 2, ground := Ground.phase }, { on := 3, ground := Ground.phase }, { on := 4, ground := Ground.phase }, { on := 5, ground := Ground.phase }, { on := 6, ground := Ground.phase }, { on := 7, ground := Ground.phase }, { on := 8, ground := Ground.phase }, { on := 9, ground := Ground.phase }, { on := 10, ground := Ground.textOnly Departure.lateStores }, { on := 11, ground := Ground.phase }], guard := Option.none } : Oper)) (N := Option.none) #[true, true, true, true, true, true, true, true, true, true, true, true, true, false] rfl rfl (by kernel_rfl) (by decide) ?_
                intro KK hKK
                refine skip_ (wanted_none rfl) rfl (w1 := w5.setRow (w9.drew.heap.size) y.1.cells.toArray) (exec_store_pk (.tmp 21) (.tmp 184) rfl (w9.drew.heap.size) y.1 rfl rfl hy1 _ hY rfl) (hKK.out _ _ (hS5.setRow _ _ (fun e => by have h9 := hb9; omega)) (fun hS6 => ?_))
                try simp only [Act.put, List.setIfInBounds_toArray, List.set_cons_zero, List.set_cons_succ]
                refine pure_ (i := 13) (N := some 22) (v := .int .i64 0) #[true, true, true, true, true, true, true, true, true, true, true, true, true, true] rfl rfl (by kernel_rfl) (fun _ _ _ h => h) (Or.inl ⟨wanted_none rfl, fun w => by rfl⟩) rfl ?_
                try simp only [Act.put, List.setIfInBounds_toArray, List.set_cons_zero, List.set_cons_succ]
                refine done_ (by kernel_rfl) ?_
                have hbz : Keeps (One (w9.drew.heap.size)) w5 (w5.setRow (w9.drew.heap.size) y.1.cells.toArray) := ((Keeps.refl _ _)).setRow _ _ (fun _ => rfl)
                have hbY : Blk (w5.setRow (w9.drew.heap.size) y.1.cells.toArray) (w9.drew.heap.size) 33 y.1.cells := hY.setRow _
                generalize w5.setRow (w9.drew.heap.size) y.1.cells.toArray = wz at hbz hbY ⊢
                obtain ⟨bx, ebx⟩ : ∃ bx, bx = w9.drew.heap.size := ⟨_, rfl⟩
                rw [← ebx] at hbz hbY hb9 ⊢
                clear ebx hY hY0
                have hdj : ∀ z ∈ L.drop (j + 1), ∀ b, z.1.dv.ownBlock = some b → b < w9.heap.size := fun z hz b hb => ((hnet9.bytes z (List.mem_cons_of_mem _ hz)).lt b hb).2
                have hnetz : Nt wz g w.heap.size v5 m1 m2 (L.drop (j + 1)) (N' + 1) sn (upd mn' y.1.pair (mn' y.1.pair - 1)) := hnet5.keeps hbz (fun b hm e => by
                  rw [show b = bx from e] at hm
                  rcases hm with h | h | h | h
                  · exact hmlt _ (.inl h) hb9
                  · exact hmlt _ (.inr (.inl h)) hb9
                  · exact hmlt _ (.inr (.inr (.inl h))) hb9
                  · exact hmlt _ (.inr (.inr (.inr (hv5 ▸ h)))) hb9) (fun z hz b hb e => by
                  rw [show b = bx from e] at hb
                  have := hdj z hz _ hb
                  omega)
                have hkz : ∀ {S : Nat → Prop} {a : World}, Keeps S a w5 → a.heap.size ≤ w9.heap.size → Keeps S a wz := fun h1 h2 => h1.andThen hbz (fun i hi e => by simp only [One] at e; omega)
                have hk5w : Keeps None w w5 := (hkeep.trans kq).andThen hm5 (fun b hb e => by have := mine_ge hnet9 b e; omega)
                have hkeepz : Keeps None w wz := hkz hk5w (hkeep.trans kq).size
                have hM9 : Keeps (Mine g m1 m2 v) w9 wz := hkz hm5 (Nat.le_refl _)
                have hTz := (hT.grew kq).keeps hM9 hTo9 (fun z hz b hb e => by
                  have h1 := (((hT.grew kq).bytes z hz).lt b hb).1
                  have h2 := hnet9.byte_off ((hT.grew kq).bytes z hz) hb e
                  exact h2)
                have hwantz := owns_keeps (owns_grew hwant kq) hM9 (mine_off hnet9 (owns_grew hwant kq) (by decide) (by decide))
                have hBaz := hBa9.keeps hM9 hbox
                have hyb9 : Row .u8 5 w9 w.heap.size y.1.dv y.2 := hnet9.bytes y (by simp)
                have hybz := hyb9.keeps hM9 (fun b hb e => hnet9.byte_off hyb9 hb e)
                obtain ⟨Ay, cy, edy⟩ := hybz.slice
                have hcz := hbY.cell 5 _ rfl
                rw [edy] at hcz
                rw [edy] at hybz
                have pwz := hM9.cell (kq.cell pw id) (mine_off hnet9 (owns_grew hwant kq) (by decide) (by decide) gw rfl)
                have hitz := (hR it (List.mem_of_getElem? hit)).grew hkeepz
                have hyl : y.2.length ≤ 140737488351232 := by rw [HQ.out, hitz.len]; exact hitz.most
                have hsame2 : ∀ n, Calls Try.prog 15 #[.slice Ay y.2.length cy, .slice it.A it.len it.cap] (wz.drewN n) fun e w'' => e = .returned (.bool true) ∧ ∃ m, w'' = wz.drewN m := fun n =>
                  Calls.quiet_of ((same_any Ay y.2.length cy y.2 it.A it.len it.cap it.bs (wz.drewN n) ((Nums.row hybz).1.grew ((Keeps.refl None wz).drewN n)) rfl (hitz.nums.grew ((Keeps.refl None wz).drewN n)) hitz.len hyl).mono fun _ _ h => ⟨by rw [h.1]; simp [SameB, HQ.out], h.2.out⟩)
                have hmnz : upd mn' y.1.pair (mn' y.1.pair - 1) (aA, bA) = (M.length : Int) - ((j + 1 : Nat) : Int) := by
                  have hpy := (hLI y (List.mem_of_getElem? hy)).2.2
                  rw [hpy, upd_same, hmnj]
                  omega
                have HMZ := Lib.hid hmnz
                have hvz : ∀ b, v5.ownBlock = some b → b < B1 := fun b hb => hvB b (hv5 ▸ hb)
                clear hmnz p5 p2 p29 pw hT hwant hnet9 hnet5 hnet hmnj
                go_wp2_with fail
                go_quiet ((go_at_call 15; exact hsame2 _))
                go_wp2_with fail
                go_roundw
                case rel => exact ⟨j + 1, v5, N' + 1, _, by omega, by go_num, hnetz.grew ((Keeps.refl None _).drewN _), by omega, HMZ.out, hTz.grew ((Keeps.refl None _).drewN _), owns_grew hwantz ((Keeps.refl None _).drewN _), hBaz.grew ((Keeps.refl None _).drewN _), hkeepz.drewN _, hvz⟩
                case measure => simp [intOf]; omega
            · obtain rfl : j = M.length := by omega
              have hd0 : L.drop M.length = [] := List.drop_eq_nil_of_le (by have := hMI.out; omega)
              rw [hd0] at hnet
              go_wp2_with fail
              refine (many_any g w.heap.size v m1 m2 [] N' sn mn' wr hnet (by omega) (fun y hy => (by cases hy))).mono ?_
              rintro e wy ⟨rfl, hky⟩
              go_wp2_with fail
              refine (head_any wy).mono ?_
              rintro e wz ⟨rfl, hkz⟩
              go_wp2_with fail
              go_ret
              exact ⟨rfl, (hkeep.trans hky).trans hkz⟩
end Go.Proofs.Ytcplogdaepmpnaa
