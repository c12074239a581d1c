/- cairnlaw16.round; World.step: one step of both. -/
import Derived.Test.YtcplogdaepmpnaaBothSend
import Derived.Test.YtcplogdaepmpnaaBothUnder
import Derived.Deep.DeepCutAuto
import Derived.Deep.CutBlock
namespace Go.Proofs.Ytcplogdaepmpnaa
open Go.RowKit Go.Maps Go.ChangeMaps Go.WideElems Go.Proofs.YtcplogdaepmpnaaW.PrintLast

set_option maxRecDepth 100000 in
theorem round_any (a : Int) (m : Nat) (w : World) (ha : IntV a) (hm : 0 < m) (hm2 : m ≤ 1099511627776) :
    Calls Try.prog 40 #[.int .i64 a, .int .i64 (m : Int)] w fun e w' => e = .returned (.int .i64 (a % (m : Int))) ∧ w = w' := by
  have ha' := (intV_iff a).1 ha
  have h0 : ¬ (m : Int) = 0 := by omega
  obtain ⟨t1, t2⟩ := test_ne h0
  have hb1 : (m : Int) > 0 := by omega
  have hE := Int.emod_nonneg a h0
  have hL := Int.emod_lt_of_pos a hb1
  have h1 : a.tmod m = a % (m : Int) ∨ a.tmod m + m = a % (m : Int) := by
    have h1 := Int.tmod_eq_emod (a := a) (b := (m : Int))
    split at h1 <;> omega
  have H1 := Lib.hid h1
  have HE := Lib.hid hE
  have HL := Lib.hid hL
  clear h1 hE hL
  go_enter Try.func40, Try.ntmps40
  go_wp2_with fail
  · rename_i hn
    go_ret
    refine ⟨ret_int ?_, rfl⟩
    have h1 := H1.out
    have hE := HE.out
    have hL := HL.out
    have h2 : a.tmod m + m = a % (m : Int) := by omega
    rw [h2]
    unfold wrap64
    omega
  · rename_i hn
    go_ret
    refine ⟨ret_int ?_, rfl⟩
    have h1 := H1.out
    have hE := HE.out
    have hL := HL.out
    omega

theorem region_wide {n : Nat} {P : Program} {C : World → Prop} {id : Nat} {Q : Exit → Act → World → Prop} {a : Act} {w : World} {os : List Oper} (hm : P.follows .mixedOrders = true) (hB : Region.lexB .any os.toArray = true) (hC : C w.drew)
    (h : wpQuietIn Fence.wide n P os.toArray C (fun a' => ∀ w', C w' → Q .normal a' w') os a) : (Code.region id os.toArray true).wp P Q a w :=
  wpIn_wide.1 (wpIn_region_quiet (F := Fence.wide) (n := n) rfl hm hB hC (by simpa using h))
theorem Goes.mono_n {w0 w w' : World} {n m g m1 m2 r : Nat} {d : Bd} {e : Ending} (h : BothEnd w0 n g m1 m2 r d w e w') (hm : n ≤ m) : BothEnd w0 m g m1 m2 r d w e w' := by
  obtain ⟨h1, d', h2, h3⟩ := h
  exact ⟨h1, d', h2.mono hm, h3⟩

set_option maxRecDepth 100000 in
set_option maxHeartbeats 8000000 in
theorem bstep_any {w0 : World} {n g m1 m2 r : Nat} {d : Bd} (x : Stp) (w : World) (hB : Bo w0 n g m1 m2 r d w) (hx : x.Raw w0) (hn : n ≤ 10000000000) :
    Calls Try.prog 20 #[wV g r, x.val] w (BothEnd w0 (n + 140) g m1 m2 r d w) := by
  have hx0 := hx
  obtain ⟨kind, ⟨f1, f2⟩, ⟨t1, t2⟩, ct, A, len, cap, bs⟩ := x
  obtain ⟨hnum, hlen, hbytes, hnil, hkind, hfr, hto, hct, hmost⟩ := hx
  simp only at hnum hlen hbytes hnil hkind hfr hto hct hmost
  subst hlen
  have kW := (Keeps.refl None w).alloc (.cells #[.pointer (some ⟨g, 0, Option.none⟩), .pointer (some ⟨r, 0, Option.none⟩)] 50)
  have hbW := (Blk.new w 50 [.pointer (some ⟨g, 0, Option.none⟩), .pointer (some ⟨r, 0, Option.none⟩)]).alloc (.cells #[.int .i64 kind, .bool f1, .int .i64 f2, .bool t1, .int .i64 t2, .int .i64 ct, .slice A bs.length cap] 53)
  have k0 := kW.alloc (.cells #[.int .i64 kind, .bool f1, .int .i64 f2, .bool t1, .int .i64 t2, .int .i64 ct, .slice A bs.length cap] 53)
  have hbS : Blk ((w.alloc (.cells #[.pointer (some ⟨g, 0, Option.none⟩), .pointer (some ⟨r, 0, Option.none⟩)] 50)).alloc (.cells #[.int .i64 kind, .bool f1, .int .i64 f2, .bool t1, .int .i64 t2, .int .i64 ct, .slice A bs.length cap] 53)) (w.heap.size + 1) 53 [.int .i64 kind, .bool f1, .int .i64 f2, .bool t1, .int .i64 t2, .int .i64 ct, .slice A bs.length cap] := by
    have := Blk.new (w.alloc (.cells #[.pointer (some ⟨g, 0, Option.none⟩), .pointer (some ⟨r, 0, Option.none⟩)] 50)) 53 [.int .i64 kind, .bool f1, .int .i64 f2, .bool t1, .int .i64 t2, .int .i64 ct, .slice A bs.length cap]
    simpa using this
  have hBA := hB.grew k0
  have hlt := hB.lt
  have cW0 := hbW.cell 0 _ rfl
  have cW1 := hbW.cell 1 _ rfl
  have c0 := hbS.cell 0 _ rfl
  have c1 := hbS.cell 1 _ rfl
  have c2 := hbS.cell 2 _ rfl
  have c3 := hbS.cell 3 _ rfl
  have c4 := hbS.cell 4 _ rfl
  have c5 := hbS.cell 5 _ rfl
  have c6 := hbS.cell 6 _ rfl
  have hsc : ∀ i v, (Stp.mk kind (f1, f2) (t1, t2) ct A bs.length cap bs).cells[i]? = some v → ((w.alloc (.cells #[.pointer (some ⟨g, 0, Option.none⟩), .pointer (some ⟨r, 0, Option.none⟩)] 50)).alloc (.cells #[.int .i64 kind, .bool f1, .int .i64 f2, .bool t1, .int .i64 t2, .int .i64 ct, .slice A bs.length cap] 53)).cell? ⟨w.heap.size + 1, 0 + i, Option.none⟩ = some v := fun i v hv => by rw [Nat.zero_add]; exact hbS.cell i v hv
  have hll := hB.lens
  have hnm := hB.net.most
  have hLR : d.LR.length ≤ 1099511627776 := by omega
  simp only [Stp.val, wV]
  go_enter Try.func20, Try.ntmps20
  go_upto_region 1 with (fail)
  obtain ⟨wA, eA⟩ : ∃ wA, wA = ((w.alloc (.cells #[.pointer (some ⟨g, 0, Option.none⟩), .pointer (some ⟨r, 0, Option.none⟩)] 50)).alloc (.cells #[.int .i64 kind, .bool f1, .int .i64 f2, .bool t1, .int .i64 t2, .int .i64 ct, .slice A bs.length cap] 53)) := ⟨_, rfl⟩
  rw [← eA] at k0 hbW hbS hBA cW0 cW1 c0 c1 c2 c3 c4 c5 c6 hsc ⊢
  clear eA kW
  have hsA := k0.size
  have hWl := hbW.lt
  have hSl := hbS.lt
  have hrowR := hBA.ref.row
  have cr0 := hBA.ref.blk.cell 0 _ rfl
  obtain ⟨Ar, cr, erv⟩ := owns_slice hrowR
  rw [erv] at cr0 hrowR
  have HRV := Lib.hid erv
  clear erv
  go_wp2_with (first
    | (with_reducible refine wpList_load_stp rfl (.tmp 3) rfl (w.heap.size + 1) 0 ⟨kind, (f1, f2), (t1, t2), ct, A, bs.length, cap, bs⟩ rfl hsc ?_; simp only [Stp.val]))
  · refine (bsend_any ⟨kind, (f1, f2), (t1, t2), ct, A, bs.length, cap, bs⟩ wA hBA hx0 (by omega)).mono ?_
    rintro e wb ⟨rfl, d', hB', hG⟩
    go_wp2_with fail
    go_ret
    exact ⟨rfl, d', hB'.mono (by omega), (Goes.none k0).trans hG⟩
  · refine (bdeliver_any (f1, f2) ct wA hBA (by omega)).mono ?_
    rintro e wb ⟨rfl, d', hB', hG⟩
    go_wp2_with fail
    go_ret
    exact ⟨rfl, d', hB'.mono (by omega), (Goes.none k0).trans hG⟩
  · refine (lose_any g w0.heap.size d.v m1 m2 d.L n d.sn d.mn (f1, f2) ct wA hBA.net (fun x hx => ⟨(hB.ok x hx).1, (hB.ok x hx).2.1, by rw [hB.inv.many]; omega⟩) (by omega)).mono ?_
    rintro e wb (⟨hp, rfl, hkb⟩ | ⟨i, x, zs, v', hp, hx, rfl, hN1, hkb, hv1⟩)
    · have HP := Lib.hid (show placeP (d.LR.map (·.1)) (f1, f2) ct = -1 by rw [← place_core hB.same]; exact hp)
      clear hp
      have hbWb := hbW.grew hkb
      have hbSb := hbS.grew hkb
      have e1 := hbWb.cell 1 _ rfl
      have e2 := hbSb.cell 1 _ rfl
      have e3 := hbSb.cell 2 _ rfl
      have e4 := hbSb.cell 5 _ rfl
      go_wp2_with fail
      refine (rdeliver_any (f1, f2) ct wb (hBA.ref.grew hkb) (by omega)).mono ?_
      rintro e wc (⟨_, rfl, hkc⟩ | ⟨i, x, zs, v', hp, _⟩)
      · have hY := Blk.new wc 33 [.bool false, .int .i64 0, .int .i64 0, .bool false, .int .i64 0, .slice Option.none 0 0]
        have kY := (Keeps.refl None wc).alloc (.cells #[.bool false, .int .i64 0, .int .i64 0, .bool false, .int .i64 0, .slice Option.none 0 0] 33)
        obtain ⟨p1, p2⟩ := test_eq (rfl : (150 : Int) = 150)
        go_wp2_with (first
          | (with_reducible refine wpList_store_pk rfl (.tmp 6) (.tmp 43) rfl wc.heap.size zeroP rfl rfl rfl _ hY rfl ?_; intro wd hBd hkd))
        go_ret
        have kcd : Keeps None wc wd := kY.andThen hkd (fun j hj e => by simp only [One] at e; omega)
        have kall : Keeps None w wd := ((k0.trans hkb).trans hkc).trans kcd
        exact ⟨rfl, d, (hB.mono (by omega)).grew kall, Goes.none kall⟩
      · rw [HP.out] at hp; omega
    · obtain ⟨⟨y, ys⟩, hy⟩ : ∃ y, d.LR[i]? = some y := ⟨_, List.getElem?_eq_getElem (by rw [← hB.lens]; exact (List.getElem?_eq_some_iff.1 hx).1)⟩
      have HP := Lib.hid (show placeP (d.LR.map (·.1)) (f1, f2) ct = (i : Int) by rw [← place_core hB.same]; exact hp)
      have HX := Lib.hid hx
      have HY := Lib.hid hy
      have HV := Lib.hid hv1
      clear hp hx hy hv1
      obtain ⟨Ay, cy, hyd, hyn⟩ := hB.data (y, ys) (List.mem_of_getElem? HY.out)
      have hd2 : y.dv.oneCell' = true := by rw [show y.dv = _ from hyd]; rfl
      have hbWb := hbW.keeps hkb (fun e => by have := (hlt _ (.inl e)).2; omega)
      have hbSb := hbS.keeps hkb (fun e => by have := (hlt _ (.inl e)).2; omega)
      have hRb := hBA.ref.keeps hkb hBA.beside
      have e1 := hbWb.cell 1 _ rfl
      have e2 := hbSb.cell 1 _ rfl
      have e3 := hbSb.cell 2 _ rfl
      have e4 := hbSb.cell 5 _ rfl
      go_wp2_with fail
      refine (rdeliver_any (f1, f2) ct wb hRb (by omega)).mono ?_
      rintro e wc (⟨hp', _⟩ | ⟨j, y', zs', rv', hp', hy', rfl, hR3, hnl, hkc⟩)
      · rw [HP.out] at hp'; omega
      · obtain rfl : i = j := by rw [HP.out] at hp'; omega
        rw [HY.out] at hy'
        cases hy'
        have hY := Blk.new wc 33 [.bool false, .int .i64 0, .int .i64 0, .bool false, .int .i64 0, .slice Option.none 0 0]
        have kY := (Keeps.refl None wc).alloc (.cells #[.bool false, .int .i64 0, .int .i64 0, .bool false, .int .i64 0, .slice Option.none 0 0] 33)
        obtain ⟨p1, p2⟩ := test_eq (rfl : (0 : Int) = 0)
        go_wp2_with (first
          | (with_reducible refine wpList_store_pk rfl (.tmp 6) (.tmp 43) rfl wc.heap.size y rfl rfl hd2 _ hY rfl ?_; intro wd hBd hkd))
        go_ret
        have kcd : Keeps None wc wd := kY.andThen hkd (fun j hj e => by simp only [One] at e; omega)
        obtain ⟨hB5, hG⟩ := hBA.both hkb hN1 (fun b hb => .inl (HV.out ▸ hb)) hkc hR3 hnl (NewL.refl _ _) (core_erase hB.same i) hB.sent (Nat.le_succ_of_le hB.len) (hB.inv.off HX.out) (fun q hq => hB.ok q (List.mem_of_mem_eraseIdx hq)) (fun q hq => hB.data q (List.mem_of_mem_eraseIdx hq))
        exact ⟨rfl, _, (hB5.mono (by omega)).grew kcd, ((Goes.none k0).trans hG).trans (Goes.none kcd)⟩
  · refine (double_any g w0.heap.size d.v m1 m2 d.L n d.sn d.mn (f1, f2) ct wA hBA.net hB.ok (by omega)).mono ?_
    have fin : ∀ wb, Keeps (Mine g m1 m2 d.v) wA wb → Blk wb w.heap.size 50 [.pointer (some ⟨g, 0, Option.none⟩), .pointer (some ⟨r, 0, Option.none⟩)] ∧ Blk wb (w.heap.size + 1) 53 [.int .i64 kind, .bool f1, .int .i64 f2, .bool t1, .int .i64 t2, .int .i64 ct, .slice A bs.length cap] ∧ Rn wb r w0.heap.size d.rv d.ru d.LR d.S := fun wb hkb =>
      ⟨hbW.keeps hkb (fun e => by have := (hlt _ (.inl e)).2; omega), hbS.keeps hkb (fun e => by have := (hlt _ (.inl e)).2; omega), hBA.ref.keeps hkb hBA.beside⟩
    rintro e wb (⟨hp, rfl, hkb⟩ | ⟨i, x, zs, hp, hx, rfl, hq⟩)
    · have HP := Lib.hid (show placeP (d.LR.map (·.1)) (f1, f2) ct = -1 by rw [← place_core hB.same]; exact hp)
      clear hp
      obtain ⟨hbWb, hbSb, hRb⟩ := fin wb hkb.of_none
      clear fin
      have e1 := hbWb.cell 1 _ rfl
      have e2 := hbSb.cell 1 _ rfl
      have e3 := hbSb.cell 2 _ rfl
      have e4 := hbSb.cell 5 _ rfl
      go_wp2_with fail
      refine (rdouble_any (f1, f2) ct wb hRb (by omega)).mono ?_
      rintro e wc (⟨_, rfl, hkc⟩ | ⟨i, x, zs, hp, _⟩)
      · obtain ⟨p1, p2⟩ := test_eq (rfl : (150 : Int) = 150)
        go_wp2_with fail
        go_ret
        have kall : Keeps None w wc := (k0.trans hkb).trans hkc
        exact ⟨rfl, d, (hB.mono (by omega)).grew kall, Goes.none kall⟩
      · rw [HP.out] at hp; omega
    · obtain ⟨⟨y, ys⟩, hy⟩ : ∃ y, d.LR[i]? = some y := ⟨_, List.getElem?_eq_getElem (by rw [← hB.lens]; exact (List.getElem?_eq_some_iff.1 hx).1)⟩
      have hcore := core_at hB.same hx hy
      have hpp : d.mn x.pair = (pairsF d.LR y.pair : Int) := by
        rw [hB.pairs]
        have h1 := core_fr hcore
        have h2 : x.pair = y.pair := by rw [Pk.pair, Pk.pair, h1.1, h1.2.2.1]
        rw [h2]
      have HP := Lib.hid (show placeP (d.LR.map (·.1)) (f1, f2) ct = (i : Int) by rw [← place_core hB.same]; exact hp)
      have HX := Lib.hid hx
      have HY := Lib.hid hy
      have HC := Lib.hid hcore
      have HPP := Lib.hid hpp
      clear hp hx hy hcore hpp
      have hkb : Keeps (Mine g m1 m2 d.v) wA wb := by
        rcases hq with ⟨_, hk⟩ | ⟨_, v', dd, _, hk, _⟩
        · exact hk.of_none
        · exact hk
      obtain ⟨hbWb, hbSb, hRb⟩ := fin wb hkb
      clear fin
      have e1 := hbWb.cell 1 _ rfl
      have e2 := hbSb.cell 1 _ rfl
      have e3 := hbSb.cell 2 _ rfl
      have e4 := hbSb.cell 5 _ rfl
      go_wp2_with fail
      refine (rdouble_any (f1, f2) ct wb hRb (by omega)).mono ?_
      rintro e wc (⟨hp', _⟩ | ⟨j, y', ys', hp', hy', rfl, hq'⟩)
      · rw [HP.out] at hp'; omega
      · obtain rfl : i = j := by rw [HP.out] at hp'; omega
        rw [HY.out] at hy'
        cases hy'
        obtain ⟨p1, p2⟩ := test_eq (rfl : (0 : Int) = 0)
        go_wp2_with fail
        go_ret
        rcases hq with ⟨hf, hk⟩ | ⟨hr, v', dd, hN1, hk, hloc, hdn⟩
        · rcases hq' with ⟨_, hk'⟩ | ⟨hr', _⟩
          · have kall : Keeps None w wc := (k0.trans hk).trans hk'
            exact ⟨rfl, d, (hB.mono (by omega)).grew kall, Goes.none kall⟩
          · rw [HPP.out] at hf; omega
        · rcases hq' with ⟨hf', _⟩ | ⟨hr', rv', hR3, hnl, hk'⟩
          · rw [HPP.out] at hr; omega
          · have hcr := core_fr HC.out
            obtain ⟨hB5, hG⟩ := hBA.both hk hN1 (NewL.of_loc hloc) hk' hR3 (fun b hb => (hnl b hb).imp id id) (NewL.refl _ _) (by
              rw [List.map_append, List.map_append, hB.same]
              have h1 := HC.out
              simp only [core, Prod.mk.injEq] at h1
              simp [core, h1]) hB.sent (Nat.le_succ_of_le hB.len) (hB.inv.double (List.mem_of_getElem? HX.out) dd hr) (fun q hq => by
              rcases List.mem_append.1 hq with h | h
              · exact hB.ok q h
              · obtain rfl := List.mem_singleton.1 h
                exact (hB.ok (x, zs) (List.mem_of_getElem? HX.out) :)) (fun q hq => by
              rcases List.mem_append.1 hq with h | h
              · exact hB.data q h
              · obtain rfl := List.mem_singleton.1 h
                exact hB.data _ (List.mem_of_getElem? HY.out))
            exact ⟨rfl, _, hB5.mono (by omega), (Goes.none k0).trans hG⟩
  · refine (bunder_any wA hBA (by omega)).mono ?_
    rintro e wb ⟨rfl, hkb⟩
    go_wp2_with fail
    go_ret
    exact ⟨rfl, d, (hBA.mono (by omega)).grew hkb, (Goes.none k0).trans (Goes.none hkb)⟩
  · refine region_wide (n := 6) (C := fun w' => Keeps None wA w') (by kernel_rfl) (by kernel_rfl) ((Keeps.refl None wA).drew) ?_
    obtain ⟨p1, p2⟩ := test_eq (rfl : d.mn ((f1, f2), (t1, t2)) = d.mn ((f1, f2), (t1, t2)))
    refine q_take (N := some 72) (.pointer (some ⟨w.heap.size, 0, Option.none⟩)) (wanted_none rfl) rfl (fun w' _ => by go_simp) rfl ?_
    try simp only [Act.put, List.setIfInBounds_toArray, List.set_cons_zero, List.set_cons_succ]
    refine q_take (N := some 73) (.pointer (some ⟨g, 0, Option.none⟩)) (wanted_none rfl) rfl (by intro w' hSw; have q := hSw.cell cW0 id; go_simp) rfl ?_
    try simp only [Act.put, List.setIfInBounds_toArray, List.set_cons_zero, List.set_cons_succ]
    refine q_take (N := some 74) (.pointer (some ⟨w.heap.size + 1, 1, Option.none⟩)) (wanted_none rfl) rfl (fun w' _ => by go_simp) rfl ?_
    try simp only [Act.put, List.setIfInBounds_toArray, List.set_cons_zero, List.set_cons_succ]
    refine q_take (N := some 75) (.agg #[.bool f1, .int .i64 f2]) (wanted_none rfl) rfl (by intro w' hSw; exact exec_load_ad (.tmp 74) rfl (w.heap.size + 1) 1 (f1, f2) rfl (hSw.cell c1 id) (hSw.cell c2 id)) rfl ?_
    try simp only [Act.put, List.setIfInBounds_toArray, List.set_cons_zero, List.set_cons_succ]
    refine q_take (N := some 76) (.pointer (some ⟨w.heap.size + 1, 3, Option.none⟩)) (wanted_none rfl) rfl (fun w' _ => by go_simp) rfl ?_
    try simp only [Act.put, List.setIfInBounds_toArray, List.set_cons_zero, List.set_cons_succ]
    refine q_take (N := some 77) (.agg #[.bool t1, .int .i64 t2]) (wanted_none rfl) rfl (by intro w' hSw; exact exec_load_ad (.tmp 76) rfl (w.heap.size + 1) 3 (t1, t2) rfl (hSw.cell c3 id) (hSw.cell c4 id)) rfl ?_
    try simp only [Act.put, List.setIfInBounds_toArray, List.set_cons_zero, List.set_cons_succ]
    refine q_call (N := some 78) (.int .i64 (d.mn ((f1, f2), (t1, t2)))) 22 #[.pointer (some ⟨g, 0, Option.none⟩), adV (f1, f2), adV (t1, t2)] (wanted_none rfl) rfl (fun w' _ => ?_) (fun w' hSw => ?_) rfl ?_
    · have he := enters_of Try.func22 (by kernel_rfl) rfl #[.pointer (some ⟨g, 0, Option.none⟩), adV (f1, f2), adV (t1, t2)] w'; unfold execOp; simp only [adV] at he; simp [resolve, Deferred.ofValue, invoke, Act.eval, he, adV]
    · exact (npair_any (f1, f2) (t1, t2) w' (hBA.net.grew hSw) hfr hto).mono fun e w'' h => ⟨h.1, hSw.trans h.2⟩
    try simp only [Act.put, List.setIfInBounds_toArray, List.set_cons_zero, List.set_cons_succ]
    refine q_take (N := some 79) (.pointer (some ⟨w.heap.size, 1, Option.none⟩)) (wanted_none rfl) rfl (fun w' _ => by go_simp) rfl ?_
    try simp only [Act.put, List.setIfInBounds_toArray, List.set_cons_zero, List.set_cons_succ]
    refine q_take (N := some 80) (.pointer (some ⟨r, 0, Option.none⟩)) (wanted_none rfl) rfl (by intro w' hSw; have q := hSw.cell cW1 id; go_simp) rfl ?_
    try simp only [Act.put, List.setIfInBounds_toArray, List.set_cons_zero, List.set_cons_succ]
    refine q_take (N := some 81) (.pointer (some ⟨w.heap.size + 1, 1, Option.none⟩)) (wanted_none rfl) rfl (fun w' _ => by go_simp) rfl ?_
    try simp only [Act.put, List.setIfInBounds_toArray, List.set_cons_zero, List.set_cons_succ]
    refine q_take (N := some 82) (.agg #[.bool f1, .int .i64 f2]) (wanted_none rfl) rfl (by intro w' hSw; exact exec_load_ad (.tmp 81) rfl (w.heap.size + 1) 1 (f1, f2) rfl (hSw.cell c1 id) (hSw.cell c2 id)) rfl ?_
    try simp only [Act.put, List.setIfInBounds_toArray, List.set_cons_zero, List.set_cons_succ]
    refine q_take (N := some 83) (.pointer (some ⟨w.heap.size + 1, 3, Option.none⟩)) (wanted_none rfl) rfl (fun w' _ => by go_simp) rfl ?_
    try simp only [Act.put, List.setIfInBounds_toArray, List.set_cons_zero, List.set_cons_succ]
    refine q_take (N := some 84) (.agg #[.bool t1, .int .i64 t2]) (wanted_none rfl) rfl (by intro w' hSw; exact exec_load_ad (.tmp 83) rfl (w.heap.size + 1) 3 (t1, t2) rfl (hSw.cell c3 id) (hSw.cell c4 id)) rfl ?_
    try simp only [Act.put, List.setIfInBounds_toArray, List.set_cons_zero, List.set_cons_succ]
    refine q_call (N := some 85) (.int .i64 (d.mn ((f1, f2), (t1, t2)))) 39 #[.pointer (some ⟨r, 0, Option.none⟩), adV (f1, f2), adV (t1, t2)] (wanted_none rfl) rfl (fun w' _ => ?_) (fun w' hSw => ?_) rfl ?_
    · have he := enters_of Try.func39 (by kernel_rfl) rfl #[.pointer (some ⟨r, 0, Option.none⟩), adV (f1, f2), adV (t1, t2)] w'; unfold execOp; simp only [adV] at he; simp [resolve, Deferred.ofValue, invoke, Act.eval, he, adV]
    · exact (rpair_any (f1, f2) (t1, t2) w' (hBA.ref.grew hSw) hLR).mono fun e w'' h => ⟨by rw [h.1, hB.pairs], hSw.trans h.2⟩
    try simp only [Act.put, List.setIfInBounds_toArray, List.set_cons_zero, List.set_cons_succ]
    refine q_take (N := some 86) (.bool true) (wanted_none rfl) rfl (fun w' _ => by go_simp) rfl ?_
    try simp only [Act.put, List.setIfInBounds_toArray, List.set_cons_zero, List.set_cons_succ]
    refine q_take (N := some 4) (.bool true) (wanted_none rfl) rfl (fun w' _ => by rfl) rfl ?_
    try simp only [Act.put, List.setIfInBounds_toArray, List.set_cons_zero, List.set_cons_succ]
    refine wpQuietIn_nil ?_
    intro wb hkb
    go_wp2_with fail
    go_ret
    exact ⟨rfl, d, (hBA.mono (by omega)).grew hkb, (Goes.none k0).trans (Goes.none hkb)⟩
  · refine (nclear_any wA hBA.net).mono ?_
    rintro e wb ⟨rfl, hNb, hkb⟩
    have hbWb := hbW.keeps hkb (fun e => by have := (hlt _ (.inl e)).2; omega)
    have hRb := hBA.ref.keeps hkb hBA.beside
    have e1 := hbWb.cell 1 _ rfl
    have e2 := hRb.blk.cell 0 _ rfl
    have e3 := hRb.blk.free 0
    go_wp2_with fail
    go_ret
    have ks : Keeps (One r) wb (wb.setCell ⟨r, 0, Option.none⟩ (.slice Option.none 0 0)) := (Keeps.refl _ _).setCell _ _ (fun _ => rfl)
    have hB6 := hRb.blk.set 0 (.slice Option.none 0 0)
    simp only [List.set] at hB6
    have hR3 : Rn (wb.setCell ⟨r, 0, Option.none⟩ (.slice Option.none 0 0)) r w0.heap.size (.slice Option.none 0 0) d.ru [] d.S :=
      ⟨hB6, World.ownsRow_nil _ _ _ _, owns_keeps hRb.sent ks (fun b hb e => by
        obtain ⟨cur, hc⟩ := owns_obj hRb.sent hb
        rw [show b = r from e, hRb.blk.raw] at hc
        cases hc), hRb.hr, fun y hy => by cases hy⟩
    obtain ⟨hB5, hG⟩ := hBA.both hkb hNb (fun b hb => by cases hb) (ks.mono (fun _ _ e => .inl e)) hR3 (fun b hb => by cases hb) (NewL.refl _ _) rfl hB.sent hB.len hB.inv.clear (fun q hq => by cases hq) (fun q hq => by cases hq)
    exact ⟨rfl, _, hB5.mono (by omega), (Goes.none k0).trans hG⟩
  · obtain ⟨q, hq⟩ : ∃ q : Nat, ct % ((70 : Nat) : Int) = (q : Int) := ⟨(ct % 70).toNat, by omega⟩
    have hq70 : q < 70 := by omega
    have HQ := Lib.hid hq
    clear hq
    rename_i k1 k2 k3 k4 k5 k6 k7 k8
    simp only [k1, k2, k3, k4, k5, k6, k7, k8]
    go_loopw [9] (fun x wr => ∃ (k : Nat) (d' : Bd), k ≤ q ∧ x = .int .i64 k ∧ Bo w0 (n + 2 * k) g m1 m2 r d' wr ∧ Goes g m1 m2 r d d' wA wr) (fun x _ => 70 - (intOf x).toNat)
    case atStart => exact ⟨0, d, by omega, rfl, hBA, Goes.refl _ _ _ _ _ _⟩
    case round =>
      obtain ⟨k, d', hk, rfl, hBr, hGr⟩ := hrel
      have hbWr := hbW.keeps hGr.keeps (fun e => by have := (hlt _ e).2; omega)
      have hbSr := hbS.keeps hGr.keeps (fun e => by have := (hlt _ e).2; omega)
      have r0 := hbWr.cell 0 _ rfl
      have r1 := hbWr.cell 1 _ rfl
      have r5 := hbSr.cell 5 _ rfl
      have hscr : ∀ i v, (Stp.mk kind (f1, f2) (t1, t2) ct A bs.length cap bs).cells[i]? = some v → wr.cell? ⟨w.heap.size + 1, 0 + i, Option.none⟩ = some v := fun i v hv => by rw [Nat.zero_add]; exact hbSr.cell i v hv
      go_wp2_with fail
      refine (round_any ct 70 wr hct (by omega) (by omega)).mono ?_
      rintro e wr' ⟨rfl, ewr⟩
      subst ewr
      rw [HQ.out]
      by_cases hlt2 : k < q
      · go_wp2_with (first
          | (with_reducible refine wpList_load_stp rfl (.tmp 3) rfl (w.heap.size + 1) 0 ⟨kind, (f1, f2), (t1, t2), ct, A, bs.length, cap, bs⟩ rfl hscr ?_; simp only [Stp.val]))
        refine (bsend_any ⟨kind, (f1, f2), (t1, t2), ct, A, bs.length, cap, bs⟩ wr hBr hx0 (by omega)).mono ?_
        rintro e wb ⟨rfl, d2, hB2, hG2⟩
        go_wp2_with fail
        go_roundw
        case rel => exact ⟨k + 1, d2, by omega, by go_num, by rw [show n + 2 * (k + 1) = n + 2 * k + 2 by omega]; exact hB2, hGr.trans hG2⟩
        case measure => simp [intOf]; omega
      · go_wp2_with fail
        go_ret
        exact ⟨rfl, d', hBr.mono (by omega), (Goes.none k0).trans hGr⟩
  · rename_i hpos0
    have hpos : 0 < d.LR.length := by omega
    obtain ⟨gr, rfl⟩ : ∃ gr, Ar = some ⟨gr, 0, Option.none⟩ := by
      rcases hrowR.2 with ⟨e, h0⟩ | ⟨gw, cap', cur, e, _⟩
      · omega
      · cases e; exact ⟨gw, rfl⟩
    obtain ⟨q, hq⟩ : ∃ q : Nat, (q : Int) = ct % (d.LR.length : Int) := ⟨(ct % (d.LR.length : Int)).toNat, by have := Int.emod_nonneg ct (show (d.LR.length : Int) ≠ 0 by omega); omega⟩
    have hq2 : q < d.LR.length := by have := Int.emod_lt_of_pos ct (show (d.LR.length : Int) > 0 by omega); omega
    obtain ⟨⟨y, ys⟩, hy⟩ : ∃ y, d.LR[q]? = some y := ⟨_, List.getElem?_eq_getElem hq2⟩
    obtain ⟨bM, oM, eM, hyp⟩ := (Pks.of_owns hrowR).1 q y (by rw [List.getElem?_map, hy]; rfl)
    cases eM
    rw [Nat.zero_add] at hyp
    obtain ⟨Ay, cy, hyd, _⟩ := hB.data (y, ys) (List.mem_of_getElem? hy)
    have hyd1 : y.dv.oneCell' = true := by rw [show y.dv = _ from hyd]; rfl
    have HQ := Lib.hid hq
    clear hy hyd hq
    refine start_ (ds := []) (S := (fun w' => Keeps None wA w')) #[false, false, false, false, false, false, false, false, false, false, false, false, false, false, false, false, false, false] (by kernel_rfl) rfl rfl ((Keeps.refl _ _).drew) (fun hS0 => ?_)
    refine pure_ (i := 0) (N := some 118) (v := .pointer (some ⟨w.heap.size, 1, Option.none⟩)) #[true, false, false, false, false, false, false, false, false, false, false, false, false, false, false, false, false, false] rfl rfl (by kernel_rfl) (fun _ _ _ h => h) (Or.inl ⟨wanted_none rfl, fun w => by go_simp⟩) rfl ?_
    try simp only [Act.put, List.setIfInBounds_toArray, List.set_cons_zero, List.set_cons_succ]
    refine take_ (i := 1) (N := some 119) (v := .pointer (some ⟨r, 0, Option.none⟩)) #[true, true, false, false, false, false, false, false, false, false, false, false, false, false, false, false, false, false] rfl rfl (by kernel_rfl) (fun _ _ _ h => h) (Or.inl ⟨wanted_none rfl, by intro w' hSw; have q1 := hSw.cell cW1 id; go_simp⟩) hS0 rfl ?_
    try simp only [Act.put, List.setIfInBounds_toArray, List.set_cons_zero, List.set_cons_succ]
    refine pure_ (i := 2) (N := some 120) (v := .pointer (some ⟨r, 0, Option.none⟩)) #[true, true, true, false, false, false, false, false, false, false, false, false, false, false, false, false, false, false] rfl rfl (by kernel_rfl) (fun _ _ _ h => h) (Or.inl ⟨wanted_none rfl, fun w => by go_simp⟩) rfl ?_
    try simp only [Act.put, List.setIfInBounds_toArray, List.set_cons_zero, List.set_cons_succ]
    refine pure_ (i := 3) (N := some 121) (v := .pointer (some ⟨r, 0, Option.none⟩)) #[true, true, true, true, false, false, false, false, false, false, false, false, false, false, false, false, false, false] rfl rfl (by kernel_rfl) (fun _ _ _ h => h) (Or.inl ⟨wanted_none rfl, fun w => by go_simp⟩) rfl ?_
    try simp only [Act.put, List.setIfInBounds_toArray, List.set_cons_zero, List.set_cons_succ]
    refine take_ (i := 4) (N := some 122) (v := .slice (some ⟨gr, 0, Option.none⟩) d.LR.length cr) #[true, true, true, true, true, false, false, false, false, false, false, false, false, false, false, false, false, false] rfl rfl (by kernel_rfl) (fun _ _ _ h => h) (Or.inl ⟨wanted_none rfl, by intro w' hSw; have q1 := hSw.cell cr0 id; go_simp⟩) hS0 rfl ?_
    try simp only [Act.put, List.setIfInBounds_toArray, List.set_cons_zero, List.set_cons_succ]
    refine pure_ (i := 5) (N := some 123) (v := .pointer (some ⟨w.heap.size + 1, 5, Option.none⟩)) #[true, true, true, true, true, true, false, false, false, false, false, false, false, false, false, false, false, false] rfl rfl (by kernel_rfl) (fun _ _ _ h => h) (Or.inl ⟨wanted_none rfl, fun w => by go_simp⟩) rfl ?_
    try simp only [Act.put, List.setIfInBounds_toArray, List.set_cons_zero, List.set_cons_succ]
    refine take_ (i := 6) (N := some 124) (v := .int .i64 ct) #[true, true, true, true, true, true, true, false, false, false, false, false, false, false, false, false, false, false] rfl rfl (by kernel_rfl) (fun _ _ _ h => h) (Or.inl ⟨wanted_none rfl, by intro w' hSw; have q1 := hSw.cell c5 id; go_simp⟩) hS0 rfl ?_
    try simp only [Act.put, List.setIfInBounds_toArray, List.set_cons_zero, List.set_cons_succ]
    refine pure_ (i := 7) (N := some 125) (v := .pointer (some ⟨w.heap.size, 1, Option.none⟩)) #[true, true, true, true, true, true, true, true, false, false, false, false, false, false, false, false, false, false] rfl rfl (by kernel_rfl) (fun _ _ _ h => h) (Or.inl ⟨wanted_none rfl, fun w => by go_simp⟩) rfl ?_
    try simp only [Act.put, List.setIfInBounds_toArray, List.set_cons_zero, List.set_cons_succ]
    refine take_ (i := 8) (N := some 126) (v := .pointer (some ⟨r, 0, Option.none⟩)) #[true, true, true, true, true, true, true, true, true, false, false, false, false, false, false, false, false, false] rfl rfl (by kernel_rfl) (fun _ _ _ h => h) (Or.inl ⟨wanted_none rfl, by intro w' hSw; have q1 := hSw.cell cW1 id; go_simp⟩) hS0 rfl ?_
    try simp only [Act.put, List.setIfInBounds_toArray, List.set_cons_zero, List.set_cons_succ]
    refine pure_ (i := 9) (N := some 127) (v := .pointer (some ⟨r, 0, Option.none⟩)) #[true, true, true, true, true, true, true, true, true, true, false, false, false, false, false, false, false, false] rfl rfl (by kernel_rfl) (fun _ _ _ h => h) (Or.inl ⟨wanted_none rfl, fun w => by go_simp⟩) rfl ?_
    try simp only [Act.put, List.setIfInBounds_toArray, List.set_cons_zero, List.set_cons_succ]
    refine pure_ (i := 10) (N := some 128) (v := .pointer (some ⟨r, 0, Option.none⟩)) #[true, true, true, true, true, true, true, true, true, true, true, false, false, false, false, false, false, false] rfl rfl (by kernel_rfl) (fun _ _ _ h => h) (Or.inl ⟨wanted_none rfl, fun w => by go_simp⟩) rfl ?_
    try simp only [Act.put, List.setIfInBounds_toArray, List.set_cons_zero, List.set_cons_succ]
    refine take_ (i := 11) (N := some 129) (v := .slice (some ⟨gr, 0, Option.none⟩) d.LR.length cr) #[true, true, true, true, true, true, true, true, true, true, true, true, false, false, false, false, false, false] rfl rfl (by kernel_rfl) (fun _ _ _ h => h) (Or.inl ⟨wanted_none rfl, by intro w' hSw; have q1 := hSw.cell cr0 id; go_simp⟩) hS0 rfl ?_
    try simp only [Act.put, List.setIfInBounds_toArray, List.set_cons_zero, List.set_cons_succ]
    refine pure_ (i := 12) (N := some 130) (v := .int .i64 (d.LR.length : Int)) #[true, true, true, true, true, true, true, true, true, true, true, true, true, false, false, false, false, false] rfl rfl (by kernel_rfl) (fun _ _ _ h => h) (Or.inl ⟨wanted_none rfl, fun w => by go_simp⟩) rfl ?_
    try simp only [Act.put, List.setIfInBounds_toArray, List.set_cons_zero, List.set_cons_succ]
    refine two_ (i := 13) (j := 16) (oi := ({ dst := some 131, op := Op.call { callee := Callee.value (Operand.func 40), args := #[Operand.tmp 124, Operand.tmp 130], argTypes := #[3, 3] }, type := 3, pos := "law.go:125", after := #[{ on := 6, ground := Ground.data }, { on := 12, ground := Ground.data }], guard := Option.none } : Oper)) (oj := ({ dst := some 10, op := Op.alloc 33, type := 0, pos := "law.go:125", after := #[], guard := Option.none } : Oper)) (Ni := some 131) (Nj := some 10) #[true, true, true, true, true, true, true, true, true, true, true, true, true, true, false, false, false, false] #[true, true, true, true, true, true, true, true, true, true, true, true, true, false, false, false, true, false] rfl rfl rfl rfl (by kernel_rfl) (by decide) (by decide) ?_ ?_
    · intro KK hKK
      refine goes_ Try.func40 (by kernel_rfl) rfl #[.int .i64 ct, .int .i64 (d.LR.length : Int)] (wanted_none rfl) rfl rfl (by simp [Act.eval]) ?_
      refine (round_any ct d.LR.length _ hct hpos hLR).mono ?_
      rintro e w5 ⟨rfl, ew5⟩
      subst ew5
      rw [← HQ.out]
      refine ⟨_, rfl, hKK.out _ _ hS0 (fun hS1 => ?_)⟩
      try simp only [Act.put, List.setIfInBounds_toArray, List.set_cons_zero, List.set_cons_succ]
      refine pure_ (i := 14) (N := some 132) (v := .pointer (some ⟨gr, q * 6, Option.none⟩)) #[true, true, true, true, true, true, true, true, true, true, true, true, true, true, true, false, false, false] rfl rfl (by kernel_rfl) (fun _ _ _ h => h) (Or.inl ⟨wanted_none rfl, fun w => by go_simp⟩) rfl ?_
      try simp only [Act.put, List.setIfInBounds_toArray, List.set_cons_zero, List.set_cons_succ]
      refine take_ (i := 15) (N := some 133) (v := y.val) #[true, true, true, true, true, true, true, true, true, true, true, true, true, true, true, true, false, false] rfl rfl (by kernel_rfl) (fun _ _ _ h => h) (Or.inl ⟨wanted_none rfl, by intro w' hSw; exact exec_load_pk (.tmp 132) rfl gr (q * 6) y rfl (hyp.keeps hSw id)⟩) hS1 rfl ?_
      try simp only [Act.put, List.setIfInBounds_toArray, List.set_cons_zero, List.set_cons_succ]
      refine one_ (i := 16) (oi := ({ dst := some 10, op := Op.alloc 33, type := 0, pos := "law.go:125", after := #[], guard := Option.none } : Oper)) (N := some 10) #[true, true, true, true, true, true, true, true, true, true, true, true, true, true, true, true, true, false] rfl rfl (by kernel_rfl) (by decide) ?_
      intro KK hKK
      refine value_ (wanted_none rfl) rfl (w1 := (wA.drew.alloc (.cells #[.bool false, .int .i64 0, .int .i64 0, .bool false, .int .i64 0, .slice Option.none 0 0] 33))) (v := .pointer (some ⟨wA.drew.heap.size, 0, Option.none⟩)) (by go_simp) (hKK.out _ _ (hS1.alloc _) (fun hS2 => ?_))
      try simp only [Act.put, List.setIfInBounds_toArray, List.set_cons_zero, List.set_cons_succ]
      have hY0 := Blk.new (wA.drew) 33 [.bool false, .int .i64 0, .int .i64 0, .bool false, .int .i64 0, .slice Option.none 0 0]
      refine one_ (i := 17) (oi := ({ dst := Option.none, op := Op.store 33 (Operand.tmp 10) (Operand.tmp 133), type := 0, pos := "law.go:125", after := #[{ on := 16, ground := Ground.data }, { on := 15, ground := Ground.data }, { on := 13, ground := Ground.chain }, { on := 0, ground := Ground.phase }, { on := 1, ground := Ground.phase }, { on := 2, ground := Ground.phase }, { on := 3, ground := Ground.phase }, { on := 4, ground := Ground.phase }, { on := 5, ground := Ground.phase }, { on := 6, ground := Ground.phase }, { on := 7, ground := Ground.phase }, { on := 8, ground := Ground.phase }, { on := 9, ground := Ground.phase }, { on := 10, ground := Ground.phase }, { on := 11, ground := Ground.phase }, { on := 12, ground := Ground.phase }, { on := 13, ground := Ground.phase }, { on := 14, ground := Ground.phase }, { on := 15, ground := Ground.phase }, { on := 16, ground := Ground.phase }], guard := Option.none } : Oper)) (N := Option.none) #[true, true, true, true, true, true, true, true, true, true, true, true, true, true, true, true, true, true] rfl rfl (by kernel_rfl) (by decide) ?_
      intro KK hKK
      refine skip_ (wanted_none rfl) rfl (w1 := (wA.drew.alloc (.cells #[.bool false, .int .i64 0, .int .i64 0, .bool false, .int .i64 0, .slice Option.none 0 0] 33)).setRow (wA.drew.heap.size) y.cells.toArray) (exec_store_pk (.tmp 10) (.tmp 133) rfl (wA.drew.heap.size) y rfl rfl hyd1 _ hY0 rfl) (hKK.out _ _ (hS2.setRow _ _ (fun e => by simp at e)) (fun hS3 => ?_))
      try simp only [Act.put, List.setIfInBounds_toArray, List.set_cons_zero, List.set_cons_succ]
      refine done_ (by kernel_rfl) ?_
      have hbY := hY0.setRow y.cells
      have hkY := hS3
      generalize (wA.drew.alloc (.cells #[.bool false, .int .i64 0, .int .i64 0, .bool false, .int .i64 0, .slice Option.none 0 0] 33)).setRow (wA.drew.heap.size) y.cells.toArray = wB at hbY hkY ⊢
      replace hbY : Blk wB wA.heap.size 33 y.cells := hbY
      have hbW9 := hbW.grew hkY
      have e0 := hbW9.cell 0 _ rfl
      have e1 := hbW9.cell 1 _ rfl
      have e2 := hbY.cell 0 _ rfl
      have e3 := hbY.cell 1 _ rfl
      have e4 := hbY.cell 2 _ rfl
      go_wp2_with fail
      refine (bdeliver_any y.fr y.ct wB (hBA.grew hkY) (by omega)).mono ?_
      rintro e wC ⟨rfl, d', hB', hG⟩
      go_wp2_with fail
      go_ret
      exact ⟨rfl, d', hB'.mono (by omega), ((Goes.none k0).trans (Goes.none hkY)).trans hG⟩
    · intro KK hKK
      refine value_ (wanted_none rfl) rfl (w1 := (wA.drew.alloc (.cells #[.bool false, .int .i64 0, .int .i64 0, .bool false, .int .i64 0, .slice Option.none 0 0] 33))) (v := .pointer (some ⟨wA.drew.heap.size, 0, Option.none⟩)) (by go_simp) (hKK.out _ _ (hS0.alloc _) (fun hS4 => ?_))
      try simp only [Act.put, List.setIfInBounds_toArray, List.set_cons_zero, List.set_cons_succ]
      refine one_ (i := 13) (oi := ({ dst := some 131, op := Op.call { callee := Callee.value (Operand.func 40), args := #[Operand.tmp 124, Operand.tmp 130], argTypes := #[3, 3] }, type := 3, pos := "law.go:125", after := #[{ on := 6, ground := Ground.data }, { on := 12, ground := Ground.data }], guard := Option.none } : Oper)) (N := some 131) #[true, true, true, true, true, true, true, true, true, true, true, true, true, true, false, false, true, false] rfl rfl (by kernel_rfl) (by decide) ?_
      intro KK hKK
      refine goes_ Try.func40 (by kernel_rfl) rfl #[.int .i64 ct, .int .i64 (d.LR.length : Int)] (wanted_none rfl) rfl rfl (by simp [Act.eval]) ?_
      refine (round_any ct d.LR.length _ hct hpos hLR).mono ?_
      rintro e w5 ⟨rfl, ew5⟩
      subst ew5
      rw [← HQ.out]
      refine ⟨_, rfl, hKK.out _ _ hS4 (fun hS5 => ?_)⟩
      try simp only [Act.put, List.setIfInBounds_toArray, List.set_cons_zero, List.set_cons_succ]
      refine pure_ (i := 14) (N := some 132) (v := .pointer (some ⟨gr, q * 6, Option.none⟩)) #[true, true, true, true, true, true, true, true, true, true, true, true, true, true, true, false, true, false] rfl rfl (by kernel_rfl) (fun _ _ _ h => h) (Or.inl ⟨wanted_none rfl, fun w => by go_simp⟩) rfl ?_
      try simp only [Act.put, List.setIfInBounds_toArray, List.set_cons_zero, List.set_cons_succ]
      refine take_ (i := 15) (N := some 133) (v := y.val) #[true, true, true, true, true, true, true, true, true, true, true, true, true, true, true, true, true, false] rfl rfl (by kernel_rfl) (fun _ _ _ h => h) (Or.inl ⟨wanted_none rfl, by intro w' hSw; exact exec_load_pk (.tmp 132) rfl gr (q * 6) y rfl (hyp.keeps hSw id)⟩) hS5 rfl ?_
      try simp only [Act.put, List.setIfInBounds_toArray, List.set_cons_zero, List.set_cons_succ]
      have hY0 := Blk.new (wA.drew) 33 [.bool false, .int .i64 0, .int .i64 0, .bool false, .int .i64 0, .slice Option.none 0 0]
      refine one_ (i := 17) (oi := ({ dst := Option.none, op := Op.store 33 (Operand.tmp 10) (Operand.tmp 133), type := 0, pos := "law.go:125", after := #[{ on := 16, ground := Ground.data }, { on := 15, ground := Ground.data }, { on := 13, ground := Ground.chain }, { on := 0, ground := Ground.phase }, { on := 1, ground := Ground.phase }, { on := 2, ground := Ground.phase }, { on := 3, ground := Ground.phase }, { on := 4, ground := Ground.phase }, { on := 5, ground := Ground.phase }, { on := 6, ground := Ground.phase }, { on := 7, ground := Ground.phase }, { on := 8, ground := Ground.phase }, { on := 9, ground := Ground.phase }, { on := 10, ground := Ground.phase }, { on := 11, ground := Ground.phase }, { on := 12, ground := Ground.phase }, { on := 13, ground := Ground.phase }, { on := 14, ground := Ground.phase }, { on := 15, ground := Ground.phase }, { on := 16, ground := Ground.phase }], guard := Option.none } : Oper)) (N := Option.none) #[true, true, true, true, true, true, true, true, true, true, true, true, true, true, true, true, true, true] rfl rfl (by kernel_rfl) (by decide) ?_
      intro KK hKK
      refine skip_ (wanted_none rfl) rfl (w1 := (wA.drew.alloc (.cells #[.bool false, .int .i64 0, .int .i64 0, .bool false, .int .i64 0, .slice Option.none 0 0] 33)).setRow (wA.drew.heap.size) y.cells.toArray) (exec_store_pk (.tmp 10) (.tmp 133) rfl (wA.drew.heap.size) y rfl rfl hyd1 _ hY0 rfl) (hKK.out _ _ (hS5.setRow _ _ (fun e => by simp at e)) (fun hS6 => ?_))
      try simp only [Act.put, List.setIfInBounds_toArray, List.set_cons_zero, List.set_cons_succ]
      refine done_ (by kernel_rfl) ?_
      have hbY := hY0.setRow y.cells
      have hkY := hS6
      generalize (wA.drew.alloc (.cells #[.bool false, .int .i64 0, .int .i64 0, .bool false, .int .i64 0, .slice Option.none 0 0] 33)).setRow (wA.drew.heap.size) y.cells.toArray = wB at hbY hkY ⊢
      replace hbY : Blk wB wA.heap.size 33 y.cells := hbY
      have hbW9 := hbW.grew hkY
      have e0 := hbW9.cell 0 _ rfl
      have e1 := hbW9.cell 1 _ rfl
      have e2 := hbY.cell 0 _ rfl
      have e3 := hbY.cell 1 _ rfl
      have e4 := hbY.cell 2 _ rfl
      go_wp2_with fail
      refine (bdeliver_any y.fr y.ct wB (hBA.grew hkY) (by omega)).mono ?_
      rintro e wC ⟨rfl, d', hB', hG⟩
      go_wp2_with fail
      go_ret
      exact ⟨rfl, d', hB'.mono (by omega), ((Goes.none k0).trans (Goes.none hkY)).trans hG⟩
  · go_ret
    exact ⟨rfl, d, (hBA.mono (by omega)), Goes.none k0⟩
  · go_ret
    exact ⟨rfl, d, (hBA.mono (by omega)), Goes.none k0⟩
end Go.Proofs.Ytcplogdaepmpnaa
