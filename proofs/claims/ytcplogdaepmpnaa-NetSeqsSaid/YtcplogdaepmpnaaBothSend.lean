/- cairnlaw16.World.send: a packet to both. -/
import Derived.Test.YtcplogdaepmpnaaBothDeliver
import Derived.Test.YtcplogdaepmpnaaStepsAt
namespace Go.Proofs.Ytcplogdaepmpnaa
open Go.RowKit

set_option maxRecDepth 100000 in
set_option maxHeartbeats 4000000 in
theorem bsend_any {w0 : World} {n g m1 m2 r : Nat} {d : Bd} (x : Stp) (w : World) (hB : Bo w0 n g m1 m2 r d w) (hx : x.Raw w0) (hn : n ≤ 100000000000) :
    Calls Try.prog 35 #[wV g r, x.val] w (BothEnd w0 (n + 2) g m1 m2 r d w) := by
  obtain ⟨kind, ⟨f1, f2⟩, ⟨t1, t2⟩, ct, A, len, cap, bs⟩ := x
  obtain ⟨hnum, hlen, hbytes, hnil, hkind, hfr, hto, hct, hmost⟩ := hx
  simp only at hnum hlen hbytes hnil hkind hfr hto hct hmost
  subst hlen
  have kW := (Keeps.refl None w).alloc (.cells #[.pointer (some ⟨g, 0, Option.none⟩), .pointer (some ⟨r, 0, Option.none⟩)] 50)
  have hbW := (Blk.new w 50 [.pointer (some ⟨g, 0, Option.none⟩), .pointer (some ⟨r, 0, Option.none⟩)]).alloc (.cells #[.int .i64 kind, .bool f1, .int .i64 f2, .bool t1, .int .i64 t2, .int .i64 ct, .slice A bs.length cap] 53)
  have k0 := kW.alloc (.cells #[.int .i64 kind, .bool f1, .int .i64 f2, .bool t1, .int .i64 t2, .int .i64 ct, .slice A bs.length cap] 53)
  have hbS : Blk ((w.alloc (.cells #[.pointer (some ⟨g, 0, Option.none⟩), .pointer (some ⟨r, 0, Option.none⟩)] 50)).alloc (.cells #[.int .i64 kind, .bool f1, .int .i64 f2, .bool t1, .int .i64 t2, .int .i64 ct, .slice A bs.length cap] 53)) (w.heap.size + 1) 53 [.int .i64 kind, .bool f1, .int .i64 f2, .bool t1, .int .i64 t2, .int .i64 ct, .slice A bs.length cap] := by
    have := Blk.new (w.alloc (.cells #[.pointer (some ⟨g, 0, Option.none⟩), .pointer (some ⟨r, 0, Option.none⟩)] 50)) 53 [.int .i64 kind, .bool f1, .int .i64 f2, .bool t1, .int .i64 t2, .int .i64 ct, .slice A bs.length cap]
    simpa using this
  have hB0 := hB.grew k0
  have hlt := hB.lt
  have g6 := hbS.cell 6 _ rfl
  simp only [Stp.val, wV]
  go_enter Try.func35, Try.ntmps35
  go_wp2_with fail
  obtain ⟨wA, eA⟩ : ∃ wA, wA = ((w.alloc (.cells #[.pointer (some ⟨g, 0, Option.none⟩), .pointer (some ⟨r, 0, Option.none⟩)] 50)).alloc (.cells #[.int .i64 kind, .bool f1, .int .i64 f2, .bool t1, .int .i64 t2, .int .i64 ct, .slice A bs.length cap] 53)) := ⟨_, rfl⟩
  rw [← eA] at k0 hbW hbS hB0 g6 ⊢
  clear eA kW
  have hsA := k0.size
  have hWl := hbW.lt
  have hSl := hbS.lt
  refine (lend_any A bs.length cap bs wA (hnum.grew hB0.keeps) rfl hmost).mono ?_
  rintro e wb ⟨gd, rfl, hgd, hBd, hkb⟩
  have hBb := hB0.grew hkb
  have hbWb := hbW.grew hkb
  have hbSb := hbS.grew hkb
  have b0 := hbWb.cell 0 _ rfl
  have b1 := hbSb.cell 1 _ rfl
  have b2 := hbSb.cell 2 _ rfl
  have b3 := hbSb.cell 3 _ rfl
  have b4 := hbSb.cell 4 _ rfl
  have b5 := hbSb.cell 5 _ rfl
  have hcs := countF_le d.S (f1, f2)
  have hsl := hB.len
  have hsn : IntV (d.sn (f1, f2) + 1) := (intV_iff _).2 (by rw [hB.sent]; omega)
  go_wp2_with fail
  refine (send_any g w0.heap.size d.v m1 m2 d.L n d.sn d.mn ⟨(f1, f2), ct, (t1, t2), .slice (some ⟨gd, 0, Option.none⟩) bs.length (bs.length + 5)⟩ bs (some ⟨gd, 0, Option.none⟩) bs.length (bs.length + 5) wb hBb.net rfl (lentCells_nums hBd) rfl hmost hfr hto hsn (by omega)).mono ?_
  have hpp := hB.pairs ((f1, f2), (t1, t2))
  rintro e wc hsend
  have key : ∃ (ok : Bool) (v' : Value) (L' : Way) (mn' : Pr → Int), e = .returned (.tuple #[.int .i64 ((countF d.S (f1, f2) : Int) + 1), .bool ok]) ∧ (ok = true ↔ pairsF d.LR ((f1, f2), (t1, t2)) < 64) ∧ Nt wc g w0.heap.size v' m1 m2 L' (n + 2) (upd d.sn (f1, f2) (d.sn (f1, f2) + 1)) mn' ∧ Keeps (Mine g m1 m2 d.v) wb wc ∧ NewL d.v v' wb ∧
      Inv L' (upd d.sn (f1, f2) (d.sn (f1, f2) + 1)) mn' ∧ L'.map core = d.L.map core ++ (if ok then [((f1, f2), d.sn (f1, f2) + 1, (t1, t2), bs)] else []) ∧ (∀ y ∈ L', IntV y.1.fr.2 ∧ IntV y.1.to.2 ∧ y.2.length ≤ 140737488351232) ∧ (∀ y ∈ L', ∀ b, y.1.dv.ownBlock = some b → b < wb.heap.size → ∃ z ∈ d.L, z.1.dv.ownBlock = some b) := by
    rcases hsend with ⟨hf, rfl, hN, hk⟩ | ⟨hr, rfl, v', dd, hN, hk, hloc, hd⟩
    · refine ⟨false, d.v, d.L, d.mn, by rw [← hB.sent], ?_, hN, hk, NewL.refl _ _, hB.inv.lost (f1, f2), by simp, hB.ok, fun y hy b hb _ => ⟨y, hy, hb⟩⟩
      have : 64 ≤ d.mn ((f1, f2), (t1, t2)) := hf
      rw [hpp] at this
      simp
      omega
    · refine ⟨true, v', _, _, by rw [← hB.sent], ?_, hN, hk, NewL.of_loc hloc, hB.inv.send ⟨(f1, f2), ct, (t1, t2), .slice (some ⟨gd, 0, Option.none⟩) bs.length (bs.length + 5)⟩ bs dd hr, by simp [core], fun y hy => ?_, fun y hy b hb hlt => ?_⟩
      · have : d.mn ((f1, f2), (t1, t2)) < 64 := hr
        rw [hpp] at this
        simp
        omega
      · rcases List.mem_append.1 hy with h | h
        · exact hB.ok y h
        · obtain rfl := List.mem_singleton.1 h
          exact ⟨hfr, hto, hmost⟩
      · rcases List.mem_append.1 hy with h | h
        · exact ⟨y, h, hb⟩
        · obtain rfl := List.mem_singleton.1 h
          have := hd b hb
          omega
  clear hsend
  obtain ⟨ok, v', L', mn', rfl, hok, hNc, hkc, hnlv, hinv, hsame, hokL, hdv⟩ := key
  have hWc := hbWb.keeps hkc (fun e => by have := (hlt _ (.inl e)).2; omega)
  have hSc := hbSb.keeps hkc (fun e => by have := (hlt _ (.inl e)).2; omega)
  have hRc := hBb.ref.keeps hkc hBb.beside
  have c0 := hWc.cell 1 _ rfl
  have c1 := hSc.cell 1 _ rfl
  have c2 := hSc.cell 2 _ rfl
  have c3 := hSc.cell 3 _ rfl
  have c4 := hSc.cell 4 _ rfl
  have c5 := hSc.cell 5 _ rfl
  have c6 := hSc.cell 6 _ rfl
  have hll := hB.lens
  have hnm := hB.net.most
  have HOK := Lib.hid hok
  clear hok
  go_wp2_with fail
  refine (rsend_any ⟨(f1, f2), ct, (t1, t2), .slice A bs.length cap⟩ bs A cap wc hRc rfl (by omega) (by omega)).mono ?_
  rintro e wd hrs
  have key : ∃ (ru' rv' : Value) (LR' : Way), e = .returned (.tuple #[.int .i64 ((countF d.S (f1, f2) : Int) + 1), .bool ok]) ∧ Rn wd r w0.heap.size rv' ru' LR' (d.S ++ [(f1, f2)]) ∧ Keeps (MineR r d.rv d.ru) wc wd ∧ NewL d.rv rv' wc ∧ NewL d.ru ru' wc ∧
      LR'.map core = d.LR.map core ++ (if ok then [((f1, f2), d.sn (f1, f2) + 1, (t1, t2), bs)] else []) ∧ (∀ y ∈ LR', ∃ A c, y.1.dv = .slice A y.2.length c ∧ Nums .u8 w0 A y.2) := by
    obtain ⟨ru', hnu, ⟨hf, rfl, hR, hk⟩ | ⟨hr, rfl, rv', hR, hnv, hk⟩⟩ := hrs
    · have hf' : 64 ≤ pairsF d.LR ((f1, f2), (t1, t2)) := hf
      have e1 : ok = false := by
        cases ok with
        | false => rfl
        | true => have := HOK.out.1 rfl; omega
      subst e1
      exact ⟨ru', d.rv, d.LR, rfl, hR, hk, NewL.refl _ _, hnu, by simp, hB.data⟩
    · have hr' : pairsF d.LR ((f1, f2), (t1, t2)) < 64 := hr
      have e1 : ok = true := HOK.out.2 hr'
      subst e1
      refine ⟨ru', rv', _, rfl, hR, hk, hnv, hnu, by simp [core, hB.sent], fun y hy => ?_⟩
      rcases List.mem_append.1 hy with h | h
      · exact hB.data y h
      · obtain rfl := List.mem_singleton.1 h
        exact ⟨A, cap, rfl, hnum⟩
  clear hrs
  obtain ⟨ru', rv', LR', rfl, hRd, hkd, hnrv, hnru, hsameR, hdata⟩ := key
  have hs1 := hkb.size
  have hs2 := hkc.size
  have hgl := hBd.lt
  have kw : Keeps None w0 wd := (hBb.keeps.andThen hkc (fun b hb e => by have := (hBb.net.mine_lt b e).1; omega)).andThen hkd (fun b hb e => by have := hRc.mine_ge b e; omega)
  have hSd := hSc.keeps hkd (fun e => by have := (hlt _ (.inr e)).2; omega)
  have hBdd := (hBd.keeps hkc (fun e => by have := (hlt _ (.inl e)).2; omega)).keeps hkd (fun e => by have := (hlt _ (.inr e)).2; omega)
  have d6 := hSd.cell 6 _ rfl
  have hfr2 : ∀ a, (upd d.sn (f1, f2) (d.sn (f1, f2) + 1)) a = (countF (d.S ++ [(f1, f2)]) a : Int) := fun b => by
    rw [countF_snoc]
    by_cases e : b = (f1, f2)
    · subst e
      rw [upd_same, hB.sent]
      simp
    · rw [upd_other _ _ _ _ e, hB.sent, if_neg (fun e2 => e e2.symm)]
      simp
  obtain ⟨hBn, hG⟩ := hBb.both hkc hNc hnlv hkd hRd hnrv hnru (by rw [hsame, hsameR, hB.same]) hfr2 (by simp; omega) hinv hokL hdata
  obtain ⟨t1', t2'⟩ := test_eq (rfl : (countF d.S (f1, f2) : Int) + 1 = (countF d.S (f1, f2) : Int) + 1)
  clear hNc hRd hfr2 hsame hsameR
  go_wp2_with fail
  refine (back_any gd bs.length bs A bs.length cap wd hBdd rfl (hnum.grew kw) rfl hmost).mono ?_
  rintro e we ⟨rfl, _, hke⟩
  go_wp2_with fail
  go_ret
  have hw0 := hB.keeps.size
  have hk0s := k0.size
  refine ⟨rfl, _, hBn.stay hke (fun b hb e => ?_) (fun y hy b hb e => ?_) (fun b hb e => by simp only [One] at e; omega), ⟨((k0.trans hkb).of_none.andThen hG.keeps (fun _ _ e => e)).andThen hke (fun b hb e => by simp only [One] at e; omega), fun b hb => ?_⟩⟩
  · rw [show b = gd from e] at hb
    rcases hG.new _ hb with q | q
    · have := (hlt _ q).2
      omega
    · omega
  · rw [show b = gd from e] at hb
    obtain ⟨z, hz, hzb⟩ := hdv y hy _ hb hgl
    have := ((hB.net.bytes z hz).lt _ hzb).2
    omega
  · rcases hG.new b hb with q | q
    · exact .inl q
    · exact .inr (by omega)
end Go.Proofs.Ytcplogdaepmpnaa
