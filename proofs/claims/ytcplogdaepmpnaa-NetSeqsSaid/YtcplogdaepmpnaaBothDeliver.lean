/- cairnlaw16.World.deliver: a packet off both. -/
import Derived.Test.YtcplogdaepmpnaaBothState
namespace Go.Proofs.Ytcplogdaepmpnaa
open Go.RowKit

section
variable {ops : Array Oper} {rest : List Oper} {o : Oper} {a : Act} {w : World} {Q : Exit → Act → World → Prop}
theorem wpList_load_pk_w (hw : Region.wanted o (yielded ops a.tmps) = true) (x : Operand) (ho : o.op = .load 33 x) (b j : Nat) (p : Pk) (hx : a.eval x = .pointer (some ⟨b, j, Option.none⟩)) (hp : PkAt w b j p)
    (h : wpList Try.prog ops Q rest (a.put o.dst p.val) w) : wpList Try.prog ops Q (o :: rest) a w := by
  refine BigFrame.wpList_want hw fun K hK => ?_
  unfold Oper.wp
  rw [exec_load_pk x ho b j p hx hp]
  exact hK _ _ h
end

def BothEnd (w0 : World) (n g m1 m2 r : Nat) (d : Bd) (w : World) (e : Ending) (w' : World) : Prop := e = .returned (.bool true) ∧ ∃ d', Bo w0 n g m1 m2 r d' w' ∧ Goes g m1 m2 r d d' w w'

set_option maxRecDepth 100000 in
set_option maxHeartbeats 4000000 in
theorem bdeliver_any {w0 : World} {n g m1 m2 r : Nat} {d : Bd} (a : Ad) (c : Int) (w : World) (hB : Bo w0 n g m1 m2 r d w) (hn : n ≤ 100000000000) :
    Calls Try.prog 36 #[wV g r, adV a, .int .i64 c] w (BothEnd w0 (n + 1) g m1 m2 r d w) := by
  have kW := (Keeps.refl None w).alloc (.cells #[.pointer (some ⟨g, 0, Option.none⟩), .pointer (some ⟨r, 0, Option.none⟩)] 50)
  have hbW := (Blk.new w 50 [.pointer (some ⟨g, 0, Option.none⟩), .pointer (some ⟨r, 0, Option.none⟩)]).alloc (.cells #[.bool a.1, .int .i64 a.2] 27)
  have k0 := kW.alloc (.cells #[.bool a.1, .int .i64 a.2] 27)
  have hbA : Blk ((w.alloc (.cells #[.pointer (some ⟨g, 0, Option.none⟩), .pointer (some ⟨r, 0, Option.none⟩)] 50)).alloc (.cells #[.bool a.1, .int .i64 a.2] 27)) (w.heap.size + 1) 27 [.bool a.1, .int .i64 a.2] := by
    have := Blk.new (w.alloc (.cells #[.pointer (some ⟨g, 0, Option.none⟩), .pointer (some ⟨r, 0, Option.none⟩)] 50)) 27 [.bool a.1, .int .i64 a.2]
    simpa using this
  have hB0 := hB.grew k0
  have hlt := hB.lt
  have a0 := hbW.cell 0 _ rfl
  have a2 := hbA.cell 0 _ rfl
  have a3 := hbA.cell 1 _ rfl
  simp only [adV, wV]
  go_enter Try.func36, Try.ntmps36
  go_wp2_with fail
  obtain ⟨wA, eA⟩ : ∃ wA, wA = (w.alloc (.cells #[.pointer (some ⟨g, 0, Option.none⟩), .pointer (some ⟨r, 0, Option.none⟩)] 50)).alloc (.cells #[.bool a.1, .int .i64 a.2] 27) := ⟨_, rfl⟩
  rw [← eA] at k0 hbW hbA hB0 a0 a2 a3 ⊢
  clear eA kW
  have hsA := k0.size
  have hWl := hbW.lt
  have hAl := hbA.lt
  refine (deliver_any g w0.heap.size d.v m1 m2 d.L n d.sn d.mn a c _ hB0.net (fun x hx => ⟨(hB.ok x hx).1, (hB.ok x hx).2.1, by rw [hB.inv.many]; omega⟩) (by omega)).mono ?_
  rintro e w1 (⟨hp, rfl, hk1⟩ | ⟨i, x, zs, v', hp, hx, rfl, hN1, hk1, hv1⟩)
  · have hpr : placeP (d.LR.map (·.1)) a c = -1 := by rw [← place_core hB.same]; exact hp
    have hY := Blk.new w1 33 [.bool false, .int .i64 0, .int .i64 0, .bool false, .int .i64 0, .slice Option.none 0 0]
    have kY := (Keeps.refl None w1).alloc (.cells #[.bool false, .int .i64 0, .int .i64 0, .bool false, .int .i64 0, .slice Option.none 0 0] 33)
    have HP := Lib.hid hpr
    clear hp hpr
    go_wp2_with (first
      | (with_reducible refine wpList_store_pk rfl (.tmp 7) (.tmp 17) rfl w1.heap.size zeroP rfl rfl rfl _ hY rfl ?_; intro w2 hB2 hk2; have k12 : Keeps None w1 w2 := kY.andThen hk2 (fun j hj e => by simp only [One] at e; omega); have hbW2 := (hbW.grew hk1).grew k12; have hbA2 := (hbA.grew hk1).grew k12; have e1 := hbW2.cell 1 _ rfl; have e2 := hbA2.cell 0 _ rfl; have e3 := hbA2.cell 1 _ rfl))
    refine (rdeliver_any a c w2 ((hB0.ref.grew hk1).grew k12) (by have := hB.lens; have := hB.net.most; omega)).mono ?_
    rintro e w3 (⟨_, rfl, hk3⟩ | ⟨i, x, zs, v', hp, _⟩)
    · have hY3 := Blk.new w3 33 [.bool false, .int .i64 0, .int .i64 0, .bool false, .int .i64 0, .slice Option.none 0 0]
      have kY3 := (Keeps.refl None w3).alloc (.cells #[.bool false, .int .i64 0, .int .i64 0, .bool false, .int .i64 0, .slice Option.none 0 0] 33)
      obtain ⟨t1, t2⟩ := test_eq (rfl : (150 : Int) = 150)
      go_wp2_with (first
        | (with_reducible refine wpList_store_pk rfl (.tmp 9) (.tmp 25) rfl w3.heap.size zeroP rfl rfl rfl _ hY3 rfl ?_; intro w4 hB4 hk4; have k34 : Keeps None w3 w4 := kY3.andThen hk4 (fun j hj e => by simp only [One] at e; omega); have hb14 := ((hB2.grew hk3).grew k34))
        | (with_reducible refine wpList_load_pk_w (by with_unfolding_all rfl) (.tmp 7) rfl w1.heap.size 0 zeroP rfl hb14.pk ?_)
        | (with_reducible refine wpList_load_pk_w (by with_unfolding_all rfl) (.tmp 9) rfl w3.heap.size 0 zeroP rfl hB4.pk ?_))
      refine (same16_any zeroP zeroP [] [] Option.none Option.none 0 0 w4 rfl rfl (Nums.nil _ _ _) (Nums.nil _ _ _) (by decide)).mono ?_
      rintro e w5 ⟨rfl, hk5⟩
      go_wp2_with fail
      go_ret
      have kall : Keeps None w w5 := ((((k0.trans hk1).trans k12).trans hk3).trans k34).trans hk5
      exact ⟨by simp, d, (hB.mono (by omega)).grew kall, Goes.none kall⟩
    · rw [HP.out] at hp; omega
  · obtain ⟨⟨y, ys⟩, hy⟩ : ∃ y, d.LR[i]? = some y := ⟨_, List.getElem?_eq_getElem (by rw [← hB.lens]; exact (List.getElem?_eq_some_iff.1 hx).1)⟩
    have hcore := core_at hB.same hx hy
    have hpr : placeP (d.LR.map (·.1)) a c = (i : Int) := by rw [← place_core hB.same]; exact hp
    have hxm := List.mem_of_getElem? hx
    have hym := List.mem_of_getElem? hy
    have hd1 := hB.net.dv_one hxm
    have hW1 := hbW.keeps hk1 (fun e => by have := (hlt _ (.inl e)).2; omega)
    have hA1 := hbA.keeps hk1 (fun e => by have := (hlt _ (.inl e)).2; omega)
    have hR1 := hB0.ref.keeps hk1 hB0.beside
    have hrx0 := hB0.net.bytes (x, zs) hxm
    have hrx1 := hrx0.keeps hk1 (fun b hb e => hB0.net.byte_off hrx0 hb e)
    obtain ⟨Ay, cy, hyd, hyn⟩ := hB.data (y, ys) hym
    simp only at hyd hyn
    have hd2 : y.dv.oneCell' = true := by rw [hyd]; rfl
    have hY := Blk.new w1 33 [.bool false, .int .i64 0, .int .i64 0, .bool false, .int .i64 0, .slice Option.none 0 0]
    have kY := (Keeps.refl None w1).alloc (.cells #[.bool false, .int .i64 0, .int .i64 0, .bool false, .int .i64 0, .slice Option.none 0 0] 33)
    have HP := Lib.hid hpr
    have HX := Lib.hid hx
    have HY := Lib.hid hy
    have HC := Lib.hid hcore
    have HYD := Lib.hid hyd
    have HV := Lib.hid hv1
    clear hp hpr hx hy hcore hyd hv1
    go_wp2_with (first
      | (with_reducible refine wpList_store_pk rfl (.tmp 7) (.tmp 17) rfl w1.heap.size x rfl rfl hd1 _ hY rfl ?_; intro w2 hB2 hk2; have k12 : Keeps None w1 w2 := kY.andThen hk2 (fun j hj e => by simp only [One] at e; omega); have hbW2 := hW1.grew k12; have hbA2 := hA1.grew k12; have e1 := hbW2.cell 1 _ rfl; have e2 := hbA2.cell 0 _ rfl; have e3 := hbA2.cell 1 _ rfl))
    have hR2 := hR1.grew k12
    refine (rdeliver_any a c w2 hR2 (by have := hB.lens; have := hB.net.most; omega)).mono ?_
    rintro e w3 (⟨hp', _⟩ | ⟨j, y', zs', rv', hp', hy', rfl, hR3, hnl, hk3⟩)
    · rw [HP.out] at hp'; omega
    · obtain rfl : i = j := by rw [HP.out] at hp'; omega
      rw [HY.out] at hy'
      cases hy'
      have hs12 := k12.size
      have hs1 := hk1.size
      have hY3 := Blk.new w3 33 [.bool false, .int .i64 0, .int .i64 0, .bool false, .int .i64 0, .slice Option.none 0 0]
      have kY3 := (Keeps.refl None w3).alloc (.cells #[.bool false, .int .i64 0, .int .i64 0, .bool false, .int .i64 0, .slice Option.none 0 0] 33)
      have hB3 := hB2.keeps hk3 (fun e => by have := (hlt _ (.inr e)).2; omega)
      have hrx3 := (hrx1.grew k12).keeps hk3 (fun b hb e => hR2.byte_off (hrx1.grew k12) hb e)
      have kw3 : Keeps None w0 w3 := (((hB0.keeps.andThen hk1 (fun b hb e => by have := (hB0.net.mine_lt b e).1; omega)).trans k12).andThen hk3 (fun b hb e => by have := hR2.mine_ge b e; omega))
      obtain ⟨t1, t2⟩ := test_eq (rfl : (0 : Int) = 0)
      go_wp2_with (first
        | (with_reducible refine wpList_store_pk rfl (.tmp 9) (.tmp 25) rfl w3.heap.size y rfl rfl hd2 _ hY3 rfl ?_; intro w4 hB4 hk4; have k34 : Keeps None w3 w4 := kY3.andThen hk4 (fun j hj e => by simp only [One] at e; omega); have hb14 := hB3.grew k34)
        | (with_reducible refine wpList_load_pk_w (by with_unfolding_all rfl) (.tmp 7) rfl w1.heap.size 0 x rfl hb14.pk ?_)
        | (with_reducible refine wpList_load_pk_w (by with_unfolding_all rfl) (.tmp 9) rfl w3.heap.size 0 y rfl hB4.pk ?_))
      have hrx4 := hrx3.grew k34
      obtain ⟨Ax, cx, hxd⟩ := hrx4.slice
      refine (same16_any x y zs ys Ax Ay cx cy w4 hxd HYD.out (Nums.row (by rw [← hxd]; exact hrx4)).1 (hyn.grew (kw3.trans k34)) (hB.ok _ hxm).2.2).mono ?_
      rintro e w5 ⟨rfl, hk5⟩
      go_wp2_with fail
      go_ret
      obtain ⟨hB5, hG⟩ := hB0.both (hk1.andThen k12 (fun _ _ f => f.elim)) (hN1.grew k12) (fun b hb => .inl (HV.out ▸ hb)) hk3 hR3 (fun b hb => by
        rcases hnl b hb with q | q
        · exact .inl q
        · exact .inr q) (NewL.refl _ _) (core_erase hB.same i) hB.sent (Nat.le_succ_of_le hB.len) (hB.inv.off HX.out) (fun q hq => hB.ok q (List.mem_of_mem_eraseIdx hq)) (fun q hq => hB.data q (List.mem_of_mem_eraseIdx hq))
      exact ⟨ret_bool (by simp [HC.out]), _, (hB5.grew k34).grew hk5, ((Goes.none k0).trans hG).trans (Goes.none (k34.trans hk5))⟩
end Go.Proofs.Ytcplogdaepmpnaa
