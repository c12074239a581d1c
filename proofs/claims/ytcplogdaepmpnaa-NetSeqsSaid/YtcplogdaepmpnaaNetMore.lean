/- Lose and Double. -/
import Derived.Test.YtcplogdaepmpnaaNetDeliver
namespace Go.Proofs.Ytcplogdaepmpnaa
open Go.RowKit Go.Maps Go.ChangeMaps Go.WideElems

def LoseEnd (g base : Nat) (v : Value) (m1 m2 : Nat) (L : Way) (n : Nat) (sn : Ad → Int) (mn : Pr → Int) (a : Ad) (c : Int) (w : World) (e : Ending) (w' : World) : Prop :=
  (placeP (L.map (·.1)) a c = -1 ∧ e = .returned (.int .i64 150) ∧ Keeps None w w') ∨
  ∃ (i : Nat) (x : Pk) (zs : List Int) (v' : Value), placeP (L.map (·.1)) a c = (i : Int) ∧ L[i]? = some (x, zs) ∧ e = .returned (.int .i64 0) ∧ Nt w' g base v' m1 m2 (L.eraseIdx i) (n + 1) sn (upd mn x.pair (mn x.pair - 1)) ∧
    Keeps (Mine g m1 m2 v) w w' ∧ v'.ownBlock = v.ownBlock

theorem Nt.dv_one {w : World} {g base : Nat} {v : Value} {m1 m2 : Nat} {L : Way} {n : Nat} {sn : Ad → Int} {mn : Pr → Int} (h : Nt w g base v m1 m2 L n sn mn) {x : Pk} {zs : List Int} (hx : (x, zs) ∈ L) : x.dv.oneCell' = true := by
  obtain ⟨A', c', h'⟩ := (h.bytes _ hx).slice
  rw [show x.dv = _ from h']
  rfl

set_option maxRecDepth 100000 in
set_option maxHeartbeats 1600000 in
theorem lose_any (g base : Nat) (v : Value) (m1 m2 : Nat) (L : Way) (n : Nat) (sn : Ad → Int) (mn : Pr → Int) (a : Ad) (c : Int) (w : World) (hN : Nt w g base v m1 m2 L n sn mn)
    (hL : ∀ x ∈ L, IntV x.1.fr.2 ∧ IntV x.1.to.2 ∧ 0 ≤ mn x.1.pair) (hn : n ≤ 1099511627776) :
    Calls Try.prog 24 #[.pointer (some ⟨g, 0, Option.none⟩), adV a, .int .i64 c] w (LoseEnd g base v m1 m2 L n sn mn a c w) := by
  have hgl := hN.blk.lt
  have hsl := hN.sent.lt
  have hml := hN.many.lt
  have hvl : ∀ b, v.ownBlock = some b → b < w.heap.size := fun b hb => (World.ownsRow.lt hN.row b hb).2
  have k0 := (Keeps.refl None w).alloc (.cells #[.bool a.1, .int .i64 a.2] 27)
  have hA := Blk.new w 27 [.bool a.1, .int .i64 a.2]
  have a0 := hA.cell 0 _ rfl
  have a1 := hA.cell 1 _ rfl
  simp only [adV]
  go_enter Try.func24, Try.ntmps24
  go_wp2_with fail
  refine (deliver_any g base v m1 m2 L n sn mn a c _ (hN.grew k0) hL hn).mono ?_
  rintro e w1 (⟨hp, rfl, hk1⟩ | ⟨i, x, zs, v', hp, hx, rfl, hN1, hk1, hv'⟩)
  · have HP := Lib.hid hp
    clear hp
    have hY := Blk.new w1 33 [.bool false, .int .i64 0, .int .i64 0, .bool false, .int .i64 0, .slice Option.none 0 0]
    have k2 := (Keeps.refl None w1).alloc (.cells #[.bool false, .int .i64 0, .int .i64 0, .bool false, .int .i64 0, .slice Option.none 0 0] 33)
    go_wp2_with (first
      | (with_reducible refine wpList_store_pk rfl (.tmp 7) (.tmp 14) rfl w1.heap.size zeroP rfl rfl rfl _ hY rfl ?_; intro w2 hB2 hk2))
    go_ret
    exact .inl ⟨HP.out, rfl, ((k0.trans hk1).trans k2).andThen hk2 (fun j hj e => by have := (k0.trans hk1).size; simp only [One] at e; omega)⟩
  · have HP := Lib.hid hp
    have HX := Lib.hid hx
    have hd := hN.dv_one (List.mem_of_getElem? hx)
    clear hp hx
    have hY := Blk.new w1 33 [.bool false, .int .i64 0, .int .i64 0, .bool false, .int .i64 0, .slice Option.none 0 0]
    have k2 := (Keeps.refl None w1).alloc (.cells #[.bool false, .int .i64 0, .int .i64 0, .bool false, .int .i64 0, .slice Option.none 0 0] 33)
    go_wp2_with (first
      | (with_reducible refine wpList_store_pk rfl (.tmp 7) (.tmp 14) rfl w1.heap.size x rfl rfl hd _ hY rfl ?_; intro w2 hB2 hk2))
    go_ret
    have k3 : Keeps None w1 w2 := k2.andThen hk2 (fun j hj e => by simp only [One] at e; omega)
    exact .inr ⟨i, x, zs, v', HP.out, HX.out, rfl, hN1.grew k3, (k0.of_none.andThen hk1 (fun _ _ e => e)).andThen k3 (fun _ _ f => f.elim), hv'⟩

def DoubleEnd (g base : Nat) (v : Value) (m1 m2 : Nat) (L : Way) (n : Nat) (sn : Ad → Int) (mn : Pr → Int) (a : Ad) (c : Int) (w : World) (e : Ending) (w' : World) : Prop :=
  (placeP (L.map (·.1)) a c = -1 ∧ e = .returned (.int .i64 150) ∧ Keeps None w w') ∨
  ∃ (i : Nat) (x : Pk) (zs : List Int), placeP (L.map (·.1)) a c = (i : Int) ∧ L[i]? = some (x, zs) ∧ e = .returned (.int .i64 0) ∧
    ((64 ≤ mn x.pair ∧ Keeps None w w') ∨
     (mn x.pair < 64 ∧ ∃ v' d, Nt w' g base v' m1 m2 (L ++ [({x with dv := d}, zs)]) (n + 1) sn (upd mn x.pair (mn x.pair + 1)) ∧ Keeps (Mine g m1 m2 v) w w' ∧ NewLoc v v' w ∧ ∀ b, d.ownBlock = some b → w.heap.size ≤ b))

set_option maxRecDepth 100000 in
set_option maxHeartbeats 1600000 in
theorem double_any (g base : Nat) (v : Value) (m1 m2 : Nat) (L : Way) (n : Nat) (sn : Ad → Int) (mn : Pr → Int) (a : Ad) (c : Int) (w : World) (hN : Nt w g base v m1 m2 L n sn mn)
    (hL : ∀ x ∈ L, IntV x.1.fr.2 ∧ IntV x.1.to.2 ∧ x.2.length ≤ 140737488351232) (hn : n ≤ 1000000000000) :
    Calls Try.prog 13 #[.pointer (some ⟨g, 0, Option.none⟩), adV a, .int .i64 c] w (DoubleEnd g base v m1 m2 L n sn mn a c w) := by
  have hgl := hN.blk.lt
  have hmost := hN.most
  have k0 := (Keeps.refl None w).alloc (.cells #[.bool a.1, .int .i64 a.2] 27)
  have hA := Blk.new w 27 [.bool a.1, .int .i64 a.2]
  have a0 := hA.cell 0 _ rfl
  have a1 := hA.cell 1 _ rfl
  rcases placeP_cases L a c with hp | ⟨i, x, zs, hp, hx, hnm⟩
  · have HP := Lib.hid hp
    clear hp
    simp only [adV]
    go_enter Try.func13, Try.ntmps13
    go_wp2_with fail
    refine (place_any g base v m1 m2 L n sn mn a c _ (hN.grew k0) (by omega)).mono ?_
    rintro e w1 ⟨rfl, hk1⟩
    rw [HP.out]
    go_wp2_with fail
    go_ret
    exact .inl ⟨HP.out, rfl, k0.trans hk1⟩
  · have hil : i < L.length := (List.getElem?_eq_some_iff.1 hx).1
    have hxm : (x, zs) ∈ L := List.mem_of_getElem? hx
    obtain ⟨hok1, hok2, hzl⟩ := hL _ hxm
    obtain ⟨gw, cap, rfl⟩ : ∃ gw cap, v = .slice (some ⟨gw, 0, Option.none⟩) L.length cap := by
      rcases hN.row.2 with ⟨_, h0⟩ | ⟨gw, cap, cur, e, _⟩
      · omega
      · exact ⟨gw, cap, e⟩
    have HP := Lib.hid hp
    have HX := Lib.hid hx
    clear hp hx hnm
    simp only [adV]
    go_enter Try.func13, Try.ntmps13
    go_wp2_with fail
    refine (place_any g base _ m1 m2 L n sn mn a c _ (hN.grew k0) (by omega)).mono ?_
    rintro e w1 ⟨rfl, hk1⟩
    rw [HP.out]
    have hN1 := (hN.grew k0).grew hk1
    have c0 := hN1.blk.cell 0 _ rfl
    obtain ⟨b', o', eb, hxr⟩ := (Pks.of_owns hN1.row).1 i x (by rw [List.getElem?_map, HX.out]; rfl)
    obtain ⟨rfl, rfl⟩ : b' = gw ∧ o' = 0 := by cases eb; exact ⟨rfl, rfl⟩
    clear eb
    rw [Nat.zero_add] at hxr
    go_wp2_with (first
      | (with_reducible refine wpList_load_pk rfl (.tmp 20) rfl b' (i * 6) x rfl hxr ?_))
    have hbx := hN1.bytes _ hxm
    obtain ⟨Ax, cx, hxd⟩ := hbx.slice
    have hnum : Nums .u8 w1 Ax zs := (Nums.row (by rw [← hxd]; exact hbx)).1
    refine (twin_any x Ax zs.length cx zs w1 hxd hnum rfl hzl).mono ?_
    rintro e w2 ⟨dv, rfl, hrow2, hk2⟩
    have hs0 := (k0.trans hk1).size
    have hN2 := hN1.grew hk2
    go_wp2_with fail
    refine (comes_any g base _ m1 m2 L n sn mn {x with dv := dv} zs w2 hN2 (hrow2.rebase (fun b hb => by have := (hrow2.lt b hb).1; have := hN.hg; omega)) (fun y hy b hb e => by have := (hrow2.lt b e).1; have := ((hN.bytes y hy).lt b hb).2; omega) hok1 hok2 (by omega)).mono ?_
    rintro e w3 (⟨hm, rfl, hk3⟩ | ⟨hm, rfl, v', hN3, hk3, hloc⟩)
    · have HM := Lib.hid hm
      clear hm
      go_wp2_with fail
      go_ret
      exact .inr ⟨i, x, zs, HP.out, HX.out, rfl, .inl ⟨HM.out, ((k0.trans hk1).trans hk2).trans hk3⟩⟩
    · have HM := Lib.hid hm
      clear hm
      go_wp2_with fail
      go_ret
      refine .inr ⟨i, x, zs, HP.out, HX.out, rfl, .inr ⟨HM.out, v', dv, hN3, ((k0.trans hk1).trans hk2).of_none.andThen hk3 (fun _ _ e => e), ?_, fun b hb => by have := (hrow2.lt b hb).1; omega⟩⟩
      have hs2 := hk2.size
      rcases hloc with h | ⟨b, h1, h2⟩
      · exact .inl h
      · exact .inr ⟨b, h1, by omega⟩
end Go.Proofs.Ytcplogdaepmpnaa
