/- cairnref16.Deliver. -/
import Derived.Test.YtcplogdaepmpnaaRefDouble
namespace Go.Proofs.Ytcplogdaepmpnaa
open Go.RowKit Go.Maps Go.ChangeMaps Go.WideElems

def RDeliverEnd (r base : Nat) (v u : Value) (L : Way) (S : List Ad) (a : Ad) (c : Int) (w : World) (e : Ending) (w' : World) : Prop :=
  (placeP (L.map (·.1)) a c = -1 ∧ e = .returned (.tuple #[zeroP.val, .int .i64 150]) ∧ Keeps None w w') ∨
  ∃ (i : Nat) (x : Pk) (zs : List Int) (v' : Value), placeP (L.map (·.1)) a c = (i : Int) ∧ L[i]? = some (x, zs) ∧ e = .returned (.tuple #[x.val, .int .i64 0]) ∧ Rn w' r base v' u (L.eraseIdx i) S ∧ NewL v v' w ∧ Keeps (MineR r v u) w w'

theorem not_own {v : Value} {b n : Nat} (h : v.ownBlock = (Value.slice Option.none 0 0).ownBlock ∨ v.ownBlock = some n) (hb : b < n) : ¬ OwnB v b := fun e => by
  rcases h with h | h
  · rw [show v.ownBlock = some b from e] at h
    cases h
  · rw [show v.ownBlock = some b from e] at h
    have := Option.some.inj h
    omega
theorem row_cells {w : World} {base e s n c g o : Nat} {xs : List Value} (h : w.ownsRow base e s (.slice (some ⟨g, o, Option.none⟩) n c) n xs) (j : Nat) (u : Value) (hu : xs[j]? = some u) : w.cell? ⟨g, o + j, Option.none⟩ = some u := by
  rcases h.2 with ⟨e1, _⟩ | ⟨g', cap', cur, e1, hb, hg, hn, hcap, hsz, hcur⟩
  · cases e1
  · cases e1
    rw [Nat.zero_add, cell_of_row w g j cur _ _ hg]
    rw [← hcur, List.getElem?_take] at hu
    split at hu
    · simpa using hu
    · cases hu

set_option maxRecDepth 100000 in
set_option maxHeartbeats 4000000 in
theorem rdeliver_any {r base : Nat} {v u : Value} {L : Way} {S : List Ad} (a : Ad) (c : Int) (w : World) (hR : Rn w r base v u L S) (hn : L.length ≤ 1000000000000) :
    Calls Try.prog 37 #[.pointer (some ⟨r, 0, Option.none⟩), adV a, .int .i64 c] w (RDeliverEnd r base v u L S a c w) := by
  obtain ⟨i0, hi, hz0, hz1, hz2⟩ := info_parts infoPkAll
  have kA := (Keeps.refl None w).alloc (.cells #[.bool a.1, .int .i64 a.2] 27)
  have hA := (Blk.new w 27 [.bool a.1, .int .i64 a.2]).alloc (.cells #[.bool false, .int .i64 0, .int .i64 0, .bool false, .int .i64 0, .slice Option.none 0 0] 33)
  have k0 := kA.alloc (.cells #[.bool false, .int .i64 0, .int .i64 0, .bool false, .int .i64 0, .slice Option.none 0 0] 33)
  have hZ : Blk ((w.alloc (.cells #[.bool a.1, .int .i64 a.2] 27)).alloc (.cells #[.bool false, .int .i64 0, .int .i64 0, .bool false, .int .i64 0, .slice Option.none 0 0] 33)) (w.heap.size + 1) 33 [.bool false, .int .i64 0, .int .i64 0, .bool false, .int .i64 0, .slice Option.none 0 0] := by
    have := Blk.new (w.alloc (.cells #[.bool a.1, .int .i64 a.2] 27)) 33 [.bool false, .int .i64 0, .int .i64 0, .bool false, .int .i64 0, .slice Option.none 0 0]
    simpa using this
  have a0 := hA.cell 0 _ rfl
  have a1 := hA.cell 1 _ rfl
  have hR0 := hR.grew k0
  rcases placeP_cases L a c with hp | ⟨i, x, zs, hp, hx, _⟩
  · have HP := Lib.hid hp
    clear hp
    simp only [adV]
    go_enter Try.func37, Try.ntmps37
    go_wp2_with fail
    refine (rplace_any a c _ hR0 (by omega)).mono ?_
    rintro e w1 ⟨rfl, hk1⟩
    rw [HP.out]
    have hZ1 := hZ.grew hk1
    go_wp2_with (first
      | (with_reducible refine wpList_store_pk rfl (.tmp 6) (.tmp 17) rfl (w.heap.size + 1) zeroP rfl rfl rfl _ hZ1 rfl ?_; intro w2 hB2 hk2))
    refine bodyPost_ret (results_cell_tmp rfl _ _ (w.heap.size + 1) 33 _ (0, 0) _ rfl hB2.raw Try.underlying33 rfl infoPk) rfl (.inl ⟨HP.out, rfl, (k0.trans hk1).andThen hk2 ?_⟩)
    intro j hj e
    simp only [One] at e
    omega
  · have hil : i < L.length := (List.getElem?_eq_some_iff.1 hx).1
    obtain ⟨gw, cap, rfl, hcap⟩ : ∃ gw cap, v = .slice (some ⟨gw, 0, Option.none⟩) L.length cap ∧ L.length ≤ cap := by
      rcases hR.row.2 with ⟨_, h0⟩ | ⟨gw, cap, cur, e, _, _, h1, _⟩
      · omega
      · exact ⟨gw, cap, e, h1⟩
    have HP := Lib.hid hp
    have HX := Lib.hid hx
    clear hp hx
    simp only [adV]
    go_enter Try.func37, Try.ntmps37
    go_wp2_with fail
    refine (rplace_any a c _ hR0 (by omega)).mono ?_
    rintro e w1 ⟨rfl, hk1⟩
    rw [HP.out]
    have hR1 := hR0.grew hk1
    have hZ1 := hZ.grew hk1
    have c0 := hR1.blk.cell 0 _ rfl
    obtain ⟨b', o', eb, hxr⟩ := (Pks.of_owns hR1.row).1 i x (by rw [List.getElem?_map, HX.out]; rfl)
    obtain ⟨rfl, rfl⟩ : b' = gw ∧ o' = 0 := by cases eb; exact ⟨rfl, rfl⟩
    clear eb
    rw [Nat.zero_add] at hxr
    obtain ⟨Ax, cd, hxd⟩ := hR.data _ (List.mem_of_getElem? HX.out)
    simp only at hxd
    have hd1 : x.dv.oneCell' = true := by rw [hxd]; rfl
    have hY := Blk.new w1 33 [.bool false, .int .i64 0, .int .i64 0, .bool false, .int .i64 0, .slice Option.none 0 0]
    have kY := (Keeps.refl None w1).alloc (.cells #[.bool false, .int .i64 0, .int .i64 0, .bool false, .int .i64 0, .slice Option.none 0 0] 33)
    have hti : (Way.cells (L.take i)).length = i * 6 := by rw [Way.cells_length, List.length_take]; omega
    have hone : ∀ y ∈ L, ∀ q ∈ y.1.cells, q.oneCell' = true := fun y hy q hq => Pk.cells_one (by obtain ⟨A', c', e'⟩ := hR.data y hy; rw [e']; rfl) q hq
    have honeW : ∀ M : Way, (∀ y ∈ M, y ∈ L) → ∀ q ∈ Way.cells M, q.oneCell' = true := fun M hM q hq => by
      obtain ⟨y, hy, hq⟩ := List.mem_flatMap.1 hq
      exact hone y (hM y hy) q hq
    have hcellT : ∀ j q, (Way.cells (L.take i))[j]? = some q → (Way.cells L)[j]? = some q := fun j q hq => by
      rw [← Way.cells_take, List.getElem?_take] at hq
      split at hq
      · exact hq
      · cases hq
    have hT1 := Lib.hid hti
    have hCT := Lib.hid hcellT
    clear hti hcellT
    have hTd := Lib.hid (show (Way.cells (L.drop (i + 1))).length = (L.length - (i + 1)) * 6 by rw [Way.cells_length, List.length_drop])
    have hsrc2 := Lib.hid (show ∀ (j : Nat) (q : Value), (Way.cells (L.drop (i + 1)))[j]? = some q → ∀ w3 : World, w3.ownsRow base 33 6 (.slice (some ⟨b', 0, Option.none⟩) L.length cap) L.length L.cells → w3.cell? ⟨b', (i + 1) * 6 + j, Option.none⟩ = some q from fun j q hq w3 h3 => by
      rw [← Way.cells_drop, List.getElem?_drop] at hq
      have := row_cells h3 _ q hq
      rw [Nat.zero_add] at this
      exact this)
    rcases Nat.eq_or_lt_of_le (show i + 1 ≤ cap by omega) with hc | hc
    · subst hc
      have HLi := Lib.hid (show L.length = i + 1 by omega)
      go_wp2_with (first
        | (with_reducible refine wpList_load_pk rfl (.tmp 23) rfl b' (i * 6) x rfl hxr ?_)
        | (with_reducible refine wpList_store_pk rfl (.tmp 9) (.tmp 24) rfl w1.heap.size x rfl rfl hd1 _ hY rfl ?_; intro w2 hB2 hk2; have k12 : Keeps None w1 w2 := kY.andThen hk2 (fun j hj e => by simp only [One] at e; omega); have hR2 := hR1.grew k12; have c02 := hR2.blk.cell 0 _ rfl)
        | (at_builtin; refine wpList_append_row _ rfl (.tmp 25) (.tmp 31) 39 rfl base 33 i0 _ 6 64 Try.underlying39 hi hz0 hz1 hz2 rfl (by decide) (.slice Option.none 0 0) 0 [] rfl (World.ownsRow_nil _ _ _ _) (some ⟨b', 0, Option.none⟩) i (i + 1) (Way.cells (L.take i)) rfl hT1.out (fun e => by cases e) (fun _ => ⟨_, rfl, fun j q hq => (Addr.add_lit _ _ _).symm ▸ row_cells hR2.row j q (hCT.out j q hq)⟩) (honeW _ (fun y hy => List.mem_of_mem_take hy)) (by unfold maxLen; omega) (by omega) (by have := hR2.blk.lt; have := hR2.hr; omega) ?_; intro v3 w3 hown3 hk3 hloc3; have hk3n : Keeps None w2 w3 := hk3.mono (fun _ _ e => by cases e); have hR3 := hR2.grew hk3n; have c03 := hR3.blk.cell 0 _ rfl; have hown3' : w3.ownsRow base 33 6 v3 i (Way.cells (L.take i)) := (by simpa using hown3))
        | (at_builtin; refine wpList_append_row _ rfl (.tmp 34) (.tmp 41) 39 rfl base 33 i0 _ 6 64 Try.underlying39 hi hz0 hz1 hz2 rfl (by decide) v3 i _ rfl hown3' (some ⟨b', 0, Option.none⟩) 0 0 (Way.cells (L.drop (i + 1))) rfl (by rw [hTd.out, HLi.out]; omega) (fun e => by cases e) (fun h0 => absurd h0 (by rw [hTd.out, HLi.out]; omega)) (honeW _ (fun y hy => List.mem_of_mem_drop hy)) (by unfold maxLen; omega) (by omega) (by have := hR3.blk.lt; have := hR3.hr; omega) ?_; intro v4 w4 hown4 hk4 hloc4; obtain ⟨A4, c4, rfl⟩ := owns_slice hown4; have hbx3 : ¬ OwnB v3 w1.heap.size := not_own hloc3 hB2.lt; have hz3 : ¬ OwnB v3 (w.heap.size + 1) := not_own hloc3 (hZ1.grew k12).lt; have hK5 : Keeps (One r) w4 (w4.setCell ⟨r, 0, Option.none⟩ (.slice A4 i c4)) := (Keeps.refl _ _).setCell _ _ (fun _ => rfl); have hbx5 := ((hB2.grew hk3n).keeps hk4 hbx3).keeps hK5 (fun e => by have h1 := hR1.blk.lt; simp only [One] at e; omega); have hz5 := (((hZ1.grew k12).grew hk3n).keeps hk4 hz3).keeps hK5 (fun e => by have h1 := hR.blk.lt; simp only [One] at e; omega); have hr3 : ¬ OwnB v3 r := (fun e => by obtain ⟨cur, hc⟩ := owns_obj hown3' e; rw [hR3.blk.raw] at hc; cases hc); have hB4r := hR3.blk.keeps hk4 hr3; have fr4 := hB4r.free 0; have c04 := hB4r.cell 0 _ rfl)
        | (with_reducible refine wpList_load_pk rfl (.tmp 9) rfl w1.heap.size 0 x rfl hbx5.pk ?_)
        | (with_reducible refine wpList_store_pk rfl (.tmp 6) (.tmp 45) rfl (w.heap.size + 1) x rfl rfl hd1 _ hz5 rfl ?_; intro w6 hB6 hk6))
      have hown4' : w4.ownsRow base 33 6 (.slice A4 i c4) i (Way.cells (L.take i) ++ Way.cells (L.drop (i + 1))) := hown4
      have hlen : (L.eraseIdx i).length = i := by rw [List.length_eraseIdx_of_lt hil]; have := HLi.out; omega
      have hs1 := (k0.trans hk1).size
      have hs1b := hk1.size
      have hs2 := k12.size
      have hs3 := hk3n.size
      have hs0 : w.heap.size + 1 < ((w.alloc (.cells #[.bool a.1, .int .i64 a.2] 27)).alloc (.cells #[.bool false, .int .i64 0, .int .i64 0, .bool false, .int .i64 0, .slice Option.none 0 0] 33)).heap.size := hZ.lt
      have hv3b : ∀ b, v3.ownBlock = some b → b = w2.heap.size := fun b hb => by
        rcases hloc3 with h | h
        · rw [hb] at h; cases h
        · rw [hb] at h; exact Option.some.inj h
      have hv4b : ∀ b, (Value.slice A4 i c4).ownBlock = some b → w2.heap.size ≤ b := fun b hb => by
        rcases hloc4 with h | h
        · exact Nat.le_of_eq (hv3b b (h.symm.trans hb)).symm
        · have := Option.some.inj (h.symm.trans hb)
          omega
      have hn2 : ∀ b, (Value.slice A4 i c4).ownBlock = some b → ¬ One r b := fun b hb e => by
        obtain ⟨cur, hc⟩ := owns_obj hown4' hb
        rw [show b = r from e, hB4r.raw] at hc
        cases hc
      have hsent4 := owns_keeps hR3.sent hk4 (fun b hb e => rows_apart hown3' hR3.sent (by decide) e hb)
      have hn1 : ∀ b, u.ownBlock = some b → ¬ One r b := fun b hb e => by
        obtain ⟨cur, hc⟩ := owns_obj hsent4 hb
        rw [show b = r from e, hB4r.raw] at hc
        cases hc
      have hB5 := hB4r.set 0 (.slice A4 i c4)
      simp only [List.set] at hB5
      have hrl := hR.blk.lt
      have hrow6 := owns_keeps (owns_keeps hown4' hK5 hn2) hk6 (fun b hb e => by have := hv4b b hb; simp only [One] at e; omega)
      refine bodyPost_ret (results_cell_tmp rfl _ _ (w.heap.size + 1) 33 _ (0, 0) _ rfl hB6.raw Try.underlying33 rfl infoPk) rfl (.inr ⟨i, x, zs, .slice A4 i c4, HP.out, HX.out, rfl, ⟨hB5.keeps hk6 (fun e => by simp only [One] at e; omega), ?_, owns_keeps (owns_keeps hsent4 hK5 hn1) hk6 (fun b hb e => by have := hR.mine_lt b (.inr (.inr hb)); simp only [One] at e; omega), hR.hr, fun y hy => hR.data y (List.mem_of_mem_eraseIdx hy)⟩, fun b hb => .inr (by have := hv4b b hb; omega), ?_⟩)
      · rw [hlen, List.eraseIdx_eq_take_drop_succ, Way.cells_append]
        exact hrow6
      · exact ((((((k0.trans hk1).trans k12).trans hk3n).of_none).andThen hk4 (fun b hb e => by have := hv3b b e; omega)).andThen hK5 (fun b _ e => .inl e)).andThen hk6 (fun b hb e => by simp only [One] at e; omega)
    · have hc' : ¬ cap = i + 1 := by omega
      go_wp2_with (first
        | (with_reducible refine wpList_load_pk rfl (.tmp 23) rfl b' (i * 6) x rfl hxr ?_)
        | (with_reducible refine wpList_store_pk rfl (.tmp 9) (.tmp 24) rfl w1.heap.size x rfl rfl hd1 _ hY rfl ?_; intro w2 hB2 hk2; have k12 : Keeps None w1 w2 := kY.andThen hk2 (fun j hj e => by simp only [One] at e; omega); have hR2 := hR1.grew k12; have c02 := hR2.blk.cell 0 _ rfl)
        | (at_builtin; refine wpList_append_row _ rfl (.tmp 25) (.tmp 31) 39 rfl base 33 i0 _ 6 64 Try.underlying39 hi hz0 hz1 hz2 rfl (by decide) (.slice Option.none 0 0) 0 [] rfl (World.ownsRow_nil _ _ _ _) (some ⟨b', 0, Option.none⟩) i cap (Way.cells (L.take i)) rfl hT1.out (fun e => by cases e) (fun _ => ⟨_, rfl, fun j q hq => (Addr.add_lit _ _ _).symm ▸ row_cells hR2.row j q (hCT.out j q hq)⟩) (honeW _ (fun y hy => List.mem_of_mem_take hy)) (by unfold maxLen; omega) (by omega) (by have := hR2.blk.lt; have := hR2.hr; omega) ?_; intro v3 w3 hown3 hk3 hloc3; have hk3n : Keeps None w2 w3 := hk3.mono (fun _ _ e => by cases e); have hR3 := hR2.grew hk3n; have c03 := hR3.blk.cell 0 _ rfl; have hown3' : w3.ownsRow base 33 6 v3 i (Way.cells (L.take i)) := (by simpa using hown3))
        | (at_builtin; refine wpList_append_row _ rfl (.tmp 34) (.tmp 41) 39 rfl base 33 i0 _ 6 64 Try.underlying39 hi hz0 hz1 hz2 rfl (by decide) v3 i _ rfl hown3' (some ⟨b', (i + 1) * 6, Option.none⟩) (L.length - (i + 1)) (cap - (i + 1)) (Way.cells (L.drop (i + 1))) rfl hTd.out (fun e => by cases e) (fun _ => ⟨_, rfl, fun j q hq => (Addr.add_lit _ _ _).symm ▸ hsrc2.out j q hq w3 hR3.row⟩) (honeW _ (fun y hy => List.mem_of_mem_drop hy)) (by unfold maxLen; omega) (by omega) (by have := hR3.blk.lt; have := hR3.hr; omega) ?_; intro v4 w4 hown4 hk4 hloc4; obtain ⟨A4, c4, rfl⟩ := owns_slice hown4; have hbx3 : ¬ OwnB v3 w1.heap.size := not_own hloc3 hB2.lt; have hz3 : ¬ OwnB v3 (w.heap.size + 1) := not_own hloc3 (hZ1.grew k12).lt; have hK5 : Keeps (One r) w4 (w4.setCell ⟨r, 0, Option.none⟩ (.slice A4 (i + (L.length - (i + 1))) c4)) := (Keeps.refl _ _).setCell _ _ (fun _ => rfl); have hbx5 := ((hB2.grew hk3n).keeps hk4 hbx3).keeps hK5 (fun e => by have h1 := hR1.blk.lt; simp only [One] at e; omega); have hz5 := (((hZ1.grew k12).grew hk3n).keeps hk4 hz3).keeps hK5 (fun e => by have h1 := hR.blk.lt; simp only [One] at e; omega); have hr3 : ¬ OwnB v3 r := (fun e => by obtain ⟨cur, hc⟩ := owns_obj hown3' e; rw [hR3.blk.raw] at hc; cases hc); have hB4r := hR3.blk.keeps hk4 hr3; have fr4 := hB4r.free 0; have c04 := hB4r.cell 0 _ rfl)
        | (with_reducible refine wpList_load_pk rfl (.tmp 9) rfl w1.heap.size 0 x rfl hbx5.pk ?_)
        | (with_reducible refine wpList_store_pk rfl (.tmp 6) (.tmp 45) rfl (w.heap.size + 1) x rfl rfl hd1 _ hz5 rfl ?_; intro w6 hB6 hk6))
      have hown4' : w4.ownsRow base 33 6 (.slice A4 (i + (L.length - (i + 1))) c4) (i + (L.length - (i + 1))) (Way.cells (L.take i) ++ Way.cells (L.drop (i + 1))) := hown4
      have hlen : (L.eraseIdx i).length = (i + (L.length - (i + 1))) := by rw [List.length_eraseIdx_of_lt hil]; omega
      have hs1 := (k0.trans hk1).size
      have hs1b := hk1.size
      have hs2 := k12.size
      have hs3 := hk3n.size
      have hs0 : w.heap.size + 1 < ((w.alloc (.cells #[.bool a.1, .int .i64 a.2] 27)).alloc (.cells #[.bool false, .int .i64 0, .int .i64 0, .bool false, .int .i64 0, .slice Option.none 0 0] 33)).heap.size := hZ.lt
      have hv3b : ∀ b, v3.ownBlock = some b → b = w2.heap.size := fun b hb => by
        rcases hloc3 with h | h
        · rw [hb] at h; cases h
        · rw [hb] at h; exact Option.some.inj h
      have hv4b : ∀ b, (Value.slice A4 (i + (L.length - (i + 1))) c4).ownBlock = some b → w2.heap.size ≤ b := fun b hb => by
        rcases hloc4 with h | h
        · exact Nat.le_of_eq (hv3b b (h.symm.trans hb)).symm
        · have := Option.some.inj (h.symm.trans hb)
          omega
      have hn2 : ∀ b, (Value.slice A4 (i + (L.length - (i + 1))) c4).ownBlock = some b → ¬ One r b := fun b hb e => by
        obtain ⟨cur, hc⟩ := owns_obj hown4' hb
        rw [show b = r from e, hB4r.raw] at hc
        cases hc
      have hsent4 := owns_keeps hR3.sent hk4 (fun b hb e => rows_apart hown3' hR3.sent (by decide) e hb)
      have hn1 : ∀ b, u.ownBlock = some b → ¬ One r b := fun b hb e => by
        obtain ⟨cur, hc⟩ := owns_obj hsent4 hb
        rw [show b = r from e, hB4r.raw] at hc
        cases hc
      have hB5 := hB4r.set 0 (.slice A4 (i + (L.length - (i + 1))) c4)
      simp only [List.set] at hB5
      have hrl := hR.blk.lt
      have hrow6 := owns_keeps (owns_keeps hown4' hK5 hn2) hk6 (fun b hb e => by have := hv4b b hb; simp only [One] at e; omega)
      refine bodyPost_ret (results_cell_tmp rfl _ _ (w.heap.size + 1) 33 _ (0, 0) _ rfl hB6.raw Try.underlying33 rfl infoPk) rfl (.inr ⟨i, x, zs, .slice A4 (i + (L.length - (i + 1))) c4, HP.out, HX.out, rfl, ⟨hB5.keeps hk6 (fun e => by simp only [One] at e; omega), ?_, owns_keeps (owns_keeps hsent4 hK5 hn1) hk6 (fun b hb e => by have := hR.mine_lt b (.inr (.inr hb)); simp only [One] at e; omega), hR.hr, fun y hy => hR.data y (List.mem_of_mem_eraseIdx hy)⟩, fun b hb => .inr (by have := hv4b b hb; omega), ?_⟩)
      · rw [hlen, List.eraseIdx_eq_take_drop_succ, Way.cells_append]
        exact hrow6
      · exact ((((((k0.trans hk1).trans k12).trans hk3n).of_none).andThen hk4 (fun b hb e => by have := hv3b b e; omega)).andThen hK5 (fun b _ e => .inl e)).andThen hk6 (fun b hb e => by simp only [One] at e; omega)
end Go.Proofs.Ytcplogdaepmpnaa
