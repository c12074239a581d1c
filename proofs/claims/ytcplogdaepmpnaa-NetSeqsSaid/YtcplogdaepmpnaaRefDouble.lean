/- cairnref16.Double. Its region printed by wip/region3.py (conf/c_rdouble6.py). -/
import Derived.Test.YtcplogdaepmpnaaRefSend
namespace Go.Proofs.Ytcplogdaepmpnaa
open Go.RowKit Go.Maps Go.ChangeMaps Go.WideElems Go.Proofs.YtcplogdaepmpnaaW.PrintLast

def RDoubleEnd (r base : Nat) (v u : Value) (L : Way) (S : List Ad) (a : Ad) (c : Int) (w : World) (e : Ending) (w' : World) : Prop :=
  (placeP (L.map (·.1)) a c = -1 ∧ e = .returned (.int .i64 150) ∧ Keeps None w w') ∨
  ∃ (i : Nat) (x : Pk) (zs : List Int), placeP (L.map (·.1)) a c = (i : Int) ∧ L[i]? = some (x, zs) ∧ e = .returned (.int .i64 0) ∧
    ((64 ≤ pairsF L x.pair ∧ Keeps None w w') ∨ (pairsF L x.pair < 64 ∧ ∃ v', Rn w' r base v' u (L ++ [(x, zs)]) S ∧ NewL v v' w ∧ Keeps (MineR r v u) w w'))

set_option maxRecDepth 100000 in
set_option maxHeartbeats 4000000 in
theorem rdouble_any {r base : Nat} {v u : Value} {L : Way} {S : List Ad} (a : Ad) (c : Int) (w : World) (hR : Rn w r base v u L S) (hn : L.length ≤ 1099511627776) :
    Calls Try.prog 38 #[.pointer (some ⟨r, 0, Option.none⟩), adV a, .int .i64 c] w (RDoubleEnd r base v u L S a c w) := by
  obtain ⟨i0, hi, hz0, hz1, hz2⟩ := info_parts infoPkAll
  have k0 := (Keeps.refl None w).alloc (.cells #[.bool a.1, .int .i64 a.2] 27)
  have hA := Blk.new w 27 [.bool a.1, .int .i64 a.2]
  have a0 := hA.cell 0 _ rfl
  have a1 := hA.cell 1 _ rfl
  rcases placeP_cases L a c with hp | ⟨i, x, zs, hp, hx, _⟩
  · have HP := Lib.hid hp
    clear hp
    simp only [adV]
    go_enter Try.func38, Try.ntmps38
    go_wp2_with fail
    refine (rplace_any a c _ (hR.grew k0) (by omega)).mono ?_
    rintro e w1 ⟨rfl, hk1⟩
    rw [HP.out]
    go_wp2_with fail
    go_ret
    exact .inl ⟨HP.out, rfl, k0.trans hk1⟩
  · have hil : i < L.length := (List.getElem?_eq_some_iff.1 hx).1
    obtain ⟨gw, cap, rfl⟩ : ∃ gw cap, v = .slice (some ⟨gw, 0, Option.none⟩) L.length cap := by
      rcases hR.row.2 with ⟨_, h0⟩ | ⟨gw, cap, cur, e, _⟩
      · omega
      · exact ⟨gw, cap, e⟩
    have HP := Lib.hid hp
    have HX := Lib.hid hx
    clear hp hx
    simp only [adV]
    go_enter Try.func38, Try.ntmps38
    go_wp2_with fail
    refine (rplace_any a c _ (hR.grew k0) (by omega)).mono ?_
    rintro e w1 ⟨rfl, hk1⟩
    rw [HP.out]
    have hR1 := (hR.grew k0).grew hk1
    have c0 := hR1.blk.cell 0 _ rfl
    obtain ⟨b', o', eb, hxr⟩ := (Pks.of_owns hR1.row).1 i x (by rw [List.getElem?_map, HX.out]; rfl)
    obtain ⟨rfl, rfl⟩ : b' = gw ∧ o' = 0 := by cases eb; exact ⟨rfl, rfl⟩
    clear eb
    rw [Nat.zero_add] at hxr
    obtain ⟨Ax, cd, hxd⟩ := hR.data _ (List.mem_of_getElem? HX.out)
    simp only at hxd
    have hd1 : x.dv.oneCell' = true := by rw [hxd]; rfl
    have hY := Blk.new w1 33 [.bool false, .int .i64 0, .int .i64 0, .bool false, .int .i64 0, .slice Option.none 0 0]
    have kY := (Keeps.refl None w1).alloc (.cells #[.bool false, .int .i64 0, .int .i64 0, .bool false, .int .i64 0, .slice Option.none 0 0] 33)
    obtain ⟨⟨f1, f2⟩, ct, ⟨t1, t2⟩, dv⟩ := x
    simp only at hxd hd1
    subst hxd
    go_wp2_with (first
      | (with_reducible refine wpList_load_pk rfl (.tmp 20) rfl b' (i * 6) ⟨(f1, f2), ct, (t1, t2), .slice Ax zs.length cd⟩ rfl hxr ?_; simp only [Pk.val])
      | (with_reducible refine wpList_store_pk rfl (.tmp 8) (.tmp 21) rfl w1.heap.size ⟨(f1, f2), ct, (t1, t2), .slice Ax zs.length cd⟩ rfl rfl hd1 _ hY rfl ?_; intro w2 hB2 hk2; have d0 := hB2.cell 0 _ rfl; have d1 := hB2.cell 1 _ rfl; have d3 := hB2.cell 3 _ rfl; have d4 := hB2.cell 4 _ rfl))
    have k12 : Keeps None w1 w2 := kY.andThen hk2 (fun j hj e => by simp only [One] at e; omega)
    have hR2 := hR1.grew k12
    refine (rpair_any (f1, f2) (t1, t2) w2 hR2 hn).mono ?_
    rintro e w4 ⟨rfl, hk4⟩
    have kall : Keeps None w w4 := ((k0.trans hk1).trans k12).trans hk4
    by_cases h64 : 64 ≤ pairsF L ((f1, f2), (t1, t2))
    · have h64' : ¬ (pairsF L ((f1, f2), (t1, t2)) : Int) < 64 := by omega
      go_wp2_with fail
      go_ret
      exact .inr ⟨i, _, zs, HP.out, HX.out, rfl, .inl ⟨h64, kall⟩⟩
    · have h64' : (pairsF L ((f1, f2), (t1, t2)) : Int) < 64 := by omega
      have hR4 := hR2.grew hk4
      have hB4 := hB2.grew hk4
      have hrv : ¬ OwnB (.slice (some ⟨b', 0, Option.none⟩) L.length cap) r := fun e => by
        obtain ⟨cur, hc⟩ := owns_obj hR4.row e
        rw [hR4.blk.raw] at hc
        cases hc
      have hs1 := (k0.trans hk1).size
      have hbv : ¬ OwnB (.slice (some ⟨b', 0, Option.none⟩) L.length cap) w1.heap.size := fun e => by have := hR.mine_lt _ (.inr (.inl e)); omega
      go_wp2_with fail
      obtain ⟨bx, ebx⟩ : ∃ bx, bx = w1.heap.size := ⟨_, rfl⟩
      rw [← ebx] at hB4 hbv ⊢
      refine start_ (ds := [10]) (S := (fun w' => Keeps (OwnB (.slice (some ⟨b', 0, Option.none⟩) L.length cap)) w4 w')) #[false, false, false, false, false, false, false, false, false, false, false] (by kernel_rfl) rfl rfl ((Keeps.refl _ _).drew) (fun hS0 => ?_)
      refine pure_ (i := 0) (N := some 29) (v := .pointer (some ⟨r, 0, Option.none⟩)) #[true, false, false, false, false, false, false, false, false, false, false] rfl rfl (by kernel_rfl) (fun _ _ _ h => h) (Or.inl ⟨wanted_none rfl, fun w => by rfl⟩) rfl ?_
      try simp only [Act.put, List.setIfInBounds_toArray, List.set_cons_zero, List.set_cons_succ]
      refine pure_ (i := 1) (N := some 30) (v := .pointer (some ⟨r, 0, Option.none⟩)) #[true, true, false, false, false, false, false, false, false, false, false] rfl rfl (by kernel_rfl) (fun _ _ _ h => h) (Or.inl ⟨wanted_none rfl, fun w => by rfl⟩) rfl ?_
      try simp only [Act.put, List.setIfInBounds_toArray, List.set_cons_zero, List.set_cons_succ]
      refine pure_ (i := 2) (N := some 31) (v := .pointer (some ⟨r, 0, Option.none⟩)) #[true, true, true, false, false, false, false, false, false, false, false] rfl rfl (by kernel_rfl) (fun _ _ _ h => h) (Or.inl ⟨wanted_none rfl, fun w => by go_simp⟩) rfl ?_
      try simp only [Act.put, List.setIfInBounds_toArray, List.set_cons_zero, List.set_cons_succ]
      refine pure_ (i := 3) (N := some 32) (v := .pointer (some ⟨r, 0, Option.none⟩)) #[true, true, true, true, false, false, false, false, false, false, false] rfl rfl (by kernel_rfl) (fun _ _ _ h => h) (Or.inl ⟨wanted_none rfl, fun w => by go_simp⟩) rfl ?_
      try simp only [Act.put, List.setIfInBounds_toArray, List.set_cons_zero, List.set_cons_succ]
      refine take_ (i := 4) (N := some 33) (v := .slice (some ⟨b', 0, Option.none⟩) L.length cap) #[true, true, true, true, true, false, false, false, false, false, false] rfl rfl (by kernel_rfl) (fun _ _ _ h => h) (Or.inl ⟨wanted_none rfl, by intro w' hSw; have q := (hR4.blk.keeps hSw hrv).cell 0 _ rfl; go_simp⟩) hS0 rfl ?_
      try simp only [Act.put, List.setIfInBounds_toArray, List.set_cons_zero, List.set_cons_succ]
      refine take_ (i := 5) (N := some 34) (v := .agg #[.bool f1, .int .i64 f2, .int .i64 ct, .bool t1, .int .i64 t2, .slice Ax zs.length cd]) #[true, true, true, true, true, true, false, false, false, false, false] rfl rfl (by kernel_rfl) (fun _ _ _ h => h) (Or.inl ⟨wanted_none rfl, by intro w' hSw; exact exec_load_pk (.tmp 8) rfl bx 0 ⟨(f1, f2), ct, (t1, t2), .slice Ax zs.length cd⟩ rfl (hB4.pk.keeps hSw hbv)⟩) hS0 rfl ?_
      try simp only [Act.put, List.setIfInBounds_toArray, List.set_cons_zero, List.set_cons_succ]
      have hbs := Blk.new w4.drew 33 [.bool f1, .int .i64 f2, .int .i64 ct, .bool t1, .int .i64 t2, .slice Ax zs.length cd]
      have ks : Keeps None w4 (w4.drew.alloc (.cells #[.bool f1, .int .i64 f2, .int .i64 ct, .bool t1, .int .i64 t2, .slice Ax zs.length cd] 33)) := ((Keeps.refl _ _).drew).alloc _
      refine one_ (i := 6) (oi := ({ dst := some 35, op := Op.buildSlice 39 1 #[(0, Operand.tmp 34)], type := 39, pos := "ref.go:79", after := #[{ on := 5, ground := Ground.data }], guard := Option.none } : Oper)) (N := some 35) #[true, true, true, true, true, true, true, false, false, false, false] rfl rfl (by kernel_rfl) (by decide) ?_
      intro KK hKK
      refine value_ (wanted_none rfl) rfl (w1 := w4.drew.alloc (.cells #[.bool f1, .int .i64 f2, .int .i64 ct, .bool t1, .int .i64 t2, .slice Ax zs.length cd] 33)) (v := .slice (some ⟨w4.drew.heap.size, 0, Option.none⟩) 1 1) (by go_simp) (hKK.out _ _ ks.of_none (fun hS1 => ?_))
      try simp only [Act.put, List.setIfInBounds_toArray, List.set_cons_zero, List.set_cons_succ]
      refine one_ (i := 7) (oi := ({ dst := some 36, op := Op.call { callee := Callee.builtin Builtin.append, args := #[Operand.tmp 33, Operand.tmp 35], argTypes := #[39, 39] }, type := 39, pos := "ref.go:79", after := #[{ on := 4, ground := Ground.data }, { on := 6, ground := Ground.data }], guard := Option.none } : Oper)) (N := some 36) #[true, true, true, true, true, true, true, true, false, false, false] rfl rfl (by kernel_rfl) (by decide) ?_
      intro KK hKK
      refine step_append_row _ (wanted_none rfl) rfl (.tmp 33) (.tmp 35) 39 rfl base 33 i0 _ 6 64 Try.underlying39 hi hz0 hz1 hz2 rfl (by decide) (.slice (some ⟨b', 0, Option.none⟩) L.length cap) L.length L.cells rfl (owns_grew hR4.row ks) (some ⟨w4.drew.heap.size, 0, Option.none⟩) 1 1 [.bool f1, .int .i64 f2, .int .i64 ct, .bool t1, .int .i64 t2, .slice Ax zs.length cd] rfl rfl (fun e => by cases e) (src_cells hbs) (Pk.cells_one (p := ⟨(f1, f2), ct, (t1, t2), .slice Ax zs.length cd⟩) rfl) (by unfold maxLen; omega) (by omega) (by have := ks.size; have := hR4.blk.lt; have := hR4.hr; omega) ?_
      intro v' w6 hown6 hk6 hloc6
      obtain ⟨A6, c6, rfl⟩ := owns_slice hown6
      refine hKK.out _ _ (hS1.andThen hk6 (fun _ _ e => e)) (fun hS2 => ?_)
      try simp only [Act.put, List.setIfInBounds_toArray, List.set_cons_zero, List.set_cons_succ]
      refine pure_ (i := 8) (N := some 37) (v := .pointer (some ⟨r, 0, Option.none⟩)) #[true, true, true, true, true, true, true, true, true, false, false] rfl rfl (by kernel_rfl) (fun _ _ _ h => h) (Or.inl ⟨wanted_none rfl, fun w => by go_simp⟩) rfl ?_
      try simp only [Act.put, List.setIfInBounds_toArray, List.set_cons_zero, List.set_cons_succ]
      refine pure_ (i := 9) (N := some 38) (v := .pointer (some ⟨r, 0, Option.none⟩)) #[true, true, true, true, true, true, true, true, true, true, false] rfl rfl (by kernel_rfl) (fun _ _ _ h => h) (Or.inl ⟨wanted_none rfl, fun w => by go_simp⟩) rfl ?_
      try simp only [Act.put, List.setIfInBounds_toArray, List.set_cons_zero, List.set_cons_succ]
      have hB6 := hR4.blk.keeps hS2 hrv
      have fr6 := hB6.free 0
      have hc6 := hB6.cell 0 _ rfl
      refine last_ (i := 10) (oi := ({ dst := Option.none, op := Op.store 39 (Operand.tmp 38) (Operand.tmp 36), type := 0, pos := "ref.go:79", after := #[{ on := 9, ground := Ground.data }, { on := 7, ground := Ground.data }, { on := 7, ground := Ground.chain }, { on := 0, ground := Ground.phase }, { on := 1, ground := Ground.phase }, { on := 2, ground := Ground.phase }, { on := 3, ground := Ground.phase }, { on := 4, ground := Ground.phase }, { on := 5, ground := Ground.phase }, { on := 6, ground := Ground.phase }, { on := 7, ground := Ground.phase }], guard := Option.none } : Oper)) (N := Option.none) #[true, true, true, true, true, true, true, true, true, true, true] rfl rfl (by kernel_rfl) (by decide) ?_
      intro KK hKK
      refine skip_ (wanted_none rfl) rfl (w1 := w6.setCell ⟨r, 0, Option.none⟩ (.slice A6 (L.length + 1) c6)) (by go_simp) (hKK.out _ _ ?_)
      try simp only [Act.put, List.setIfInBounds_toArray, List.set_cons_zero, List.set_cons_succ]
      refine done_ (by kernel_rfl) ?_
      have hw6 : Keeps (One r) w6 (w6.setCell ⟨r, 0, Option.none⟩ (.slice A6 (L.length + 1) c6)) := (Keeps.refl _ _).setCell _ _ (fun _ => rfl)
      have hB7 := hB6.set 0 (.slice A6 (L.length + 1) c6)
      simp only [List.set] at hB7
      have hsent6 := owns_keeps hR4.sent hS2 (fun b hb e => rows_apart hR4.row hR4.sent (by decide) e hb)
      have hn1 : ∀ b, u.ownBlock = some b → ¬ One r b := fun b hb e => by
        obtain ⟨cur, hc⟩ := owns_obj hsent6 hb
        rw [show b = r from e, hB6.raw] at hc
        cases hc
      have hn2 : ∀ b, (Value.slice A6 (L.length + 1) c6).ownBlock = some b → ¬ One r b := fun b hb e => by
        obtain ⟨cur, hc⟩ := owns_obj hown6 hb
        rw [show b = r from e, hB6.raw] at hc
        cases hc
      have hR7 : Rn (w6.setCell ⟨r, 0, Option.none⟩ (.slice A6 (L.length + 1) c6)) r base (.slice A6 (L.length + 1) c6) u (L ++ [((⟨(f1, f2), ct, (t1, t2), .slice Ax zs.length cd⟩ : Pk), zs)]) S :=
        ⟨hB7, by
          have := owns_keeps hown6 hw6 hn2
          rw [Way.cells_append, List.length_append]
          exact this, owns_keeps hsent6 hw6 hn1, hR4.hr, fun y hy => by
          rcases List.mem_append.1 hy with h | h
          · exact hR4.data y h
          · obtain rfl := List.mem_singleton.1 h
            exact ⟨Ax, cd, rfl⟩⟩
      have kall7 := ((kall.of_none (S := MineR r (.slice (some ⟨b', 0, Option.none⟩) L.length cap) u)).andThen hS2 (fun b _ e => .inr (.inl e))).andThen hw6 (fun b _ e => .inl e)
      have hnlv : NewL (.slice (some ⟨b', 0, Option.none⟩) L.length cap) (.slice A6 (L.length + 1) c6) w := fun b hb => by
        rcases hloc6 with h | h
        · exact .inl (h ▸ hb)
        · rw [hb] at h
          have h1 := Option.some.inj h
          have h2 := ks.size
          have h3 := kall.size
          exact .inr (by omega)
      generalize w6.setCell ⟨r, 0, Option.none⟩ (.slice A6 (L.length + 1) c6) = w7 at hR7 kall7 ⊢
      clear hw6 hB7 hB6 hc6 fr6
      go_wp2_with fail
      go_ret
      exact .inr ⟨i, _, zs, HP.out, HX.out, rfl, .inr ⟨by show pairsF L ((f1, f2), (t1, t2)) < 64; omega, _, hR7, hnlv, kall7⟩⟩
end Go.Proofs.Ytcplogdaepmpnaa
