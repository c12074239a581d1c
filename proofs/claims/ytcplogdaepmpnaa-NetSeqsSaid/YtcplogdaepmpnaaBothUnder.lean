/- cairnlaw16.World.under: both tell the same under way. The round's region printed by wip/region5.py (conf/c_under7.py). -/
import Derived.Test.YtcplogdaepmpnaaBothDeliver
import Derived.Test.YtcplogdaepmpnaaRoundQuiet
import Derived.StillTailTactics
namespace Go.Proofs.Ytcplogdaepmpnaa
open Go.RowKit Go.Shelf Go.Maps
attribute [local go_sem] Oper.semAt_some

theorem results_u (tmps : Array Value) (w : World) (k : Nat) (b : Bool) (hp : tmps.getD 2 undef = .pointer (some ⟨k, 0, Option.none⟩)) (hc : w.cell? ⟨k, 0, Option.none⟩ = some (.bool b)) :
    (results Try.f21 tmps).run Try.prog w = .ok (.bool b) w := by
  have hp' : tmps[2]?.getD undef = .pointer (some ⟨k, 0, Option.none⟩) := by simpa using hp
  simp [results, Try.results21, go_sem, hp', hc, asAddr]

set_option maxRecDepth 100000 in
set_option maxHeartbeats 4000000 in
theorem bunder_any {w0 : World} {n g m1 m2 r : Nat} {d : Bd} (w : World) (hB : Bo w0 n g m1 m2 r d w) (hn : n ≤ 100000000000) :
    Calls Try.prog 21 #[wV g r] w fun e w' => e = .returned (.bool true) ∧ Keeps None w w' := by
  have kW := (Keeps.refl None w).alloc (.cells #[.pointer (some ⟨g, 0, Option.none⟩), .pointer (some ⟨r, 0, Option.none⟩)] 50)
  have hbW := (Blk.new w 50 [.pointer (some ⟨g, 0, Option.none⟩), .pointer (some ⟨r, 0, Option.none⟩)]).alloc (.cells #[.bool false] 4)
  have k0 := kW.alloc (.cells #[.bool false] 4)
  have hbR : Blk ((w.alloc (.cells #[.pointer (some ⟨g, 0, Option.none⟩), .pointer (some ⟨r, 0, Option.none⟩)] 50)).alloc (.cells #[.bool false] 4)) (w.heap.size + 1) 4 [.bool false] := by
    have := Blk.new (w.alloc (.cells #[.pointer (some ⟨g, 0, Option.none⟩), .pointer (some ⟨r, 0, Option.none⟩)] 50)) 4 [.bool false]
    simpa using this
  have hB0 := hB.grew k0
  have hlt := hB.lt
  have a0 := hbW.cell 0 _ rfl
  have hz : ∀ x ∈ d.L, x.2.length ≤ 140737488351232 := fun x hx => (hB.ok x hx).2.2
  have hmost := hB.net.most
  have hll := hB.lens
  obtain ⟨i0, hi, hz0, hz1, hz2⟩ := info_parts infoPkAll
  simp only [wV]
  refine (callsIn_wide (n := 6)).1 ?_
  refine callsIn_of_wp_marks Try.func21 rfl trivial ?_ rfl
  simp only [Try.ntmps21, List.size_toArray, List.length_cons, List.length_nil, Nat.reduceAdd, Nat.reduceSub, Array.replicate_succ, Array.replicate_zero, List.push_toArray, List.append_toArray, List.nil_append, List.cons_append]
  gi_wp2
  refine ⟨trivial, ?_⟩
  obtain ⟨wA, eA⟩ : ∃ wA, wA = (w.alloc (.cells #[.pointer (some ⟨g, 0, Option.none⟩), .pointer (some ⟨r, 0, Option.none⟩)] 50)).alloc (.cells #[.bool false] 4) := ⟨_, rfl⟩
  rw [← eA] at k0 hbW hbR hB0 a0 ⊢
  clear eA kW
  have hWl := hbW.lt
  have hRl := hbR.lt
  refine (callsIn_wide.2 (under_any g w0.heap.size d.v m1 m2 d.L n d.sn d.mn _ hB0.net (by omega))).mono ?_
  rintro e w1 ⟨bs, A, c, rfl, hS1, hk1, hbs, hAb⟩
  have hq := eq_nilSeq w1 (.func 42) #[] #[.pointer (some ⟨bs, 0, Option.none⟩)]
  have hs1 := hk1.size
  have hB1 := hB0.grew hk1
  have hbW1 := hbW.grew hk1
  have hbR1 := hbR.grew hk1
  have kN := (Keeps.refl None w1).alloc (.cells #[.int .i64 0] 3)
  have hC := Blk.new w1 3 [.int .i64 0]
  have hS := hS1.grew kN
  have hB2 := hB1.grew kN
  have hbW2 := hbW1.grew kN
  have hbR2 := hbR1.grew kN
  obtain ⟨wN, eN⟩ : ∃ wN, wN = w1.alloc (.cells #[.int .i64 0] 3) := ⟨_, rfl⟩
  have hcl := hC.lt
  have hmine := hB2.lt
  have hsN := kN.size
  gi_wp2
  rw [← eN] at hS hB2 hbW2 hbR2 hC kN hcl hmine hsN ⊢
  clear eN
  refine range_good (F := Fence.wide) rfl (by omega) (gf := 42) (lb := #[.pointer (some ⟨bs, 0, Option.none⟩)]) rfl trivial (enters_of Try.func42 (by kernel_rfl) rfl)
    (under1_seq 5 (by omega) bs A c d.L (by omega) hz) (fun _ => rfl) wN.heap.size rfl
    (fun pre W => Blk W w1.heap.size 3 [.int .i64 (pre.length : Int)] ∧ Keeps (One w1.heap.size) wN W) (fun _ _ _ => False) (One w1.heap.size) ⟨fun e => by simp only [One] at e; omega, fun e => by simp only [One] at e; omega⟩
    (fun pre X Y h hk => ⟨h.1.keeps hk (fun e => by simp only [One] at e; omega), h.2.andThen hk (fun i hi e => by simp only [One] at e; omega)⟩) (fun _ _ _ _ h _ => h)
    (fun X Y h hk => hS.beside h hk (fun b e => .inl (by simp only [One] at e; omega))) ⟨hC, Keeps.refl _ _⟩ hS
    (fun x => #[.agg #[.pointer (some ⟨g, 0, Option.none⟩), .pointer (some ⟨r, 0, Option.none⟩)], .pointer (some ⟨w.heap.size, 0, Option.none⟩), .pointer (some ⟨w.heap.size + 1, 0, Option.none⟩), (.func (.func 42) #[] #[.pointer (some ⟨bs, 0, Option.none⟩)]), .pointer (some ⟨w1.heap.size, 0, Option.none⟩), undef, .pointer (some ⟨w.heap.size, 0, Option.none⟩), .pointer (some ⟨g, 0, Option.none⟩), (.func (.func 42) #[] #[.pointer (some ⟨bs, 0, Option.none⟩)]), (.func (.func 42) #[] #[.pointer (some ⟨bs, 0, Option.none⟩)]), .bool false, (.func (.func 42) #[] #[.pointer (some ⟨bs, 0, Option.none⟩)]), x.1.val, undef, undef, undef, undef, undef, undef, undef, undef, undef, undef, undef, undef, undef, undef, undef, undef, undef, undef, undef, undef, undef, undef, undef, undef, undef, undef, undef, undef, undef, undef, undef]) (fun x => by simp [encsU]) ?_ ?_ ?_
  · rintro pre x W0 W ⟨hb0, hK0⟩ hk0' ⟨hG, hcore⟩ hSt hlen hlt
    obtain ⟨Ax, cx, hxd⟩ := hG.slice
    have hd1 : x.1.dv.oneCell' = true := by rw [hxd]; rfl
    have hb := hb0.grew hk0'
    have hKW := hK0.andThen hk0' (fun _ _ f => f.elim)
    have hY0 := Blk.new W 33 [.bool false, .int .i64 0, .int .i64 0, .bool false, .int .i64 0, .slice Option.none 0 0]
    have kY := (Keeps.refl None W).alloc (.cells #[.bool false, .int .i64 0, .int .i64 0, .bool false, .int .i64 0, .slice Option.none 0 0] 33)
    have hsW := hKW.size
    obtain ⟨⟨y, ys⟩, hy⟩ : ∃ y, d.LR[pre.length]? = some y := ⟨_, List.getElem?_eq_getElem (by omega)⟩
    have hxy : core x = core (y, ys) := by
      have e1 : ((pre ++ [x]).map core)[pre.length]? = some (core x) := by rw [List.getElem?_map, List.getElem?_append_right (Nat.le_refl _)]; simp
      have e2 : (d.LR.map core)[pre.length]? = some (core (y, ys)) := by rw [List.getElem?_map, hy]; rfl
      rw [hcore, hB.same, List.getElem?_take, if_pos (by omega), e2] at e1
      exact (Option.some.inj e1).symm
    obtain ⟨gr, cr, erv⟩ : ∃ gr cr, d.rv = .slice (some ⟨gr, 0, Option.none⟩) d.LR.length cr := by
      rcases hB.ref.row.2 with ⟨_, h0⟩ | ⟨gw, cap, cur, e, _⟩
      · omega
      · exact ⟨gw, cap, e⟩
    obtain ⟨Ay, cy, hyd, hyn⟩ := hB.data (y, ys) (List.mem_of_getElem? hy)
    simp only at hyd hyn
    have hzx : x.2.length ≤ 140737488351232 := by
      have e3 : x.2 = ys := (core_fr hxy).2.2.2
      have hjl : pre.length < d.L.length := hlen
      have e4 := core_at hB.same (List.getElem?_eq_getElem hjl) hy
      have e5 : d.L[pre.length].2 = ys := (core_fr e4).2.2.2
      rw [e3, ← e5]
      exact hz _ (List.getElem_mem hjl)
    have HXY := Lib.hid hxy
    have HY := Lib.hid hy
    have HC := Lib.hid hcore
    have HE := Lib.hid erv
    have HXD := Lib.hid hxd
    have HYD := Lib.hid hyd
    clear hxy hy hcore hyd
    gi_wp2_with (first
      | (with_reducible refine wpListIn_store_pk rfl (.tmp 5) (.tmp 12) rfl W.heap.size x.1 rfl rfl hd1 _ hY0 rfl ?_; intro wa hBa hka))
    have kWa : Keeps None W wa := kY.andThen hka (fun i hi e => by simp only [One] at e; omega)
    refine ⟨kWa, fun w2 hkw2 => ?_⟩
    have hk02 := hk0'.size
    have hne : ∀ b, b < wN.heap.size → ¬ One (wN.heap.size + 1) b := fun b hb e => by simp only [One] at e; omega
    have hK2 : Keeps (fun b => b = w1.heap.size ∨ b = wN.heap.size + 1) wN w2 := ((hKW.mono (fun _ _ e => .inl e)).andThen kWa (fun _ _ f => f.elim)).andThen hkw2 (fun i hi e => .inr e)
    have hno : ∀ b, b < w1.heap.size → ¬ (b = w1.heap.size ∨ b = wN.heap.size + 1) := fun b hb e => by omega
    have hb2 := (hb.grew kWa).keeps hkw2 (hne _ hcl)
    have hBa2 := hBa.keeps hkw2 (fun e => by simp only [One] at e; omega)
    have hSt2 := hS.beside (hSt.grew kWa) hkw2 (fun b e => .inl (by simp only [One] at e; omega))
    have c4 := hb2.cell 0 _ rfl
    have hW2 := hbW2.keeps hK2 (hno _ (by omega))
    have cW1 := hW2.cell 1 _ rfl
    have hR2 : Rn w2 r w0.heap.size d.rv d.ru d.LR d.S := hB2.ref.keeps hK2 (fun b hm => hno b (by have := hB.ref.mine_lt b hm; omega))
    have cr0 := hR2.blk.cell 0 _ rfl
    rw [HE.out] at cr0
    have hrow2 := hR2.row
    rw [HE.out] at hrow2
    obtain ⟨bM, oM, eM, hyp⟩ := (Pks.of_owns hrow2).1 pre.length y (by rw [List.getElem?_map, HY.out]; rfl)
    cases eM
    rw [Nat.zero_add] at hyp
    have hG2 := (hG.grew kWa).keeps hkw2 (fun b hb e => by have := ((hG.lt b hb)).1; simp only [One] at e; omega)
    have kw02 : Keeps None w0 w2 := hB2.keeps.andThen hK2 (fun b hb e => by have := hB.keeps.size; omega)
    have hsame : ∀ w', Keeps None w2 w' → Calls Try.prog 28 #[x.1.val, y.val] w' fun e w'' => e = .returned (.bool true) ∧ Keeps None w2 w'' := fun w' hk =>
      (same16_any x.1 y x.2 ys Ax Ay cx cy w' HXD.out HYD.out ((Nums.row (by rw [← HXD.out]; exact hG2)).1.grew hk) (hyn.grew (kw02.trans hk)) hzx).mono fun e w'' h => ⟨by rw [h.1]; simp [HXY.out], hk.trans h.2⟩
    have hwr : IntKind.i64.wrap ((pre.length : Int) + 1) = (pre.length : Int) + 1 := by rw [IntKind.wrap_i64]; omega
    have hlen' : pre.length < d.LR.length := by omega
    gi_wp2
    refine region_round (C := fun w' => Keeps None w2 w') (by kernel_rfl) (by kernel_rfl) (by kernel_rfl) ((Keeps.refl None w2).drew) ?_
    refine q_take (N := some 13) (.int .i64 (pre.length : Int)) (wanted_none rfl) rfl (by intro w' hSw; have q := hSw.cell c4 id; go_simp) rfl ?_
    try simp only [Act.put, List.setIfInBounds_toArray, List.set_cons_zero, List.set_cons_succ]
    refine q_take (N := some 14) (.pointer (some ⟨w.heap.size, 1, Option.none⟩)) (wanted_none rfl) rfl (fun w' _ => by go_simp) rfl ?_
    try simp only [Act.put, List.setIfInBounds_toArray, List.set_cons_zero, List.set_cons_succ]
    refine q_take (N := some 15) (.pointer (some ⟨r, 0, Option.none⟩)) (wanted_none rfl) rfl (by intro w' hSw; have q := hSw.cell cW1 id; go_simp) rfl ?_
    try simp only [Act.put, List.setIfInBounds_toArray, List.set_cons_zero, List.set_cons_succ]
    refine q_take (N := some 16) (.pointer (some ⟨r, 0, Option.none⟩)) (wanted_none rfl) rfl (fun w' _ => by go_simp) rfl ?_
    try simp only [Act.put, List.setIfInBounds_toArray, List.set_cons_zero, List.set_cons_succ]
    refine q_take (N := some 17) (.pointer (some ⟨r, 0, Option.none⟩)) (wanted_none rfl) rfl (fun w' _ => by go_simp) rfl ?_
    try simp only [Act.put, List.setIfInBounds_toArray, List.set_cons_zero, List.set_cons_succ]
    refine q_take (N := some 18) (.slice (some ⟨gr, 0, Option.none⟩) d.LR.length cr) (wanted_none rfl) rfl (by intro w' hSw; have q := hSw.cell cr0 id; go_simp) rfl ?_
    try simp only [Act.put, List.setIfInBounds_toArray, List.set_cons_zero, List.set_cons_succ]
    refine q_take (N := some 19) (.int .i64 (d.LR.length : Int)) (wanted_none rfl) rfl (fun w' _ => by go_simp) rfl ?_
    try simp only [Act.put, List.setIfInBounds_toArray, List.set_cons_zero, List.set_cons_succ]
    refine q_take (N := some 20) (.bool false) (wanted_none rfl) rfl (fun w' _ => by go_simp) rfl ?_
    try simp only [Act.put, List.setIfInBounds_toArray, List.set_cons_zero, List.set_cons_succ]
    refine q_take (N := some 21) (.bool false) (wanted_none rfl) rfl (fun w' _ => by rfl) rfl ?_
    try simp only [Act.put, List.setIfInBounds_toArray, List.set_cons_zero, List.set_cons_succ]
    refine q_take (N := some 22) (x.1.val) (by rfl) rfl (by intro w' hSw; exact exec_load_pk (.tmp 5) rfl W.heap.size 0 x.1 rfl (hBa2.pk.keeps hSw id)) rfl ?_
    try simp only [Act.put, List.setIfInBounds_toArray, List.set_cons_zero, List.set_cons_succ]
    refine q_take (N := some 23) (.pointer (some ⟨w.heap.size, 1, Option.none⟩)) (by rfl) rfl (fun w' _ => by go_simp) rfl ?_
    try simp only [Act.put, List.setIfInBounds_toArray, List.set_cons_zero, List.set_cons_succ]
    refine q_take (N := some 24) (.pointer (some ⟨r, 0, Option.none⟩)) (by rfl) rfl (by intro w' hSw; have q := hSw.cell cW1 id; go_simp) rfl ?_
    try simp only [Act.put, List.setIfInBounds_toArray, List.set_cons_zero, List.set_cons_succ]
    refine q_take (N := some 25) (.pointer (some ⟨r, 0, Option.none⟩)) (by rfl) rfl (fun w' _ => by go_simp) rfl ?_
    try simp only [Act.put, List.setIfInBounds_toArray, List.set_cons_zero, List.set_cons_succ]
    refine q_take (N := some 26) (.pointer (some ⟨r, 0, Option.none⟩)) (by rfl) rfl (fun w' _ => by go_simp) rfl ?_
    try simp only [Act.put, List.setIfInBounds_toArray, List.set_cons_zero, List.set_cons_succ]
    refine q_take (N := some 27) (.slice (some ⟨gr, 0, Option.none⟩) d.LR.length cr) (by rfl) rfl (by intro w' hSw; have q := hSw.cell cr0 id; go_simp) rfl ?_
    try simp only [Act.put, List.setIfInBounds_toArray, List.set_cons_zero, List.set_cons_succ]
    refine q_take (N := some 28) (.int .i64 (pre.length : Int)) (by rfl) rfl (by intro w' hSw; have q := hSw.cell c4 id; go_simp) rfl ?_
    try simp only [Act.put, List.setIfInBounds_toArray, List.set_cons_zero, List.set_cons_succ]
    refine q_take (N := some 29) (.pointer (some ⟨gr, pre.length * 6, Option.none⟩)) (by rfl) rfl (fun w' _ => by go_simp) rfl ?_
    try simp only [Act.put, List.setIfInBounds_toArray, List.set_cons_zero, List.set_cons_succ]
    refine q_take (N := some 30) (y.val) (by rfl) rfl (by intro w' hSw; exact exec_load_pk (.tmp 29) rfl gr (pre.length * 6) y rfl (hyp.keeps hSw id)) rfl ?_
    try simp only [Act.put, List.setIfInBounds_toArray, List.set_cons_zero, List.set_cons_succ]
    refine q_call (N := some 31) (.bool true) 28 #[x.1.val, y.val] (by rfl) rfl (fun w' _ => ?_) (fun w' hSw => ?_) rfl ?_
    · have he := enters_of Try.func28 (by kernel_rfl) rfl #[x.1.val, y.val] w'; unfold execOp; simp [resolve, Deferred.ofValue, invoke, Act.eval, he]
    · exact hsame w' hSw
    try simp only [Act.put, List.setIfInBounds_toArray, List.set_cons_zero, List.set_cons_succ]
    refine q_take (N := some 32) (.bool false) (by rfl) rfl (fun w' _ => by go_simp) rfl ?_
    try simp only [Act.put, List.setIfInBounds_toArray, List.set_cons_zero, List.set_cons_succ]
    refine q_take (N := some 33) (.bool false) (wanted_none rfl) rfl (fun w' _ => by go_simp) rfl ?_
    try simp only [Act.put, List.setIfInBounds_toArray, List.set_cons_zero, List.set_cons_succ]
    refine wpQuietIn_nil ?_
    intro w3 hk3
    have hb3 := hb2.grew hk3
    have c5 := hb3.cell 0 _ rfl
    have f5 := hb3.free 0
    gi_wp2
    have ks : Keeps (One w1.heap.size) w3 (w3.setCell ⟨w1.heap.size, 0, Option.none⟩ (.int .i64 ((pre.length : Int) + 1))) := (Keeps.refl _ _).setCell _ _ (fun _ => rfl)
    have hSt3 := hS.beside hSt2 hk3 (fun _ f => f.elim)
    refine ⟨hk3.of_none.andThen ks (fun _ _ e => e), hS.beside hSt3 ks (fun b e => .inr ⟨fun e2 => ?_, fun o => ⟨fun y hy => ?_, fun y hy => ?_⟩⟩), ?_, (((hKW.andThen kWa (fun _ _ f => f.elim)).andThen hkw2 (fun i hi e => by simp only [One] at e; omega)).andThen hk3 (fun _ _ f => f.elim)).andThen ks (fun _ _ e => e)⟩
    · simp only [One] at e
      have := hS1.blk.lt
      omega
    · obtain rfl : b = w1.heap.size := e
      have := hb3.only hy
      match o, this with
      | 0, h => cases h
      | o + 1, h => cases h
    · obtain rfl : b = w1.heap.size := e
      have := hb3.only hy
      match o, this with
      | 0, h => cases h
      | o + 1, h => cases h
    · have := hb3.set 0 (.int .i64 ((pre.length : Int) + 1))
      simpa using this
  · rintro xs W hSf ⟨hb, hK⟩ hD
    have hxl : xs.length = d.L.length := by have := congrArg List.length hSf; simpa using this
    rw [hxl, hll] at hb
    have HXL := Lib.hid hxl
    clear hxl hSf
    have c0 := hb.cell 0 _ rfl
    have hno : ∀ b, b < w1.heap.size → ¬ One w1.heap.size b := fun b hb e => by simp only [One] at e; omega
    have hW2 := hbW2.keeps hK (hno _ (by omega))
    have hR2 : Rn W r w0.heap.size d.rv d.ru d.LR d.S := hB2.ref.keeps hK (fun b hm => hno b (by have := hB.ref.mine_lt b hm; omega))
    have hbR3 := hbR2.keeps hK (hno _ (by omega))
    obtain ⟨Ar, cr, erv⟩ := owns_slice hR2.row
    have cW1 := hW2.cell 1 _ rfl
    have cr0 := hR2.blk.cell 0 _ rfl
    rw [erv] at cr0
    have HE := Lib.hid erv
    clear erv
    have cR0 := hbR3.cell 0 _ rfl
    have fR0 := hbR3.free 0
    obtain ⟨t1, t2⟩ := test_eq (rfl : (d.LR.length : Int) = (d.LR.length : Int))
    gi_wp2
    refine wpIn_wide.2 ?_
    go_still_tail 8, (by kernel_rfl)
    change wpList _ _ _ _ _ W.drew
    have cR1 : W.drew.cell? ⟨w.heap.size + 1, 0, Option.none⟩ = some (.bool false) := cR0
    have fR1 : W.drew.frozen? ⟨w.heap.size + 1, 0, Option.none⟩ = false := fR0
    go_wp2_with fail
    have hsW := hK.size
    have ks : Keeps (One (w.heap.size + 1)) W (W.setCell ⟨w.heap.size + 1, 0, Option.none⟩ (.bool true)).drew := by
      have h : Keeps (One (w.heap.size + 1)) W (W.setCell ⟨w.heap.size + 1, 0, Option.none⟩ (.bool true)) := (Keeps.refl _ _).setCell _ _ (fun _ => rfl)
      exact h.drew
    have hbF : Blk (W.setCell ⟨w.heap.size + 1, 0, Option.none⟩ (.bool true)).drew (w.heap.size + 1) 4 [.bool true] := by
      have := hbR3.set 0 (.bool true)
      simp only [List.set] at this
      exact this
    have hD2 : (W.setCell ⟨w.heap.size + 1, 0, Option.none⟩ (.bool true)).drew.heap[wN.heap.size]? = some (.deferred (some [])) := (ks.block _ (Array.getElem?_eq_some_iff.1 hD).1 (fun e => by simp only [One] at e; omega)).trans hD
    generalize (W.setCell ⟨w.heap.size + 1, 0, Option.none⟩ (.bool true)).drew = W3 at ks hbF hD2 ⊢
    gi_wp2
    refine ⟨by simp, .inl ⟨_, _, rfl, run_takeDeferred hD2, ?_⟩⟩
    have kp : Keeps (One wN.heap.size) W3 (W3.putObj wN.heap.size (.deferred Option.none)) := keeps_putObj _ _ _
    refine ⟨_, results_u _ _ (w.heap.size + 1) true rfl ((hbF.keeps kp (fun e => by simp only [One] at e; omega)).cell 0 _ rfl), rfl, ?_⟩
    exact (((((k0.trans hk1).trans kN).andThen hK (fun i hi e => by simp only [One] at e; omega)).andThen ks (fun i hi e => by simp only [One] at e; omega)).andThen kp (fun i hi e => by simp only [One] at e; omega))
  · rintro c pre W _ h _
    exact h.elim
end Go.Proofs.Ytcplogdaepmpnaa
