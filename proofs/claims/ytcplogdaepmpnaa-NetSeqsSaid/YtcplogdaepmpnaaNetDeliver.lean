/- A packet taken off. Printed by wip/mkdeliver.sh. -/
import Derived.Test.YtcplogdaepmpnaaNetDel
namespace Go.Proofs.Ytcplogdaepmpnaa
open Go.RowKit Go.Maps Go.ChangeMaps Go.WideElems Go.Proofs.YtcplogdaepmpnaaW.PrintLast

theorem results_cell_tmp {P : Program} {fn : Func} {p q : Tmp} {ty : TypeId} (h : fn.results = #[.cell p ty, .tmp q]) (tmps : Array Value) (w : World) (g : Nat) (t : TypeId) (cs : Array Value) (fr : Nat × Nat) (d : TypeDesc)
    (hp : tmps.getD p undef = .pointer (some ⟨g, 0, Option.none⟩)) (hg : w.heap[g]? = some (.cells cs t fr))
    (hu : P.underlying ty = some d) (hd : (match d with | .struct _ | .array _ _ => true | _ => false) = true) (hi : (P.info? ty).map (·.size) = some cs.size) :
    (results fn tmps).run P w = .ok (.tuple #[.agg cs, tmps.getD q undef]) w := by
  have hp' : tmps[p]?.getD undef = .pointer (some ⟨g, 0, Option.none⟩) := by simpa using hp
  simp [results, h, hp', asAddr, run_loadVar_row w g t ty cs fr d hg hu hd hi]

def zeroP : Pk := ⟨(false, 0), 0, (false, 0), .slice Option.none 0 0⟩

def DeliverEnd (g base : Nat) (v : Value) (m1 m2 : Nat) (L : Way) (n : Nat) (sn : Ad → Int) (mn : Pr → Int) (a : Ad) (c : Int) (w : World) (e : Ending) (w' : World) : Prop :=
  (placeP (L.map (·.1)) a c = -1 ∧ e = .returned (.tuple #[zeroP.val, .int .i64 150]) ∧ Keeps None w w') ∨
  ∃ (i : Nat) (x : Pk) (zs : List Int) (v' : Value), placeP (L.map (·.1)) a c = (i : Int) ∧ L[i]? = some (x, zs) ∧ e = .returned (.tuple #[x.val, .int .i64 0]) ∧ Nt w' g base v' m1 m2 (L.eraseIdx i) (n + 1) sn (upd mn x.pair (mn x.pair - 1)) ∧
    Keeps (Mine g m1 m2 v) w w' ∧ v'.ownBlock = v.ownBlock

theorem placeP_cases (L : Way) (a : Ad) (c : Int) : placeP (L.map (·.1)) a c = -1 ∨ ∃ (i : Nat) (x : Pk) (zs : List Int), placeP (L.map (·.1)) a c = (i : Int) ∧ L[i]? = some (x, zs) ∧ x.named a c = true := by
  unfold placeP
  cases h : (L.map (·.1)).findIdx? (fun p => p.named a c) with
  | none => exact .inl rfl
  | some i =>
    obtain ⟨hl, hg, _⟩ := List.findIdx?_eq_some_iff_getElem.1 h
    have hl' : i < L.length := by simpa using hl
    refine .inr ⟨i, L[i].1, L[i].2, rfl, List.getElem?_eq_getElem hl', by simpa using hg⟩

set_option maxRecDepth 100000 in
set_option maxHeartbeats 4000000 in
theorem deliver_any (g base : Nat) (v : Value) (m1 m2 : Nat) (L : Way) (n : Nat) (sn : Ad → Int) (mn : Pr → Int) (a : Ad) (c : Int) (w : World) (hN : Nt w g base v m1 m2 L n sn mn)
    (hL : ∀ x ∈ L, IntV x.1.fr.2 ∧ IntV x.1.to.2 ∧ 0 ≤ mn x.1.pair) (hn : n ≤ 1099511627776) :
    Calls Try.prog 14 #[.pointer (some ⟨g, 0, Option.none⟩), adV a, .int .i64 c] w (DeliverEnd g base v m1 m2 L n sn mn a c w) := by
  have hgl := hN.blk.lt
  have hsl := hN.sent.lt
  have hml := hN.many.lt
  have hvl : ∀ b, v.ownBlock = some b → b < w.heap.size := fun b hb => (World.ownsRow.lt hN.row b hb).2
  have hmost := hN.most
  have hA := (Blk.new w 27 [.bool a.1, .int .i64 a.2]).alloc (.cells #[.bool false, .int .i64 0, .int .i64 0, .bool false, .int .i64 0, .slice Option.none 0 0] 33)
  have hZ := Blk.new (w.alloc (.cells #[.bool a.1, .int .i64 a.2] 27)) 33 [.bool false, .int .i64 0, .int .i64 0, .bool false, .int .i64 0, .slice Option.none 0 0]
  rw [World.size_alloc] at hZ
  have k0 := ((Keeps.refl None w).alloc (.cells #[.bool a.1, .int .i64 a.2] 27)).alloc (.cells #[.bool false, .int .i64 0, .int .i64 0, .bool false, .int .i64 0, .slice Option.none 0 0] 33)
  have hN0 := hN.grew k0
  have a0 := hA.cell 0 _ rfl
  have a1 := hA.cell 1 _ rfl
  rcases placeP_cases L a c with hp | ⟨i, x, zs, hp, hx, hnm⟩
  · have HP := Lib.hid hp
    clear hp
    simp only [adV]
    go_enter Try.func14, Try.ntmps14
    go_wp2_with fail
    refine (place_any g base v m1 m2 L n sn mn a c _ hN0 hn).mono ?_
    rintro e w1 ⟨rfl, hk1⟩
    rw [HP.out]
    have hZ1 := hZ.grew hk1
    go_wp2_with (first
      | (with_reducible refine wpList_store_pk rfl (.tmp 6) (.tmp 16) rfl (w.heap.size + 1) zeroP rfl rfl rfl _ hZ1 rfl ?_; intro w2 hB2 hk2))
    refine bodyPost_ret (results_cell_tmp rfl _ _ (w.heap.size + 1) 33 _ (0, 0) _ rfl hB2.raw Try.underlying33 rfl infoPk) rfl (.inl ⟨HP.out, rfl, (k0.trans hk1).andThen hk2 ?_⟩)
    intro j hj e
    simp only [One] at e
    omega
  · have hil : i < L.length := (List.getElem?_eq_some_iff.1 hx).1
    have hxm : (x, zs) ∈ L := List.mem_of_getElem? hx
    obtain ⟨hok1, hok2, hmn0⟩ := hL _ hxm
    have hok : keysP.ok x.pair := ⟨hok1, hok2⟩
    obtain ⟨gw, cap, rfl⟩ : ∃ gw cap, v = .slice (some ⟨gw, 0, Option.none⟩) L.length cap := by
      rcases hN.row.2 with ⟨_, h0⟩ | ⟨gw, cap, cur, e, _⟩
      · omega
      · exact ⟨gw, cap, e⟩
    have HP := Lib.hid hp
    have HX := Lib.hid hx
    have HN' := Lib.hid hnm
    clear hp hx hnm
    simp only [adV]
    go_enter Try.func14, Try.ntmps14
    go_wp2_with fail
    refine (place_any g base _ m1 m2 L n sn mn a c _ hN0 hn).mono ?_
    rintro e w1 ⟨rfl, hk1⟩
    rw [HP.out]
    have hN1 := hN0.grew hk1
    have hZ1 := hZ.grew hk1
    have c0 := hN1.blk.cell 0 _ rfl
    obtain ⟨b', o', eb, hxr⟩ := (Pks.of_owns hN1.row).1 i x (by rw [List.getElem?_map, HX.out]; rfl)
    obtain ⟨rfl, rfl⟩ : b' = gw ∧ o' = 0 := by cases eb; exact ⟨rfl, rfl⟩
    have hd1 : x.dv.oneCell' = true := by obtain ⟨A', c', h⟩ := (hN.bytes _ hxm).slice; rw [show x.dv = _ from h]; rfl
    clear eb
    rw [Nat.zero_add] at hxr
    have k2 := (Keeps.refl None w1).alloc (.cells #[.bool false, .int .i64 0, .int .i64 0, .bool false, .int .i64 0, .slice Option.none 0 0] 33)
    have hY := Blk.new w1 33 [.bool false, .int .i64 0, .int .i64 0, .bool false, .int .i64 0, .slice Option.none 0 0]
    go_wp2_with (first
      | (with_reducible refine wpList_load_pk rfl (.tmp 22) rfl b' (i * 6) x rfl hxr ?_)
      | (with_reducible refine wpList_store_pk rfl (.tmp 9) (.tmp 23) rfl w1.heap.size x rfl rfl hd1 _ hY rfl ?_; intro w2 hB2 hk2))
    have hN2' := (hN1.grew k2).keeps hk2 (fun b hm e => by
      have hs := hk1.size
      have hs0 := k0.size
      simp only [One] at e
      rcases hm with h | h | h | h
      · omega
      · omega
      · omega
      · have := hvl _ h; omega) (fun y hy b hb e => by
      have hs := hk1.size
      have hs0 := k0.size
      have := ((hN.bytes y hy).lt b hb).2
      simp only [One] at e
      omega)
    have hN2 := hN2'
    have hgm := hN.g_m.2
    have hgone : ¬ One m2 g := fun e => hgm e
    have hs1 := hk1.size
    have hs0 := k0.size
    have hbm : ¬ One m2 w1.heap.size := fun e => by simp only [One] at e; omega
    have hi1 : IntV (mn x.pair - 1) := by
      have := (intV_iff _).1 (hN.many.look Try.underlying66 x.pair hok).2
      exact (intV_iff _).2 (by omega)
    have hwrap := wrap_intV _ hi1
    refine start_ (ds := [10]) (S := (fun w' => Keeps (One m2) w2 w' ∧ MapF keysP w' m2 (n + 1) mn)) #[false, false, false, false, false, false, false, false, false, false, false] (by kernel_rfl) rfl rfl ⟨(Keeps.refl _ _).drew, (hN2.many.mono (by omega)).of_block rfl⟩ (fun hS0 => ?_)
    refine pure_ (i := 0) (N := some 24) (v := .pointer (some ⟨g, 0, Option.none⟩)) #[true, false, false, false, false, false, false, false, false, false, false] rfl rfl (by kernel_rfl) (fun _ _ _ h => h) (Or.inl ⟨wanted_none rfl, fun w => by rfl⟩) rfl ?_
    try simp only [Act.put, List.setIfInBounds_toArray, List.set_cons_zero, List.set_cons_succ]
    refine pure_ (i := 1) (N := some 25) (v := .pointer (some ⟨g, 0, Option.none⟩)) #[true, true, false, false, false, false, false, false, false, false, false] rfl rfl (by kernel_rfl) (fun _ _ _ h => h) (Or.inl ⟨wanted_none rfl, fun w => by go_simp⟩) rfl ?_
    try simp only [Act.put, List.setIfInBounds_toArray, List.set_cons_zero, List.set_cons_succ]
    refine pure_ (i := 2) (N := some 26) (v := .pointer (some ⟨g, 2, Option.none⟩)) #[true, true, true, false, false, false, false, false, false, false, false] rfl rfl (by kernel_rfl) (fun _ _ _ h => h) (Or.inl ⟨wanted_none rfl, fun w => by go_simp⟩) rfl ?_
    try simp only [Act.put, List.setIfInBounds_toArray, List.set_cons_zero, List.set_cons_succ]
    refine take_ (i := 3) (N := some 27) (v := .map (some m2)) #[true, true, true, true, false, false, false, false, false, false, false] rfl rfl (by kernel_rfl) (fun _ _ _ h => h) (Or.inl ⟨wanted_none rfl, by intro w' hSw; have q := (hN2.blk.keeps hSw.1 hgm).cell 2 _ rfl; go_simp⟩) hS0 rfl ?_
    try simp only [Act.put, List.setIfInBounds_toArray, List.set_cons_zero, List.set_cons_succ]
    refine take_ (i := 4) (N := some 28) (v := x.val) #[true, true, true, true, true, false, false, false, false, false, false] rfl rfl (by kernel_rfl) (fun _ _ _ h => h) (Or.inl ⟨wanted_none rfl, by intro w' hSw; exact exec_load_pk (.tmp 9) rfl w1.heap.size 0 x rfl (hB2.pk.keeps hSw.1 hbm)⟩) hS0 rfl ?_
    try simp only [Act.put, List.setIfInBounds_toArray, List.set_cons_zero, List.set_cons_succ]
    refine one_ (i := 5) (oi := ({ dst := some 29, op := Op.call { callee := Callee.value (Operand.func 32), args := #[Operand.tmp 28], argTypes := #[33] }, type := 73, pos := "net.go:63", after := #[{ on := 4, ground := Ground.data }], guard := Option.none } : Oper)) (N := some 29) #[true, true, true, true, true, true, false, false, false, false, false] rfl rfl (by kernel_rfl) (by decide) ?_
    intro KK hKK
    refine goes_ Try.func32 (by kernel_rfl) rfl #[x.val] (wanted_none rfl) rfl rfl (by simp [Act.eval]) ?_
    refine (between_any x _).mono ?_
    rintro e w3 ⟨rfl, hk3⟩
    refine ⟨_, rfl, hKK.out _ _ ⟨hS0.1.andThen hk3 (fun _ _ f => f.elim), hS0.2.keeps hk3 id⟩ (fun hS1 => ?_)⟩
    try simp only [Act.put, List.setIfInBounds_toArray, List.set_cons_zero, List.set_cons_succ]
    refine take_ (i := 6) (N := some 30) (v := .int .i64 (mn x.pair)) #[true, true, true, true, true, true, true, false, false, false, false] rfl rfl (by kernel_rfl) (fun _ _ _ h => h) (Or.inl ⟨wanted_none rfl, by intro w' hSw; exact exec_lookup _ (.tmp 27) (.tmp 29) rfl _ _ _ rfl rfl (hSw.2.look Try.underlying66 x.pair hok).1⟩) hS1 rfl ?_
    try simp only [Act.put, List.setIfInBounds_toArray, List.set_cons_zero, List.set_cons_succ]
    refine pure_ (i := 7) (N := some 31) (v := .int .i64 (mn x.pair - 1)) #[true, true, true, true, true, true, true, true, false, false, false] rfl rfl (by kernel_rfl) (fun _ _ _ h => h) (Or.inl ⟨wanted_none rfl, fun w => by go_simp⟩) rfl ?_
    try simp only [Act.put, List.setIfInBounds_toArray, List.set_cons_zero, List.set_cons_succ]
    refine one_ (i := 8) (oi := ({ dst := some 32, op := Op.mapEntry 66 (Operand.tmp 27) (Operand.tmp 29), type := 0, pos := "net.go:63", after := #[{ on := 3, ground := Ground.data }, { on := 5, ground := Ground.data }, { on := 5, ground := Ground.chain }, { on := 0, ground := Ground.phase }, { on := 1, ground := Ground.phase }, { on := 2, ground := Ground.phase }, { on := 3, ground := Ground.phase }, { on := 4, ground := Ground.phase }, { on := 5, ground := Ground.phase }, { on := 6, ground := Ground.textOnly Departure.mapOpAssignEntry }, { on := 7, ground := Ground.textOnly Departure.mapOpAssignEntry }], guard := Option.none } : Oper)) (N := some 32) #[true, true, true, true, true, true, true, true, true, false, false] rfl rfl (by kernel_rfl) (by decide) ?_
    intro KK hKK
    obtain ⟨v0, st, w4, hrun, hm4, hg4, hst⟩ := ((hN2.many.of_block (w' := w2.drew) rfl).keeps hk3 id).entry Try.underlying66 (by unfold maxLen; omega) x.pair hok
    refine value_ (wanted_none rfl) rfl (w1 := w4) (v := .tuple #[v0, .int .i64 (st : Int)]) (exec_mapEntry _ (.tmp 27) (.tmp 29) rfl _ _ _ _ rfl rfl hrun) (hKK.out _ _ ⟨hS1.1.andThen ((Keeps.refl (One m2) _).grown hg4 (fun k e _ => (Option.some.inj e).symm)) (fun _ _ e => e), hm4⟩ (fun hS2 => ?_))
    try simp only [Act.put, List.setIfInBounds_toArray, List.set_cons_zero, List.set_cons_succ]
    refine pure_ (i := 9) (N := some 33) (v := .int .i64 (st : Int)) #[true, true, true, true, true, true, true, true, true, true, false] rfl rfl (by kernel_rfl) (fun _ _ _ h => h) (Or.inl ⟨wanted_none rfl, fun w => by rfl⟩) rfl ?_
    try simp only [Act.put, List.setIfInBounds_toArray, List.set_cons_zero, List.set_cons_succ]
    refine last_ (i := 10) (oi := ({ dst := Option.none, op := Op.entryStore 66 (Operand.tmp 27) (Operand.tmp 33) (Operand.tmp 31), type := 0, pos := "net.go:63", after := #[{ on := 3, ground := Ground.data }, { on := 9, ground := Ground.data }, { on := 7, ground := Ground.data }, { on := 8, ground := Ground.chain }, { on := 0, ground := Ground.phase }, { on := 1, ground := Ground.phase }, { on := 2, ground := Ground.phase }, { on := 3, ground := Ground.phase }, { on := 4, ground := Ground.phase }, { on := 5, ground := Ground.phase }, { on := 6, ground := Ground.phase }, { on := 7, ground := Ground.phase }, { on := 8, ground := Ground.phase }, { on := 9, ground := Ground.phase }], guard := Option.none } : Oper)) (N := Option.none) #[true, true, true, true, true, true, true, true, true, true, true] rfl rfl (by kernel_rfl) (by decide) ?_
    intro KK hKK
    obtain ⟨w5, hrun5, hm5, hg5⟩ := hst (mn x.pair - 1) hi1
    refine skip_ (wanted_none rfl) rfl (w1 := w5) (exec_entryStore _ (.tmp 27) (.tmp 33) (.tmp 31) rfl _ _ _ _ rfl rfl rfl hrun5) (hKK.out _ _ ?_)
    try simp only [Act.put, List.setIfInBounds_toArray, List.set_cons_zero, List.set_cons_succ]
    refine done_ (by kernel_rfl) ?_
    have hK5 : Keeps (One m2) w2 w5 := hS2.1.grown hg5 (fun k e _ => (Option.some.inj e).symm)
    have hv2 : ∀ b, (Value.slice (some ⟨b', 0, Option.none⟩) L.length cap).ownBlock = some b → ¬ One m2 b := fun b hb e => (hN2.v_ne hb).2.2 e
    have hrow5 := owns_keeps hN2.row hK5 hv2
    have hsum : IntKind.i64.wrap ((i : Int) + 1) = (i : Int) + 1 := by rw [IntKind.wrap_i64]; omega
    have c5 := (hN2.blk.keeps hK5 hgone).cell 0 _ rfl
    have hbl := hvl b' rfl
    go_wp2_with fail
    refine (delete_any base b' cap i L w5 hrow5 hil (fun y hy => by obtain ⟨A', c', h⟩ := (hN.bytes y hy).slice; rw [h]; rfl)).mono ?_
    rintro e w6 ⟨rfl, hrow6, hk6⟩
    have hgb : ¬ One b' g := fun e => (hN.v_ne (b := b') rfl).1 (Eq.symm e)
    have hB6 := (hN2.blk.keeps hK5 hgone).keeps hk6 hgb
    have c6 := hB6.cell 0 _ rfl
    have f6 := hB6.free 0
    have kg : Keeps (One g) w6 (w6.setCell ⟨g, 0, Option.none⟩ (.slice (some ⟨b', 0, Option.none⟩) (L.length - 1) cap)) := (Keeps.refl _ _).setCell _ _ (fun _ => rfl)
    have hX7 : Blk (w6.setCell ⟨g, 0, Option.none⟩ (.slice (some ⟨b', 0, Option.none⟩) (L.length - 1) cap)) w1.heap.size 33 x.cells := ((hB2.keeps hK5 hbm).keeps hk6 (fun e => by simp only [One] at e; omega)).keeps kg (fun e => by simp only [One] at e; omega)
    have hZ7 : Blk (w6.setCell ⟨g, 0, Option.none⟩ (.slice (some ⟨b', 0, Option.none⟩) (L.length - 1) cap)) (w.heap.size + 1) 33 [.bool false, .int .i64 0, .int .i64 0, .bool false, .int .i64 0, .slice Option.none 0 0] :=
      ((((hZ1.grew k2).keeps hk2 (fun e => by have := hZ1.lt; simp only [One] at e; omega)).keeps hK5 (fun e => by simp only [One] at e; omega)).keeps hk6 (fun e => by simp only [One] at e; omega)).keeps kg (fun e => by simp only [One] at e; omega)
    go_wp2_with (first
      | (with_reducible refine wpList_load_pk rfl (.tmp 9) rfl w1.heap.size 0 x rfl hX7.pk ?_)
      | (with_reducible refine wpList_store_pk rfl (.tmp 6) (.tmp 45) rfl (w.heap.size + 1) x rfl rfl hd1 _ hZ7 rfl ?_; intro w8 hB8 hk8))
    refine bodyPost_ret (results_cell_tmp rfl _ _ (w.heap.size + 1) 33 _ (0, 0) _ rfl hB8.raw Try.underlying33 rfl infoPk) rfl (.inr ⟨i, x, zs, .slice (some ⟨b', 0, Option.none⟩) (L.length - 1) cap, HP.out, HX.out, rfl, ?_, ?_, rfl⟩)
    · have o8 : ∀ b, b < w.heap.size → ¬ One (w.heap.size + 1) b := fun b hb e => by simp only [One] at e; omega
      have hB7 := hB6.set 0 (.slice (some ⟨b', 0, Option.none⟩) (L.length - 1) cap)
      simp only [List.set] at hB7
      have hbyte : ∀ y ∈ L, Row .u8 5 w8 base y.1.dv y.2 := fun y hy =>
        (((((hN2.bytes y hy).keeps hK5 (fun b hb e => hN2.byte_off (hN2.bytes y hy) hb (.inr (.inr (.inl e))))).keeps hk6 (fun b hb e => hN2.byte_off (hN2.bytes y hy) hb (.inr (.inr (.inr (by rw [show b = b' from e]; rfl)))))).keeps kg (fun b hb e => hN2.byte_off (hN2.bytes y hy) hb (.inl e))).keeps hk8 (fun b hb => o8 b ((hN.bytes y hy).lt b hb).2))
      refine ⟨hB7.keeps hk8 (o8 g hgl), ?_, fun y hy => hbyte y (List.mem_of_mem_eraseIdx hy), List.Pairwise.sublist (List.eraseIdx_sublist _ _) hN.apart, ?_, ?_, ?_, hN.hg, hN.ne⟩
      · rw [List.length_eraseIdx_of_lt hil]
        exact owns_keeps (owns_keeps hrow6 kg (fun b hb e => by cases hb; exact hgb (Eq.symm e))) hk8 (fun b hb => by cases hb; exact o8 _ hbl)
      · exact ((((hN2.sent.mono (by omega)).keeps hK5 hN2.ne).keeps hk6 (fun e => (hN.v_ne (b := b') rfl).2.1 (Eq.symm e))).keeps kg (fun e => hN.g_m.1 (Eq.symm e))).keeps hk8 (o8 m1 hsl)
      · exact ((hm5.keeps hk6 (fun e => (hN.v_ne (b := b') rfl).2.2 (Eq.symm e))).keeps kg (fun e => hN.g_m.2 (Eq.symm e))).keeps hk8 (o8 m2 hml)
      · rw [List.length_eraseIdx_of_lt hil]
        omega
    · refine (((((((k0.trans hk1).trans k2).of_none.andThen hk2 ?_).andThen hK5 ?_).andThen hk6 ?_).andThen kg ?_).andThen hk8 ?_)
      · exact fun j hj e => by simp only [One] at e; omega
      · exact fun _ _ e => .inr (.inr (.inl e))
      · exact fun _ _ e => .inr (.inr (.inr (by rw [show _ = b' from e]; rfl)))
      · exact fun _ _ e => .inl e
      · exact fun j hj e => by simp only [One] at e; omega
end Go.Proofs.Ytcplogdaepmpnaa
