/- One more packet comes, if its pair has room. Printed by wip/mkcomes.sh. -/
import Derived.Test.YtcplogdaepmpnaaNetExec
namespace Go.Proofs.Ytcplogdaepmpnaa
open Go.RowKit Go.Maps Go.ChangeMaps Go.WideElems Go.Proofs.YtcplogdaepmpnaaW.PrintLast

/-- The way behind one packet more: whether it grew in place or not. -/
def NewLoc (v v' : Value) (w : World) : Prop := v'.ownBlock = v.ownBlock ∨ ∃ b, v'.ownBlock = some b ∧ w.heap.size ≤ b

def ComeEnd (g base : Nat) (v : Value) (m1 m2 : Nat) (L : Way) (n : Nat) (sn : Ad → Int) (mn : Pr → Int) (p : Pk) (zs : List Int) (w : World) (e : Ending) (w' : World) : Prop :=
  (64 ≤ mn p.pair ∧ e = .returned (.bool false) ∧ Keeps None w w') ∨
  (mn p.pair < 64 ∧ e = .returned (.bool true) ∧ ∃ v', Nt w' g base v' m1 m2 (L ++ [(p, zs)]) (n + 1) sn (upd mn p.pair (mn p.pair + 1)) ∧ Keeps (Mine g m1 m2 v) w w' ∧ NewLoc v v' w)

set_option maxRecDepth 100000 in
set_option maxHeartbeats 4000000 in
theorem comes_any (g base : Nat) (v : Value) (m1 m2 : Nat) (L : Way) (n : Nat) (sn : Ad → Int) (mn : Pr → Int) (p : Pk) (zs : List Int) (w : World) (hN : Nt w g base v m1 m2 L n sn mn) (hp : Row .u8 5 w base p.dv zs)
    (hap : ∀ x ∈ L, ∀ b, x.1.dv.ownBlock = some b → p.dv.ownBlock ≠ some b) (ha : IntV p.fr.2) (hb2 : IntV p.to.2) (hn : n ≤ 1099511627776) :
    Calls Try.prog 29 #[.pointer (some ⟨g, 0, Option.none⟩), p.val] w (ComeEnd g base v m1 m2 L n sn mn p zs w) := by
  obtain ⟨i0, hi, hz0, hz1, hz2⟩ := info_parts infoPkAll
  obtain ⟨⟨f1, f2⟩, ct, ⟨t1, t2⟩, dv⟩ := p
  obtain ⟨Ax, cd, rfl⟩ := hp.slice
  simp only at ha hb2
  obtain ⟨Av, cv, rfl⟩ := owns_slice hN.row
  have hgl := hN.blk.lt
  have hb := Blk.new w 33 [.bool f1, .int .i64 f2, .int .i64 ct, .bool t1, .int .i64 t2, .slice Ax zs.length cd]
  have hN0 := hN.grew ((Keeps.refl None w).alloc (.cells #[.bool f1, .int .i64 f2, .int .i64 ct, .bool t1, .int .i64 t2, .slice Ax zs.length cd] 33))
  have hml := hN.many.lt
  have hbase := hN.hg
  simp only [Pk.val]
  go_enter Try.func29, Try.ntmps29
  go_wp2_with fail
  refine start_ (ds := []) (S := (fun w' => Keeps None (w.alloc (.cells #[.bool f1, .int .i64 f2, .int .i64 ct, .bool t1, .int .i64 t2, .slice Ax zs.length cd] 33)) w')) #[false, false, false, false, false, false, false, false] (by kernel_rfl) rfl rfl ((Keeps.refl _ _).drew) (fun hS0 => ?_)
  refine pure_ (i := 0) (N := some 5) (v := .pointer (some ⟨g, 0, Option.none⟩)) #[true, false, false, false, false, false, false, false] rfl rfl (by kernel_rfl) (fun _ _ _ h => h) (Or.inl ⟨wanted_none rfl, fun w => by rfl⟩) rfl ?_
  try simp only [Act.put, List.setIfInBounds_toArray, List.set_cons_zero, List.set_cons_succ]
  refine pure_ (i := 1) (N := some 6) (v := .pointer (some ⟨g, 0, Option.none⟩)) #[true, true, false, false, false, false, false, false] rfl rfl (by kernel_rfl) (fun _ _ _ h => h) (Or.inl ⟨wanted_none rfl, fun w => by go_simp⟩) rfl ?_
  try simp only [Act.put, List.setIfInBounds_toArray, List.set_cons_zero, List.set_cons_succ]
  refine pure_ (i := 2) (N := some 7) (v := .pointer (some ⟨g, 2, Option.none⟩)) #[true, true, true, false, false, false, false, false] rfl rfl (by kernel_rfl) (fun _ _ _ h => h) (Or.inl ⟨wanted_none rfl, fun w => by go_simp⟩) rfl ?_
  try simp only [Act.put, List.setIfInBounds_toArray, List.set_cons_zero, List.set_cons_succ]
  refine take_ (i := 3) (N := some 8) (v := .map (some m2)) #[true, true, true, true, false, false, false, false] rfl rfl (by kernel_rfl) (fun _ _ _ h => h) (Or.inl ⟨wanted_none rfl, by intro w' hSw; have q := (hN0.grew hSw).blk.cell 2 _ rfl; go_simp⟩) hS0 rfl ?_
  try simp only [Act.put, List.setIfInBounds_toArray, List.set_cons_zero, List.set_cons_succ]
  refine take_ (i := 4) (N := some 9) (v := .agg #[.bool f1, .int .i64 f2, .int .i64 ct, .bool t1, .int .i64 t2, .slice Ax zs.length cd]) #[true, true, true, true, true, false, false, false] rfl rfl (by kernel_rfl) (fun _ _ _ h => h) (Or.inl ⟨wanted_none rfl, by intro w' hSw; exact exec_load_pk (.tmp 3) rfl w.heap.size 0 ⟨(f1, f2), ct, (t1, t2), .slice Ax zs.length cd⟩ rfl (hb.pk.grew hSw)⟩) hS0 rfl ?_
  try simp only [Act.put, List.setIfInBounds_toArray, List.set_cons_zero, List.set_cons_succ]
  refine one_ (i := 5) (oi := ({ dst := some 10, op := Op.call { callee := Callee.value (Operand.func 32), args := #[Operand.tmp 9], argTypes := #[33] }, type := 73, pos := "net.go:36", after := #[{ on := 4, ground := Ground.data }], guard := Option.none } : Oper)) (N := some 10) #[true, true, true, true, true, true, false, false] rfl rfl (by kernel_rfl) (by decide) ?_
  intro KK hKK
  refine goes_ Try.func32 (by kernel_rfl) rfl #[.agg #[.bool f1, .int .i64 f2, .int .i64 ct, .bool t1, .int .i64 t2, .slice Ax zs.length cd]] (wanted_none rfl) rfl rfl (by simp [Act.eval]) ?_
  refine (between_any ⟨(f1, f2), ct, (t1, t2), .slice Ax zs.length cd⟩ _).mono ?_
  rintro e w1 ⟨rfl, hk1⟩
  refine ⟨_, rfl, hKK.out _ _ (hS0.trans hk1) (fun hS1 => ?_)⟩
  try simp only [Act.put, List.setIfInBounds_toArray, List.set_cons_zero, List.set_cons_succ]
  refine take_ (i := 6) (N := some 11) (v := .int .i64 (mn ((f1, f2), (t1, t2)))) #[true, true, true, true, true, true, true, false] rfl rfl (by kernel_rfl) (fun _ _ _ h => h) (Or.inl ⟨wanted_none rfl, by intro w' hSw; exact exec_lookup _ (.tmp 8) (.tmp 10) rfl _ _ _ rfl rfl ((hN0.grew hSw).many.look Try.underlying66 ((f1, f2), (t1, t2)) ⟨ha, hb2⟩).1⟩) hS1 rfl ?_
  try simp only [Act.put, List.setIfInBounds_toArray, List.set_cons_zero, List.set_cons_succ]
  refine pure_ (i := 7) (N := some 12) (v := .bool (decide (64 ≤ mn ((f1, f2), (t1, t2))))) #[true, true, true, true, true, true, true, true] rfl rfl (by kernel_rfl) (fun _ _ _ h => h) (Or.inl ⟨wanted_none rfl, fun w => by go_simp⟩) rfl ?_
  try simp only [Act.put, List.setIfInBounds_toArray, List.set_cons_zero, List.set_cons_succ]
  refine done_ (by kernel_rfl) ?_
  have hE1 := hS1
  have hN1 := hN0.grew hE1
  have hp1 : Row .u8 5 w1 base (.slice Ax zs.length cd) zs := (hp.grew ((Keeps.refl None w).alloc _)).grew hE1
  have hB1 := hb.grew hS1
  by_cases h64 : 64 ≤ mn ((f1, f2), (t1, t2))
  · go_wp2_with fail
    go_ret
    exact .inl ⟨h64, rfl, ((Keeps.refl None w).alloc _).trans hS1⟩
  · go_wp2_with fail
    have hgm := hN.g_m.2
    have hbm : ¬ One m2 w.heap.size := fun e => by simp [One] at e; omega
    have hi1 : IntV (mn ((f1, f2), (t1, t2)) + 1) := by
      have := (intV_iff _).1 (hN.many.look Try.underlying66 ((f1, f2), (t1, t2)) ⟨ha, hb2⟩).2
      exact (intV_iff _).2 (by omega)
    have hwrap := wrap_intV _ hi1
    refine start_ (ds := [10]) (S := (fun w' => Keeps (One m2) w1 w' ∧ MapF keysP w' m2 (n + 1) mn)) #[false, false, false, false, false, false, false, false, false, false, false] (by kernel_rfl) rfl rfl ⟨(Keeps.refl _ _).drew, (hN1.many.mono (by omega)).of_block rfl⟩ (fun hS0 => ?_)
    refine pure_ (i := 0) (N := some 13) (v := .pointer (some ⟨g, 0, Option.none⟩)) #[true, false, false, false, false, false, false, false, false, false, false] rfl rfl (by kernel_rfl) (fun _ _ _ h => h) (Or.inl ⟨wanted_none rfl, fun w => by rfl⟩) rfl ?_
    try simp only [Act.put, List.setIfInBounds_toArray, List.set_cons_zero, List.set_cons_succ]
    refine pure_ (i := 1) (N := some 14) (v := .pointer (some ⟨g, 0, Option.none⟩)) #[true, true, false, false, false, false, false, false, false, false, false] rfl rfl (by kernel_rfl) (fun _ _ _ h => h) (Or.inl ⟨wanted_none rfl, fun w => by go_simp⟩) rfl ?_
    try simp only [Act.put, List.setIfInBounds_toArray, List.set_cons_zero, List.set_cons_succ]
    refine pure_ (i := 2) (N := some 15) (v := .pointer (some ⟨g, 2, Option.none⟩)) #[true, true, true, false, false, false, false, false, false, false, false] rfl rfl (by kernel_rfl) (fun _ _ _ h => h) (Or.inl ⟨wanted_none rfl, fun w => by go_simp⟩) rfl ?_
    try simp only [Act.put, List.setIfInBounds_toArray, List.set_cons_zero, List.set_cons_succ]
    refine take_ (i := 3) (N := some 16) (v := .map (some m2)) #[true, true, true, true, false, false, false, false, false, false, false] rfl rfl (by kernel_rfl) (fun _ _ _ h => h) (Or.inl ⟨wanted_none rfl, by intro w' hSw; have q := (hN1.blk.keeps hSw.1 hgm).cell 2 _ rfl; go_simp⟩) hS0 rfl ?_
    try simp only [Act.put, List.setIfInBounds_toArray, List.set_cons_zero, List.set_cons_succ]
    refine take_ (i := 4) (N := some 17) (v := .agg #[.bool f1, .int .i64 f2, .int .i64 ct, .bool t1, .int .i64 t2, .slice Ax zs.length cd]) #[true, true, true, true, true, false, false, false, false, false, false] rfl rfl (by kernel_rfl) (fun _ _ _ h => h) (Or.inl ⟨wanted_none rfl, by intro w' hSw; exact exec_load_pk (.tmp 3) rfl w.heap.size 0 ⟨(f1, f2), ct, (t1, t2), .slice Ax zs.length cd⟩ rfl (hB1.pk.keeps hSw.1 hbm)⟩) hS0 rfl ?_
    try simp only [Act.put, List.setIfInBounds_toArray, List.set_cons_zero, List.set_cons_succ]
    refine one_ (i := 5) (oi := ({ dst := some 18, op := Op.call { callee := Callee.value (Operand.func 32), args := #[Operand.tmp 17], argTypes := #[33] }, type := 73, pos := "net.go:39", after := #[{ on := 4, ground := Ground.data }], guard := Option.none } : Oper)) (N := some 18) #[true, true, true, true, true, true, false, false, false, false, false] rfl rfl (by kernel_rfl) (by decide) ?_
    intro KK hKK
    refine goes_ Try.func32 (by kernel_rfl) rfl #[.agg #[.bool f1, .int .i64 f2, .int .i64 ct, .bool t1, .int .i64 t2, .slice Ax zs.length cd]] (wanted_none rfl) rfl rfl (by simp [Act.eval]) ?_
    refine (between_any ⟨(f1, f2), ct, (t1, t2), .slice Ax zs.length cd⟩ _).mono ?_
    rintro e w2 ⟨rfl, hk2⟩
    refine ⟨_, rfl, hKK.out _ _ ⟨hS0.1.andThen hk2 (fun _ _ f => f.elim), hS0.2.keeps hk2 id⟩ (fun hS1 => ?_)⟩
    try simp only [Act.put, List.setIfInBounds_toArray, List.set_cons_zero, List.set_cons_succ]
    refine take_ (i := 6) (N := some 19) (v := .int .i64 (mn ((f1, f2), (t1, t2)))) #[true, true, true, true, true, true, true, false, false, false, false] rfl rfl (by kernel_rfl) (fun _ _ _ h => h) (Or.inl ⟨wanted_none rfl, by intro w' hSw; exact exec_lookup _ (.tmp 16) (.tmp 18) rfl _ _ _ rfl rfl (hSw.2.look Try.underlying66 ((f1, f2), (t1, t2)) ⟨ha, hb2⟩).1⟩) hS1 rfl ?_
    try simp only [Act.put, List.setIfInBounds_toArray, List.set_cons_zero, List.set_cons_succ]
    refine pure_ (i := 7) (N := some 20) (v := .int .i64 (mn ((f1, f2), (t1, t2)) + 1)) #[true, true, true, true, true, true, true, true, false, false, false] rfl rfl (by kernel_rfl) (fun _ _ _ h => h) (Or.inl ⟨wanted_none rfl, fun w => by go_simp⟩) rfl ?_
    try simp only [Act.put, List.setIfInBounds_toArray, List.set_cons_zero, List.set_cons_succ]
    refine one_ (i := 8) (oi := ({ dst := some 21, op := Op.mapEntry 66 (Operand.tmp 16) (Operand.tmp 18), type := 0, pos := "net.go:39", after := #[{ on := 3, ground := Ground.data }, { on := 5, ground := Ground.data }, { on := 5, ground := Ground.chain }, { on := 0, ground := Ground.phase }, { on := 1, ground := Ground.phase }, { on := 2, ground := Ground.phase }, { on := 3, ground := Ground.phase }, { on := 4, ground := Ground.phase }, { on := 5, ground := Ground.phase }, { on := 6, ground := Ground.textOnly Departure.mapOpAssignEntry }, { on := 7, ground := Ground.textOnly Departure.mapOpAssignEntry }], guard := Option.none } : Oper)) (N := some 21) #[true, true, true, true, true, true, true, true, true, false, false] rfl rfl (by kernel_rfl) (by decide) ?_
    intro KK hKK
    obtain ⟨v0, st, w3, hrun, hm3, hg3, hst⟩ := (((hN1.many.of_block (w' := w1.drew) rfl).keeps hk2 id)).entry Try.underlying66 (by unfold maxLen; omega) ((f1, f2), (t1, t2)) ⟨ha, hb2⟩
    refine value_ (wanted_none rfl) rfl (w1 := w3) (v := .tuple #[v0, .int .i64 (st : Int)]) (exec_mapEntry _ (.tmp 16) (.tmp 18) rfl _ _ _ _ rfl rfl hrun) (hKK.out _ _ ⟨hS1.1.andThen ((Keeps.refl (One m2) _).grown hg3 (fun k e _ => (Option.some.inj e).symm)) (fun _ _ e => e), hm3⟩ (fun hS2 => ?_))
    try simp only [Act.put, List.setIfInBounds_toArray, List.set_cons_zero, List.set_cons_succ]
    refine pure_ (i := 9) (N := some 22) (v := .int .i64 (st : Int)) #[true, true, true, true, true, true, true, true, true, true, false] rfl rfl (by kernel_rfl) (fun _ _ _ h => h) (Or.inl ⟨wanted_none rfl, fun w => by rfl⟩) rfl ?_
    try simp only [Act.put, List.setIfInBounds_toArray, List.set_cons_zero, List.set_cons_succ]
    refine last_ (i := 10) (oi := ({ dst := Option.none, op := Op.entryStore 66 (Operand.tmp 16) (Operand.tmp 22) (Operand.tmp 20), type := 0, pos := "net.go:39", after := #[{ on := 3, ground := Ground.data }, { on := 9, ground := Ground.data }, { on := 7, ground := Ground.data }, { on := 8, ground := Ground.chain }, { on := 0, ground := Ground.phase }, { on := 1, ground := Ground.phase }, { on := 2, ground := Ground.phase }, { on := 3, ground := Ground.phase }, { on := 4, ground := Ground.phase }, { on := 5, ground := Ground.phase }, { on := 6, ground := Ground.phase }, { on := 7, ground := Ground.phase }, { on := 8, ground := Ground.phase }, { on := 9, ground := Ground.phase }], guard := Option.none } : Oper)) (N := Option.none) #[true, true, true, true, true, true, true, true, true, true, true] rfl rfl (by kernel_rfl) (by decide) ?_
    intro KK hKK
    obtain ⟨w4, hrun4, hm4, hg4⟩ := hst (mn ((f1, f2), (t1, t2)) + 1) hi1
    refine skip_ (wanted_none rfl) rfl (w1 := w4) (exec_entryStore _ (.tmp 16) (.tmp 22) (.tmp 20) rfl _ _ _ _ rfl rfl rfl hrun4) (hKK.out _ _ ?_)
    try simp only [Act.put, List.setIfInBounds_toArray, List.set_cons_zero, List.set_cons_succ]
    refine done_ (by kernel_rfl) ?_
    have hK4 : Keeps (One m2) w1 w4 := hS2.1.grown hg4 (fun k e _ => (Option.some.inj e).symm)
    have hgone : ¬ One m2 g := fun e => hgm e
    have hN4 : Nt w4 g base (.slice Av L.length cv) m1 m2 L (n + 1) sn (upd mn ((f1, f2), (t1, t2)) (mn ((f1, f2), (t1, t2)) + 1)) :=
      ⟨hN1.blk.keeps hK4 hgone, owns_keeps hN1.row hK4 (fun b hb e => (hN1.v_ne hb).2.2 e), fun x hx => (hN1.bytes x hx).keeps hK4 (fun b hb e => hN1.byte_off (hN1.bytes x hx) hb (.inr (.inr (.inl e)))), hN1.apart, (hN1.sent.mono (by omega)).keeps hK4 hN1.ne, hm4, Nat.le_succ_of_le hN1.most, hN1.hg, hN1.ne⟩
    have hB4 := hB1.keeps hK4 hbm
    have hp4 : Row .u8 5 w4 base (.slice Ax zs.length cd) zs := hp1.keeps hK4 (fun b hb e => hN1.byte_off hp1 hb (.inr (.inr (.inl e))))
    have hgv : ¬ OwnB (.slice Av L.length cv) g := fun e => (hN4.v_ne e).1 rfl
    have hbv : ¬ OwnB (.slice Av L.length cv) w.heap.size := fun e => by have := (World.ownsRow.lt hN.row _ e).2; omega
    have hmost := hN.most
    go_wp2_with fail
    refine start_ (ds := [10]) (S := (fun w' => Keeps (OwnB (.slice Av L.length cv)) w4 w')) #[false, false, false, false, false, false, false, false, false, false, false] (by kernel_rfl) rfl rfl ((Keeps.refl _ _).drew) (fun hS0 => ?_)
    refine pure_ (i := 0) (N := some 23) (v := .pointer (some ⟨g, 0, Option.none⟩)) #[true, false, false, false, false, false, false, false, false, false, false] rfl rfl (by kernel_rfl) (fun _ _ _ h => h) (Or.inl ⟨wanted_none rfl, fun w => by rfl⟩) rfl ?_
    try simp only [Act.put, List.setIfInBounds_toArray, List.set_cons_zero, List.set_cons_succ]
    refine pure_ (i := 1) (N := some 24) (v := .pointer (some ⟨g, 0, Option.none⟩)) #[true, true, false, false, false, false, false, false, false, false, false] rfl rfl (by kernel_rfl) (fun _ _ _ h => h) (Or.inl ⟨wanted_none rfl, fun w => by rfl⟩) rfl ?_
    try simp only [Act.put, List.setIfInBounds_toArray, List.set_cons_zero, List.set_cons_succ]
    refine pure_ (i := 2) (N := some 25) (v := .pointer (some ⟨g, 0, Option.none⟩)) #[true, true, true, false, false, false, false, false, false, false, false] rfl rfl (by kernel_rfl) (fun _ _ _ h => h) (Or.inl ⟨wanted_none rfl, fun w => by go_simp⟩) rfl ?_
    try simp only [Act.put, List.setIfInBounds_toArray, List.set_cons_zero, List.set_cons_succ]
    refine pure_ (i := 3) (N := some 26) (v := .pointer (some ⟨g, 0, Option.none⟩)) #[true, true, true, true, false, false, false, false, false, false, false] rfl rfl (by kernel_rfl) (fun _ _ _ h => h) (Or.inl ⟨wanted_none rfl, fun w => by go_simp⟩) rfl ?_
    try simp only [Act.put, List.setIfInBounds_toArray, List.set_cons_zero, List.set_cons_succ]
    refine take_ (i := 4) (N := some 27) (v := .slice Av L.length cv) #[true, true, true, true, true, false, false, false, false, false, false] rfl rfl (by kernel_rfl) (fun _ _ _ h => h) (Or.inl ⟨wanted_none rfl, by intro w' hSw; have q := (hN4.blk.keeps hSw hgv).cell 0 _ rfl; go_simp⟩) hS0 rfl ?_
    try simp only [Act.put, List.setIfInBounds_toArray, List.set_cons_zero, List.set_cons_succ]
    refine take_ (i := 5) (N := some 28) (v := .agg #[.bool f1, .int .i64 f2, .int .i64 ct, .bool t1, .int .i64 t2, .slice Ax zs.length cd]) #[true, true, true, true, true, true, false, false, false, false, false] rfl rfl (by kernel_rfl) (fun _ _ _ h => h) (Or.inl ⟨wanted_none rfl, by intro w' hSw; exact exec_load_pk (.tmp 3) rfl w.heap.size 0 ⟨(f1, f2), ct, (t1, t2), .slice Ax zs.length cd⟩ rfl (hB4.pk.keeps hSw hbv)⟩) hS0 rfl ?_
    try simp only [Act.put, List.setIfInBounds_toArray, List.set_cons_zero, List.set_cons_succ]
    have hbs := Blk.new w4.drew 33 [.bool f1, .int .i64 f2, .int .i64 ct, .bool t1, .int .i64 t2, .slice Ax zs.length cd]
    have ks : Keeps None w4 (w4.drew.alloc (.cells #[.bool f1, .int .i64 f2, .int .i64 ct, .bool t1, .int .i64 t2, .slice Ax zs.length cd] 33)) := ((Keeps.refl _ _).drew).alloc _
    refine one_ (i := 6) (oi := ({ dst := some 29, op := Op.buildSlice 39 1 #[(0, Operand.tmp 28)], type := 39, pos := "net.go:40", after := #[{ on := 5, ground := Ground.data }], guard := Option.none } : Oper)) (N := some 29) #[true, true, true, true, true, true, true, false, false, false, false] rfl rfl (by kernel_rfl) (by decide) ?_
    intro KK hKK
    refine value_ (wanted_none rfl) rfl (w1 := w4.drew.alloc (.cells #[.bool f1, .int .i64 f2, .int .i64 ct, .bool t1, .int .i64 t2, .slice Ax zs.length cd] 33)) (v := .slice (some ⟨w4.drew.heap.size, 0, Option.none⟩) 1 1) (by go_simp) (hKK.out _ _ ks.of_none (fun hS1 => ?_))
    try simp only [Act.put, List.setIfInBounds_toArray, List.set_cons_zero, List.set_cons_succ]
    refine one_ (i := 7) (oi := ({ dst := some 30, op := Op.call { callee := Callee.builtin Builtin.append, args := #[Operand.tmp 27, Operand.tmp 29], argTypes := #[39, 39] }, type := 39, pos := "net.go:40", after := #[{ on := 4, ground := Ground.data }, { on := 6, ground := Ground.data }], guard := Option.none } : Oper)) (N := some 30) #[true, true, true, true, true, true, true, true, false, false, false] rfl rfl (by kernel_rfl) (by decide) ?_
    intro KK hKK
    refine step_append_row _ (wanted_none rfl) rfl (.tmp 27) (.tmp 29) 39 rfl base 33 i0 _ 6 64 Try.underlying39 hi hz0 hz1 hz2 rfl (by decide) (.slice Av L.length cv) L.length L.cells rfl (owns_grew hN4.row ks) (some ⟨w4.drew.heap.size, 0, Option.none⟩) 1 1 [.bool f1, .int .i64 f2, .int .i64 ct, .bool t1, .int .i64 t2, .slice Ax zs.length cd] rfl rfl (fun e => by cases e) (src_cells hbs) (Pk.cells_one (p := ⟨(f1, f2), ct, (t1, t2), .slice Ax zs.length cd⟩) rfl) (by unfold maxLen; omega) (by omega) (by have := ks.size; have := hN4.blk.lt; have := hN4.hg; omega) ?_
    intro v' w5 hown5 hk5 hloc5
    obtain ⟨A5, c5, rfl⟩ := owns_slice hown5
    refine hKK.out _ _ (hS1.andThen hk5 (fun _ _ e => e)) (fun hS2 => ?_)
    try simp only [Act.put, List.setIfInBounds_toArray, List.set_cons_zero, List.set_cons_succ]
    refine pure_ (i := 8) (N := some 31) (v := .pointer (some ⟨g, 0, Option.none⟩)) #[true, true, true, true, true, true, true, true, true, false, false] rfl rfl (by kernel_rfl) (fun _ _ _ h => h) (Or.inl ⟨wanted_none rfl, fun w => by go_simp⟩) rfl ?_
    try simp only [Act.put, List.setIfInBounds_toArray, List.set_cons_zero, List.set_cons_succ]
    refine pure_ (i := 9) (N := some 32) (v := .pointer (some ⟨g, 0, Option.none⟩)) #[true, true, true, true, true, true, true, true, true, true, false] rfl rfl (by kernel_rfl) (fun _ _ _ h => h) (Or.inl ⟨wanted_none rfl, fun w => by go_simp⟩) rfl ?_
    try simp only [Act.put, List.setIfInBounds_toArray, List.set_cons_zero, List.set_cons_succ]
    have hB5 := hN4.blk.keeps hS2 hgv
    have fr5 := hB5.free 0
    have hc5 := hB5.cell 0 _ rfl
    refine last_ (i := 10) (oi := ({ dst := Option.none, op := Op.store 39 (Operand.tmp 32) (Operand.tmp 30), type := 0, pos := "net.go:40", after := #[{ on := 9, ground := Ground.data }, { on := 7, ground := Ground.data }, { on := 7, ground := Ground.chain }, { on := 0, ground := Ground.phase }, { on := 1, ground := Ground.phase }, { on := 2, ground := Ground.phase }, { on := 3, ground := Ground.phase }, { on := 4, ground := Ground.phase }, { on := 5, ground := Ground.phase }, { on := 6, ground := Ground.phase }, { on := 7, ground := Ground.phase }], guard := Option.none } : Oper)) (N := Option.none) #[true, true, true, true, true, true, true, true, true, true, true] rfl rfl (by kernel_rfl) (by decide) ?_
    intro KK hKK
    refine skip_ (wanted_none rfl) rfl (w1 := w5.setCell ⟨g, 0, Option.none⟩ (.slice A5 (L.length + 1) c5)) (by go_simp) (hKK.out _ _ ?_)
    try simp only [Act.put, List.setIfInBounds_toArray, List.set_cons_zero, List.set_cons_succ]
    refine done_ (by kernel_rfl) ?_
    go_wp2_with fail
    go_ret
    have hs1 := hE1.size
    have hs2 := hK4.size
    have hs3 := ks.size
    have hg4' := hN4.blk.lt
    have kg : Keeps (One g) w5 (w5.setCell ⟨g, 0, Option.none⟩ (.slice A5 (L.length + 1) c5)) := (Keeps.refl _ _).setCell _ _ (fun _ => rfl)
    have hB6 := hB5.set 0 (.slice A5 (L.length + 1) c5)
    simp only [List.set] at hB6
    have hv5 : ∀ b, (Value.slice A5 (L.length + 1) c5).ownBlock = some b → ¬ One g b := fun b hb e => by
      simp only [One] at e
      subst e
      rcases hloc5 with h | h
      · exact (hN4.v_ne (h ▸ hb)).1 rfl
      · rw [hb] at h
        have := Option.some.inj h
        omega
    refine .inr ⟨h64, rfl, _, ⟨hB6, ?_, ?_, ?_, ?_, ?_, ?_, hN.hg, hN.ne⟩, ?_, ?_⟩
    · have h1 := owns_keeps hown5 kg hv5
      rw [Way.cells_append]
      simpa [Way.cells, Pk.cells] using h1
    · intro x hx
      rcases List.mem_append.1 hx with h | h
      · exact ((hN4.bytes x h).keeps hS2 (fun b hb e => hN4.byte_off (hN4.bytes x h) hb (.inr (.inr (.inr e))))).keeps kg (fun b hb e => hN4.byte_off (hN4.bytes x h) hb (.inl e))
      · obtain rfl := List.mem_singleton.1 h
        exact (hp4.keeps hS2 (fun b hb e => hN4.byte_off hp4 hb (.inr (.inr (.inr e))))).keeps kg (fun b hb e => hN4.byte_off hp4 hb (.inl e))
    · refine List.pairwise_append.2 ⟨hN.apart, List.pairwise_singleton _ _, fun x hx y hy => ?_⟩
      obtain rfl := List.mem_singleton.1 hy
      exact hap x hx
    · exact (hN4.sent.keeps hS2 (fun e => (hN4.v_ne e).2.1 rfl)).keeps kg (fun e => hN4.g_m.1 e.symm)
    · exact (hN4.many.keeps hS2 (fun e => (hN4.v_ne e).2.2 rfl)).keeps kg (fun e => hN4.g_m.2 e.symm)
    · simp; omega
    · refine (((((Keeps.refl None w).alloc _).trans hE1).of_none.andThen hK4 ?_).andThen hS2 ?_).andThen kg ?_
      · exact fun _ _ e => .inr (.inr (.inl e))
      · exact fun _ _ e => .inr (.inr (.inr e))
      · exact fun _ _ e => .inl e
    · rcases hloc5 with h | h
      · exact .inl h
      · refine .inr ⟨_, h, ?_⟩
        simp at hs1 hs3 ⊢
        omega
end Go.Proofs.Ytcplogdaepmpnaa
