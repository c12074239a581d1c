/- A packet is sent. Printed by wip/mksend.sh. -/
import Derived.Test.YtcplogdaepmpnaaNetComes
namespace Go.Proofs.Ytcplogdaepmpnaa
open Go.RowKit Go.Maps Go.ChangeMaps Go.WideElems Go.Proofs.YtcplogdaepmpnaaW.PrintLast

def SendEnd (g base : Nat) (v : Value) (m1 m2 : Nat) (L : Way) (n : Nat) (sn : Ad → Int) (mn : Pr → Int) (p : Pk) (zs : List Int) (w : World) (e : Ending) (w' : World) : Prop :=
  (64 ≤ mn p.pair ∧ e = .returned (.tuple #[.int .i64 (sn p.fr + 1), .bool false]) ∧ Nt w' g base v m1 m2 L (n + 2) (upd sn p.fr (sn p.fr + 1)) mn ∧ Keeps (Mine g m1 m2 v) w w') ∨
  (mn p.pair < 64 ∧ e = .returned (.tuple #[.int .i64 (sn p.fr + 1), .bool true]) ∧ ∃ v' d, Nt w' g base v' m1 m2 (L ++ [({p with ct := sn p.fr + 1, dv := d}, zs)]) (n + 2) (upd sn p.fr (sn p.fr + 1)) (upd mn p.pair (mn p.pair + 1)) ∧
    Keeps (Mine g m1 m2 v) w w' ∧ NewLoc v v' w ∧ ∀ b, d.ownBlock = some b → w.heap.size ≤ b)

set_option maxRecDepth 100000 in
set_option maxHeartbeats 4000000 in
theorem send_any (g base : Nat) (v : Value) (m1 m2 : Nat) (L : Way) (n : Nat) (sn : Ad → Int) (mn : Pr → Int) (p : Pk) (zs : List Int) (Ax : Option Addr) (k cd : Nat) (w : World) (hN : Nt w g base v m1 m2 L n sn mn) (hp : p.dv = .slice Ax k cd) (hA : Nums .u8 w Ax zs) (hk : zs.length = k) (hr : k ≤ 140737488351232)
    (ha : IntV p.fr.2) (hb2 : IntV p.to.2) (hi1 : IntV (sn p.fr + 1)) (hn : n ≤ 1000000000000) :
    Calls Try.prog 11 #[.pointer (some ⟨g, 0, Option.none⟩), p.val] w (SendEnd g base v m1 m2 L n sn mn p zs w) := by
  obtain ⟨⟨f1, f2⟩, ct, ⟨t1, t2⟩, dv0⟩ := p
  subst hk
  simp only at hp ha hb2 hi1
  subst hp
  have hwrap := wrap_intV _ hi1
  have hgl := hN.blk.lt
  have hsl := hN.sent.lt
  have hml := hN.many.lt
  have hvl : ∀ b, v.ownBlock = some b → b < w.heap.size := fun b hb => (World.ownsRow.lt hN.row b hb).2
  have hgm : ¬ One m1 g := hN.g_m.1
  have hbm : ¬ One m1 w.heap.size := fun e => by simp [One] at e; omega
  have hbox : ¬ Mine g m1 m2 v w.heap.size := by
    rintro (e | e | e | e)
    · omega
    · omega
    · omega
    · have := hvl _ e; omega
  have hb := Blk.new w 33 [.bool f1, .int .i64 f2, .int .i64 ct, .bool t1, .int .i64 t2, .slice Ax zs.length cd]
  have k0 := (Keeps.refl None w).alloc (.cells #[.bool f1, .int .i64 f2, .int .i64 ct, .bool t1, .int .i64 t2, .slice Ax zs.length cd] 33)
  have hN0 := hN.grew k0
  simp only [Pk.val]
  go_enter Try.func11, Try.ntmps11
  go_wp2_with fail
  refine start_ (ds := [10]) (S := (fun w' => Keeps (One m1) (w.alloc (.cells #[.bool f1, .int .i64 f2, .int .i64 ct, .bool t1, .int .i64 t2, .slice Ax zs.length cd] 33)) w' ∧ MapF keysA w' m1 (n + 1) sn)) #[false, false, false, false, false, false, false, false, false, false, false] (by kernel_rfl) rfl rfl ⟨(Keeps.refl _ _).drew, (hN0.sent.mono (by omega)).of_block rfl⟩ (fun hS0 => ?_)
  refine pure_ (i := 0) (N := some 6) (v := .pointer (some ⟨g, 0, Option.none⟩)) #[true, false, false, false, false, false, false, false, false, false, false] rfl rfl (by kernel_rfl) (fun _ _ _ h => h) (Or.inl ⟨wanted_none rfl, fun w => by rfl⟩) rfl ?_
  try simp only [Act.put, List.setIfInBounds_toArray, List.set_cons_zero, List.set_cons_succ]
  refine pure_ (i := 1) (N := some 7) (v := .pointer (some ⟨g, 0, Option.none⟩)) #[true, true, false, false, false, false, false, false, false, false, false] rfl rfl (by kernel_rfl) (fun _ _ _ h => h) (Or.inl ⟨wanted_none rfl, fun w => by go_simp⟩) rfl ?_
  try simp only [Act.put, List.setIfInBounds_toArray, List.set_cons_zero, List.set_cons_succ]
  refine pure_ (i := 2) (N := some 8) (v := .pointer (some ⟨g, 1, Option.none⟩)) #[true, true, true, false, false, false, false, false, false, false, false] rfl rfl (by kernel_rfl) (fun _ _ _ h => h) (Or.inl ⟨wanted_none rfl, fun w => by go_simp⟩) rfl ?_
  try simp only [Act.put, List.setIfInBounds_toArray, List.set_cons_zero, List.set_cons_succ]
  refine take_ (i := 3) (N := some 9) (v := .map (some m1)) #[true, true, true, true, false, false, false, false, false, false, false] rfl rfl (by kernel_rfl) (fun _ _ _ h => h) (Or.inl ⟨wanted_none rfl, by intro w' hSw; have q := (hN0.blk.keeps hSw.1 hgm).cell 1 _ rfl; go_simp⟩) hS0 rfl ?_
  try simp only [Act.put, List.setIfInBounds_toArray, List.set_cons_zero, List.set_cons_succ]
  refine pure_ (i := 4) (N := some 10) (v := .pointer (some ⟨w.heap.size, 0, Option.none⟩)) #[true, true, true, true, true, false, false, false, false, false, false] rfl rfl (by kernel_rfl) (fun _ _ _ h => h) (Or.inl ⟨wanted_none rfl, fun w => by go_simp⟩) rfl ?_
  try simp only [Act.put, List.setIfInBounds_toArray, List.set_cons_zero, List.set_cons_succ]
  refine take_ (i := 5) (N := some 11) (v := .agg #[.bool f1, .int .i64 f2]) #[true, true, true, true, true, true, false, false, false, false, false] rfl rfl (by kernel_rfl) (fun _ _ _ h => h) (Or.inl ⟨wanted_none rfl, by intro w' hSw; exact exec_load_ad (.tmp 10) rfl w.heap.size 0 (f1, f2) rfl ((hb.keeps hSw.1 hbm).cell 0 _ rfl) ((hb.keeps hSw.1 hbm).cell 1 _ rfl)⟩) hS0 rfl ?_
  try simp only [Act.put, List.setIfInBounds_toArray, List.set_cons_zero, List.set_cons_succ]
  refine take_ (i := 6) (N := some 12) (v := .int .i64 (sn (f1, f2))) #[true, true, true, true, true, true, true, false, false, false, false] rfl rfl (by kernel_rfl) (fun _ _ _ h => h) (Or.inl ⟨wanted_none rfl, by intro w' hSw; exact exec_lookup _ (.tmp 9) (.tmp 11) rfl _ _ _ rfl rfl (hSw.2.look Try.underlying65 (f1, f2) ha).1⟩) hS0 rfl ?_
  try simp only [Act.put, List.setIfInBounds_toArray, List.set_cons_zero, List.set_cons_succ]
  refine pure_ (i := 7) (N := some 13) (v := .int .i64 (sn (f1, f2) + 1)) #[true, true, true, true, true, true, true, true, false, false, false] rfl rfl (by kernel_rfl) (fun _ _ _ h => h) (Or.inl ⟨wanted_none rfl, fun w => by go_simp⟩) rfl ?_
  try simp only [Act.put, List.setIfInBounds_toArray, List.set_cons_zero, List.set_cons_succ]
  refine one_ (i := 8) (oi := ({ dst := some 14, op := Op.mapEntry 65 (Operand.tmp 9) (Operand.tmp 11), type := 0, pos := "net.go:46", after := #[{ on := 3, ground := Ground.data }, { on := 5, ground := Ground.data }, { on := 0, ground := Ground.phase }, { on := 1, ground := Ground.phase }, { on := 2, ground := Ground.phase }, { on := 3, ground := Ground.phase }, { on := 4, ground := Ground.phase }, { on := 5, ground := Ground.phase }, { on := 6, ground := Ground.textOnly Departure.mapOpAssignEntry }, { on := 7, ground := Ground.textOnly Departure.mapOpAssignEntry }], guard := Option.none } : Oper)) (N := some 14) #[true, true, true, true, true, true, true, true, true, false, false] rfl rfl (by kernel_rfl) (by decide) ?_
  intro KK hKK
  obtain ⟨v0, st, w3, hrun, hm3, hg3, hst⟩ := (hN0.sent.of_block (w' := (w.alloc (.cells #[.bool f1, .int .i64 f2, .int .i64 ct, .bool t1, .int .i64 t2, .slice Ax zs.length cd] 33)).drew) rfl).entry Try.underlying65 (by unfold maxLen; omega) (f1, f2) ha
  refine value_ (wanted_none rfl) rfl (w1 := w3) (v := .tuple #[v0, .int .i64 (st : Int)]) (exec_mapEntry _ (.tmp 9) (.tmp 11) rfl _ _ _ _ rfl rfl hrun) (hKK.out _ _ ⟨hS0.1.andThen ((Keeps.refl (One m1) _).grown hg3 (fun k e _ => (Option.some.inj e).symm)) (fun _ _ e => e), hm3⟩ (fun hS1 => ?_))
  try simp only [Act.put, List.setIfInBounds_toArray, List.set_cons_zero, List.set_cons_succ]
  refine pure_ (i := 9) (N := some 15) (v := .int .i64 (st : Int)) #[true, true, true, true, true, true, true, true, true, true, false] rfl rfl (by kernel_rfl) (fun _ _ _ h => h) (Or.inl ⟨wanted_none rfl, fun w => by rfl⟩) rfl ?_
  try simp only [Act.put, List.setIfInBounds_toArray, List.set_cons_zero, List.set_cons_succ]
  refine last_ (i := 10) (oi := ({ dst := Option.none, op := Op.entryStore 65 (Operand.tmp 9) (Operand.tmp 15) (Operand.tmp 13), type := 0, pos := "net.go:46", after := #[{ on := 3, ground := Ground.data }, { on := 9, ground := Ground.data }, { on := 7, ground := Ground.data }, { on := 8, ground := Ground.chain }, { on := 0, ground := Ground.phase }, { on := 1, ground := Ground.phase }, { on := 2, ground := Ground.phase }, { on := 3, ground := Ground.phase }, { on := 4, ground := Ground.phase }, { on := 5, ground := Ground.phase }, { on := 6, ground := Ground.phase }, { on := 7, ground := Ground.phase }, { on := 8, ground := Ground.phase }, { on := 9, ground := Ground.phase }], guard := Option.none } : Oper)) (N := Option.none) #[true, true, true, true, true, true, true, true, true, true, true] rfl rfl (by kernel_rfl) (by decide) ?_
  intro KK hKK
  obtain ⟨w4, hrun4, hm4, hg4⟩ := hst (sn (f1, f2) + 1) hi1
  refine skip_ (wanted_none rfl) rfl (w1 := w4) (exec_entryStore _ (.tmp 9) (.tmp 15) (.tmp 13) rfl _ _ _ _ rfl rfl rfl hrun4) (hKK.out _ _ ?_)
  try simp only [Act.put, List.setIfInBounds_toArray, List.set_cons_zero, List.set_cons_succ]
  refine done_ (by kernel_rfl) ?_
  have hK4 := hS1.1.grown hg4 (fun k e _ => (Option.some.inj e).symm)
  have hN4 : Nt w4 g base v m1 m2 L (n + 1) (upd sn (f1, f2) (sn (f1, f2) + 1)) mn :=
    ⟨hN0.blk.keeps hK4 hgm, owns_keeps hN0.row hK4 (fun b hb e => (hN0.v_ne hb).2.1 e), fun x hx => (hN0.bytes x hx).keeps hK4 (fun b hb e => hN0.byte_off (hN0.bytes x hx) hb (.inr (.inl e))), hN0.apart, hm4, (hN0.many.mono (by omega)).keeps hK4 (fun e => hN0.ne e.symm), Nat.le_succ_of_le hN0.most, hN0.hg, hN0.ne⟩
  have hB4 := hb.keeps hK4 hbm
  go_wp2_with fail
  refine start_ (ds := [8]) (S := (fun w' => Keeps None w4 w')) #[false, false, false, false, false, false, false, false, false] (by kernel_rfl) rfl rfl ((Keeps.refl _ _).drew) (fun hS0 => ?_)
  refine pure_ (i := 0) (N := some 16) (v := .pointer (some ⟨g, 0, Option.none⟩)) #[true, false, false, false, false, false, false, false, false] rfl rfl (by kernel_rfl) (fun _ _ _ h => h) (Or.inl ⟨wanted_none rfl, fun w => by rfl⟩) rfl ?_
  try simp only [Act.put, List.setIfInBounds_toArray, List.set_cons_zero, List.set_cons_succ]
  refine pure_ (i := 1) (N := some 17) (v := .pointer (some ⟨g, 0, Option.none⟩)) #[true, true, false, false, false, false, false, false, false] rfl rfl (by kernel_rfl) (fun _ _ _ h => h) (Or.inl ⟨wanted_none rfl, fun w => by go_simp⟩) rfl ?_
  try simp only [Act.put, List.setIfInBounds_toArray, List.set_cons_zero, List.set_cons_succ]
  refine pure_ (i := 2) (N := some 18) (v := .pointer (some ⟨g, 1, Option.none⟩)) #[true, true, true, false, false, false, false, false, false] rfl rfl (by kernel_rfl) (fun _ _ _ h => h) (Or.inl ⟨wanted_none rfl, fun w => by go_simp⟩) rfl ?_
  try simp only [Act.put, List.setIfInBounds_toArray, List.set_cons_zero, List.set_cons_succ]
  refine take_ (i := 3) (N := some 19) (v := .map (some m1)) #[true, true, true, true, false, false, false, false, false] rfl rfl (by kernel_rfl) (fun _ _ _ h => h) (Or.inl ⟨wanted_none rfl, by intro w' hSw; have q := (hN4.grew hSw).blk.cell 1 _ rfl; go_simp⟩) hS0 rfl ?_
  try simp only [Act.put, List.setIfInBounds_toArray, List.set_cons_zero, List.set_cons_succ]
  refine pure_ (i := 4) (N := some 20) (v := .pointer (some ⟨w.heap.size, 0, Option.none⟩)) #[true, true, true, true, true, false, false, false, false] rfl rfl (by kernel_rfl) (fun _ _ _ h => h) (Or.inl ⟨wanted_none rfl, fun w => by go_simp⟩) rfl ?_
  try simp only [Act.put, List.setIfInBounds_toArray, List.set_cons_zero, List.set_cons_succ]
  refine take_ (i := 5) (N := some 21) (v := .agg #[.bool f1, .int .i64 f2]) #[true, true, true, true, true, true, false, false, false] rfl rfl (by kernel_rfl) (fun _ _ _ h => h) (Or.inl ⟨wanted_none rfl, by intro w' hSw; exact exec_load_ad (.tmp 20) rfl w.heap.size 0 (f1, f2) rfl ((hB4.grew hSw).cell 0 _ rfl) ((hB4.grew hSw).cell 1 _ rfl)⟩) hS0 rfl ?_
  try simp only [Act.put, List.setIfInBounds_toArray, List.set_cons_zero, List.set_cons_succ]
  refine take_ (i := 6) (N := some 22) (v := .int .i64 (sn (f1, f2) + 1)) #[true, true, true, true, true, true, true, false, false] rfl rfl (by kernel_rfl) (fun _ _ _ h => h) (Or.inl ⟨wanted_none rfl, by intro w' hSw; have q := ((hN4.grew hSw).sent.look Try.underlying65 (f1, f2) ha).1; rw [upd_same] at q; exact exec_lookup _ (.tmp 19) (.tmp 21) rfl _ _ _ rfl rfl q⟩) hS0 rfl ?_
  try simp only [Act.put, List.setIfInBounds_toArray, List.set_cons_zero, List.set_cons_succ]
  refine pure_ (i := 7) (N := some 23) (v := .pointer (some ⟨w.heap.size, 2, Option.none⟩)) #[true, true, true, true, true, true, true, true, false] rfl rfl (by kernel_rfl) (fun _ _ _ h => h) (Or.inl ⟨wanted_none rfl, fun w => by go_simp⟩) rfl ?_
  try simp only [Act.put, List.setIfInBounds_toArray, List.set_cons_zero, List.set_cons_succ]
  have fr5 := (hB4.grew hS0).free 2
  have hc5 := (hB4.grew hS0).cell 2 _ rfl
  refine last_ (i := 8) (oi := ({ dst := Option.none, op := Op.store 3 (Operand.tmp 23) (Operand.tmp 22), type := 0, pos := "net.go:47", after := #[{ on := 7, ground := Ground.data }, { on := 6, ground := Ground.data }, { on := 0, ground := Ground.phase }, { on := 1, ground := Ground.phase }, { on := 2, ground := Ground.phase }, { on := 3, ground := Ground.phase }, { on := 4, ground := Ground.phase }, { on := 5, ground := Ground.phase }, { on := 6, ground := Ground.phase }], guard := Option.none } : Oper)) (N := Option.none) #[true, true, true, true, true, true, true, true, true] rfl rfl (by kernel_rfl) (by decide) ?_
  intro KK hKK
  refine skip_ (wanted_none rfl) rfl (w1 := w4.drew.setCell ⟨w.heap.size, 2, Option.none⟩ (.int .i64 (sn (f1, f2) + 1))) (by go_simp) (hKK.out _ _ ?_)
  try simp only [Act.put, List.setIfInBounds_toArray, List.set_cons_zero, List.set_cons_succ]
  refine done_ (by kernel_rfl) ?_
  have kb : Keeps (One w.heap.size) w4 (w4.drew.setCell ⟨w.heap.size, 2, Option.none⟩ (.int .i64 (sn (f1, f2) + 1))) := ((Keeps.refl _ _).drew).setCell _ _ (fun _ => rfl)
  have hB6 := (hB4.grew (Keeps.refl _ _).drew).set 2 (.int .i64 (sn (f1, f2) + 1))
  simp only [List.set] at hB6
  have hN6 := hN4.keeps kb (fun b hm e => hbox (by rw [← show b = w.heap.size from e]; exact hm)) (fun x hx b hb e => by
    have h1 := ((hN.bytes x hx).lt b hb).2
    simp only [One] at e
    omega)
  have hA4 : Nums .u8 w4 Ax zs := (hA.grew k0).shun hK4 (fun b o x e => by
    obtain ⟨es, clock, hm⟩ := hN0.sent.obj
    rw [show b = m1 from e]
    exact cell_map hm o _)
  have hA6 : Nums .u8 (w4.drew.setCell ⟨w.heap.size, 2, Option.none⟩ (.int .i64 (sn (f1, f2) + 1))) Ax zs := hA4.shun kb (fun b o x e => by
    rw [show b = w.heap.size from e]
    intro hc
    match o, hc with
    | 0, hc => rw [hB4.cell 0 _ rfl] at hc; cases hc
    | 1, hc => rw [hB4.cell 1 _ rfl] at hc; cases hc
    | 2, hc => rw [hB4.cell 2 _ rfl] at hc; cases hc
    | 3, hc => rw [hB4.cell 3 _ rfl] at hc; cases hc
    | 4, hc => rw [hB4.cell 4 _ rfl] at hc; cases hc
    | 5, hc => rw [hB4.cell 5 _ rfl] at hc; cases hc
    | o + 6, hc =>
      have := hB4.raw
      unfold World.cell? at hc
      rw [this] at hc
      simp at hc)
  have hK6 : Keeps (Mine g m1 m2 v) w (w4.drew.setCell ⟨w.heap.size, 2, Option.none⟩ (.int .i64 (sn (f1, f2) + 1))) := (k0.of_none.andThen hK4 (fun _ _ e => .inr (.inl e))).andThen kb (fun i hi e => by simp only [One] at e; omega)
  generalize w4.drew.setCell ⟨w.heap.size, 2, Option.none⟩ (.int .i64 (sn (f1, f2) + 1)) = w6 at kb hB6 hN6 hA6 hK6 ⊢
  go_wp2_with fail
  refine start_ (ds := []) (S := (fun w' => Blk w' w.heap.size 33 [.bool f1, .int .i64 f2, .int .i64 (sn (f1, f2) + 1), .bool t1, .int .i64 t2, .slice Ax zs.length cd])) #[false, false, false, false, false, false, false, false] (by kernel_rfl) rfl rfl hB6 (fun hS0 => ?_)
  refine pure_ (i := 0) (N := some 24) (v := .pointer (some ⟨w.heap.size, 2, Option.none⟩)) #[true, false, false, false, false, false, false, false] rfl rfl (by kernel_rfl) (fun _ _ _ h => h) (Or.inl ⟨wanted_none rfl, fun w => by go_simp⟩) rfl ?_
  try simp only [Act.put, List.setIfInBounds_toArray, List.set_cons_zero, List.set_cons_succ]
  refine take_ (i := 1) (N := some 25) (v := .int .i64 (sn (f1, f2) + 1)) #[true, true, false, false, false, false, false, false] rfl rfl (by kernel_rfl) (fun _ _ _ h => h) (Or.inl ⟨wanted_none rfl, by intro w' hSw; have q := Blk.cell hSw 2 _ rfl; go_simp⟩) hS0 rfl ?_
  try simp only [Act.put, List.setIfInBounds_toArray, List.set_cons_zero, List.set_cons_succ]
  refine pure_ (i := 2) (N := some 26) (v := .pointer (some ⟨g, 0, Option.none⟩)) #[true, true, true, false, false, false, false, false] rfl rfl (by kernel_rfl) (fun _ _ _ h => h) (Or.inl ⟨wanted_none rfl, fun w => by rfl⟩) rfl ?_
  try simp only [Act.put, List.setIfInBounds_toArray, List.set_cons_zero, List.set_cons_succ]
  refine take_ (i := 3) (N := some 27) (v := .agg #[.bool f1, .int .i64 f2, .int .i64 (sn (f1, f2) + 1), .bool t1, .int .i64 t2, .slice Ax zs.length cd]) #[true, true, true, true, false, false, false, false] rfl rfl (by kernel_rfl) (fun _ _ _ h => h) (Or.inl ⟨wanted_none rfl, by intro w' hSw; exact exec_load_pk (.tmp 3) rfl w.heap.size 0 ⟨(f1, f2), sn (f1, f2) + 1, (t1, t2), .slice Ax zs.length cd⟩ rfl (Blk.pk hSw)⟩) hS0 rfl ?_
  try simp only [Act.put, List.setIfInBounds_toArray, List.set_cons_zero, List.set_cons_succ]
  refine one_ (i := 4) (oi := ({ dst := some 28, op := Op.call { callee := Callee.value (Operand.func 30), args := #[Operand.tmp 27], argTypes := #[33] }, type := 33, pos := "net.go:48", after := #[{ on := 3, ground := Ground.data }], guard := Option.none } : Oper)) (N := some 28) #[true, true, true, true, true, false, false, false] rfl rfl (by kernel_rfl) (by decide) ?_
  intro KK hKK
  refine goes_ Try.func30 (by kernel_rfl) rfl #[.agg #[.bool f1, .int .i64 f2, .int .i64 (sn (f1, f2) + 1), .bool t1, .int .i64 t2, .slice Ax zs.length cd]] (wanted_none rfl) rfl rfl (by simp [Act.eval]) ?_
  refine (twin_any ⟨(f1, f2), sn (f1, f2) + 1, (t1, t2), .slice Ax zs.length cd⟩ Ax zs.length cd zs _ rfl (hA6.grew (Keeps.refl _ _).drew) rfl hr).mono ?_
  rintro e w7 ⟨dv, rfl, hrow7, hk7⟩
  have hN7 := (hN6.grew (Keeps.refl _ _).drew).grew hk7
  refine ⟨_, rfl, hKK.out _ _ (Blk.grew hS0 hk7) (fun hS1 => ?_)⟩
  try simp only [Act.put, List.setIfInBounds_toArray, List.set_cons_zero, List.set_cons_succ]
  refine one_ (i := 5) (oi := ({ dst := some 29, op := Op.call { callee := Callee.value (Operand.func 29), args := #[Operand.tmp 26, Operand.tmp 28], argTypes := #[24, 33] }, type := 4, pos := "net.go:48", after := #[{ on := 2, ground := Ground.data }, { on := 4, ground := Ground.data }, { on := 4, ground := Ground.chain }], guard := Option.none } : Oper)) (N := some 29) #[true, true, true, true, true, true, false, false] rfl rfl (by kernel_rfl) (by decide) ?_
  intro KK hKK
  refine goes_ Try.func29 (by kernel_rfl) rfl #[.pointer (some ⟨g, 0, Option.none⟩), .agg #[.bool f1, .int .i64 f2, .int .i64 (sn (f1, f2) + 1), .bool t1, .int .i64 t2, dv]] (wanted_none rfl) rfl rfl (by simp [Act.eval, Pk.val]) ?_
  refine (comes_any g base v m1 m2 L (n + 1) (upd sn (f1, f2) (sn (f1, f2) + 1)) mn ⟨(f1, f2), sn (f1, f2) + 1, (t1, t2), dv⟩ zs _ hN7 (hrow7.rebase ?_) ?_ ha hb2 (by omega)).mono ?_
  · intro b hb; have := (hrow7.lt b hb).1; have := hN.hg; have : w.heap.size ≤ w6.heap.size := hK6.size; simp only [World.size_drew] at *; omega
  · intro x hx b hb e; have := (hrow7.lt b e).1; have := ((hN.bytes x hx).lt b hb).2; have : w.heap.size ≤ w6.heap.size := hK6.size; simp only [World.size_drew] at *; omega
  rintro e w8 hcome
  obtain ⟨TB, rfl, hk8⟩ : ∃ TB : Bool, e = .returned (.bool TB) ∧ Keeps (Mine g m1 m2 v) w7 w8 := by
    rcases hcome with ⟨_, h, hk⟩ | ⟨_, h, _, _, hk, _⟩
    · exact ⟨false, h, hk.of_none⟩
    · exact ⟨true, h, hk⟩
  refine ⟨_, rfl, hKK.out _ _ (Blk.keeps hS1 hk8 hbox) (fun hS2 => ?_)⟩
  try simp only [Act.put, List.setIfInBounds_toArray, List.set_cons_zero, List.set_cons_succ]
  refine pure_ (i := 6) (N := some 4) (v := .int .i64 (sn (f1, f2) + 1)) #[true, true, true, true, true, true, true, false] rfl rfl (by kernel_rfl) (fun _ _ _ h => h) (Or.inl ⟨wanted_none rfl, fun w => by rfl⟩) rfl ?_
  try simp only [Act.put, List.setIfInBounds_toArray, List.set_cons_zero, List.set_cons_succ]
  refine pure_ (i := 7) (N := some 5) (v := .bool TB) #[true, true, true, true, true, true, true, true] rfl rfl (by kernel_rfl) (fun _ _ _ h => h) (Or.inl ⟨wanted_none rfl, fun w => by rfl⟩) rfl ?_
  try simp only [Act.put, List.setIfInBounds_toArray, List.set_cons_zero, List.set_cons_succ]
  refine done_ (by kernel_rfl) ?_
  go_wp2_with fail
  refine bodyPost_ret (results_tmp2 rfl _ _ _) rfl ?_
  have hs7 := hk7.size
  have hK7 : Keeps (Mine g m1 m2 v) w w7 := (hK6.drew.andThen hk7 (fun _ _ f => f.elim))
  rcases hcome with ⟨hm, ht, hk⟩ | ⟨hm, ht, v', hN8, hk, hloc⟩
  · obtain rfl : TB = false := by simpa using ht
    exact .inl ⟨hm, rfl, (hN7.grew hk).mono (by omega), hK7.andThen hk (fun _ _ f => f.elim)⟩
  · obtain rfl : TB = true := by simpa using ht
    have hs6 := hK6.size
    refine .inr ⟨hm, rfl, v', dv, hN8, hK7.andThen hk (fun _ _ e => e), ?_, ?_⟩
    · rcases hloc with h | ⟨b, h1, h2⟩
      · exact .inl h
      · refine .inr ⟨b, h1, ?_⟩
        simp only [World.size_drew] at *
        omega
    · intro b hb
      have := (hrow7.lt b hb).1
      simp only [World.size_drew] at *
      omega
end Go.Proofs.Ytcplogdaepmpnaa
