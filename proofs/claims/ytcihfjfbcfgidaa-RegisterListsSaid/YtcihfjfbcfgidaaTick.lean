/- The machine's Tick, Begin and Done at every phase. -/
import Derived.Test.YtcihfjfbcfgidaaTake
import Derived.Handy
namespace Go.Proofs.Ytcihfjfbcfgidaa
open Go.RowKit Go.Maps Go.Proofs.Ytcihfjfbcfgidaa.TG Go.Proofs.Ytcihfjfbcfgidaa.TB Go.Proofs.YtcihfjfbcfgidaaW.PrintLast

def missA (grp : List Int) (qs : List Ans) : List Int := grp.filter fun s => !(lookA qs s).isSome
def missS (grp : List Int) (ss : List Int) : List Int := grp.filter fun s => !(decide (s ∈ ss))
theorem missF_rec (grp : List Int) (rs : List Rec) : TG.missF grp (rs.map Rec.pair) = missA grp (rs.map Rec.ans) := by
  unfold TG.missF missA
  congr 1
  funext s
  rw [lookV_pair, lookA_ans]
  simp
theorem missF_zb (grp : List Int) (ss : List Int) : TG.missF grp (ss.map zb) = missS grp ss := by
  unfold TG.missF missS
  congr 1
  funext s
  rw [lookV_zb]
def tickF (h : Hd) (round : Int) : Ph → OutS
  | .asking qs => .msgs 1 round (0, 0) [] (missA h.grp qs)
  | .laying ss tag ds => .msgs 2 round tag ds (missS h.grp ss)
  | _ => .no
def beginF (h : Hd) (round : Int) : Ph → Int × Ph × OutS
  | .fresh => if 1 ≤ round ∧ round ≤ 1099511627776 then (round, .asking [], .msgs 1 round (0, 0) [] h.grp) else (round, .ended 4 (0, 0) [], .no)
  | p => (round, p, .no)

set_option maxRecDepth 100000 in
set_option maxHeartbeats 1600000 in
theorem missing1 (tg base : Nat) (v : Value) (grp : List Int) (need : Int) (bm : Nat) (got : List (Int × Value)) (w : World) (hT : TB.Tal w tg base v grp need bm got) (hwf : ∀ s ∈ grp, (Lit.int .i64 s).wf = true) (hgl : grp.length ≤ 1000) :
    Calls Try.prog 99 #[.agg #[.pointer (some ⟨tg, 0, Option.none⟩)]] w fun e w' => ∃ v, e = .returned v ∧ Row .i64 3 w' w.heap.size v (TG.missF grp got) ∧ Keeps None w w' := by
  have kX := (Keeps.refl None w).alloc (.cells #[.pointer (some ⟨tg, 0, Option.none⟩)] 162)
  have hs := kX.size
  go_enter Try.func99, Try.ntmps99
  go_wp2_with fail
  refine (TB.missing_any tg base v grp need bm got _ (hT.grew kX) hwf (by omega)).mono ?_
  rintro e w2 ⟨u, rfl, hu, hk⟩
  go_wp2_with fail
  go_ret
  exact ⟨_, rfl, hu.down hs, kX.trans hk⟩
set_option maxRecDepth 100000 in
set_option maxHeartbeats 1600000 in
theorem missing2 (tg base : Nat) (t1 t2 : Int) (A : Option Addr) (n c : Nat) (v : Value) (grp : List Int) (need : Int) (bm : Nat) (got : List (Int × Value)) (w : World) (hT : TB.Tal w tg base v grp need bm got) (hwf : ∀ s ∈ grp, (Lit.int .i64 s).wf = true) (hgl : grp.length ≤ 1000) :
    Calls Try.prog 115 #[.agg #[.pointer (some ⟨tg, 0, Option.none⟩), .int .i64 t1, .int .i64 t2, .slice A n c]] w fun e w' => ∃ v, e = .returned v ∧ Row .i64 3 w' w.heap.size v (TG.missF grp got) ∧ Keeps None w w' := by
  have kX := (Keeps.refl None w).alloc (.cells #[.pointer (some ⟨tg, 0, Option.none⟩), .int .i64 t1, .int .i64 t2, .slice A n c] 183)
  have hs := kX.size
  go_enter Try.func115, Try.ntmps115
  go_wp2_with fail
  refine (TB.missing_any tg base v grp need bm got _ (hT.grew kX) hwf (by omega)).mono ?_
  rintro e w2 ⟨u, rfl, hu, hk⟩
  go_wp2_with fail
  go_ret
  exact ⟨_, rfl, hu.down hs, kX.trans hk⟩

/-- What is told, and nothing else done. -/
theorem Mach.told {w w' : World} {base g : Nat} {X : Nat → Prop} {h : Hd} {round : Int} {ph : Ph} {out : OutS} {u : Value} (hM : Mach w base X g h round ph) (hk : Keeps None w w') (ho : OutAt w' w.heap.size h u out) : StepEnd w base X g h round ph out (.returned u) w' :=
  ⟨X, w.heap.size, _, rfl, hM.grew hk, ho, fun _ h => h, fun b hb => .inl hb, fun b hb => (hM.X b hb).2, Nat.le_refl _, hk.of_none⟩

set_option maxRecDepth 100000 in
set_option maxHeartbeats 1600000 in
theorem fresh_missing (w : World) : Calls Try.prog 93 #[.agg #[]] w fun e w' => ∃ v, e = .returned v ∧ Row .i64 3 w' w.heap.size v [] ∧ Keeps None w w' := by
  go_enter Try.func93, Try.ntmps93
  go_wp2_with fail
  go_ret
  exact ⟨_, rfl, Row.nil _ _ _ _, (Keeps.refl _ _).alloc _⟩
set_option maxRecDepth 100000 in
set_option maxHeartbeats 1600000 in
theorem fresh_ask (g : Nat) (A : Option Addr) (n c : Nat) (w : World) : Calls Try.prog 92 #[.agg #[], .pointer (some ⟨g, 0, Option.none⟩), .slice A n c] w fun e w' => e = .returned (.slice Option.none 0 0) ∧ Keeps None w w' := by
  go_enter Try.func92, Try.ntmps92
  go_wp2_with fail
  go_ret
  exact ⟨rfl, (Keeps.refl _ _).alloc _⟩
set_option maxRecDepth 100000 in
set_option maxHeartbeats 1600000 in
theorem ended_missing (cs : Array Value) (w : World) : Calls Try.prog 112 #[.agg cs] w fun e w' => ∃ v, e = .returned v ∧ Row .i64 3 w' w.heap.size v [] ∧ Keeps None w w' := by
  go_enter Try.func112, Try.ntmps112
  go_wp2_with fail
  go_ret
  exact ⟨_, rfl, Row.nil _ _ _ _, (Keeps.refl _ _).alloc _⟩
set_option maxRecDepth 100000 in
set_option maxHeartbeats 1600000 in
theorem ended_ask (g : Nat) (cs : Array Value) (A : Option Addr) (n c : Nat) (w : World) : Calls Try.prog 111 #[.agg cs, .pointer (some ⟨g, 0, Option.none⟩), .slice A n c] w fun e w' => e = .returned (.slice Option.none 0 0) ∧ Keeps None w w' := by
  go_enter Try.func111, Try.ntmps111
  go_wp2_with fail
  go_ret
  exact ⟨rfl, (Keeps.refl _ _).alloc _⟩

set_option maxRecDepth 100000 in
set_option maxHeartbeats 1600000 in
theorem begin_late (g base : Nat) (X : Nat → Prop) (h : Hd) (round : Int) (ph : Ph) (st : Value) (w : World) (hM : Mach w base X g h round ph) (hst : w.cell? ⟨g, 12, Option.none⟩ = some st)
    (hta : ∀ w, (Instr.typeAssert st 107 128 true).run Try.prog w = .ok (.tuple #[.agg #[], .bool false]) w) :
    Calls Try.prog 84 #[.pointer (some ⟨g, 0, Option.none⟩)] w (StepEnd w base X g h round ph .no) := by
  go_enter Try.func84, Try.ntmps84
  go_wp2_with fail
  go_ret
  exact hM.stay ((Keeps.refl _ _).alloc _)

set_option maxRecDepth 100000 in
set_option maxHeartbeats 1600000 in
theorem begin_worn (g base : Nat) (X : Nat → Prop) (h : Hd) (round : Int) (w : World) (hM : Mach w base X g h round .fresh) (hr : ¬ (1 ≤ round ∧ round ≤ 1099511627776)) :
    Calls Try.prog 84 #[.pointer (some ⟨g, 0, Option.none⟩)] w (StepEnd w base X g h round (.ended 4 (0, 0) []) .no) := by
  obtain ⟨v, bl, st, hB, hR, hv, hU, hbl, hst⟩ := hM.out
  obtain rfl : st = freshV := hst
  have hta : ∀ w, (Instr.typeAssert freshV 107 128 true).run Try.prog w = .ok (.tuple #[.agg #[], .bool true]) w := fun w => by kernel_rfl
  have c12 := hB.cell 12 _ rfl
  have kX := (Keeps.refl None w).alloc (.cells #[] 128)
  have hB1 := hB.grew kX
  have c2 := hB1.cell 2 _ rfl
  simp only [freshV] at *
  have fin : ∀ w3, Blk w3 g 109 (mcells h.client h.op round h.need h.k0 h.k1 h.k2 h.k3 v h.wr bl h.size (endV 4 (0, 0) (.slice Option.none 0 0))) → Keeps (One g) (w.alloc (.cells #[] 128)) w3 → StepEnd w base X g h round (.ended 4 (0, 0) []) .no (.returned (.slice Option.none 0 0)) w3 := fun w3 hB3 hk3 => by
    have hgX : ∀ b, X b → b ≠ g := fun b hb e => hM.g.1 (e ▸ hb)
    exact fin_ended hM.g hM.lt hM.X hM.ok hB3 ((hR.grew kX).keeps hk3 (fun b e f => hgX b (hv b e) f)) hv ((hU.grew kX).keeps hk3 (fun b e f => hgX b (hbl b e) f)) hbl (Row.nil _ _ _ _) (In.nil _) (by simp) (kX.of_none.trans (hk3.mono (fun _ _ e => .inr e)))
  have FIN := Lib.hid fin
  clear fin
  by_cases h1 : round < 1
  · have e1 : decide (round < 1) = true := decide_eq_true h1
    go_enter Try.func84, Try.ntmps84
    go_wp2_with fail
    refine (end_any g h.client h.op round h.need h.k0 h.k1 h.k2 h.k3 v h.wr bl h.size _ 4 (0, 0) Option.none 0 0 _ hB1).mono ?_
    rintro e w3 ⟨rfl, hB3, hk3⟩
    go_wp2_with fail
    go_ret
    exact FIN.out w3 hB3 hk3
  · have h2 : round > 1099511627776 := by omega
    have e1 : decide (round < 1) = false := decide_eq_false h1
    have e2 : decide (round > 1099511627776) = true := decide_eq_true h2
    go_enter Try.func84, Try.ntmps84
    go_wp2_with fail
    refine (end_any g h.client h.op round h.need h.k0 h.k1 h.k2 h.k3 v h.wr bl h.size _ 4 (0, 0) Option.none 0 0 _ hB1).mono ?_
    rintro e w3 ⟨rfl, hB3, hk3⟩
    go_wp2_with fail
    go_ret
    exact FIN.out w3 hB3 hk3

set_option maxRecDepth 100000 in
set_option maxHeartbeats 1600000 in
theorem tick_any (g base : Nat) (X : Nat → Prop) (h : Hd) (round : Int) (ph : Ph) (w : World) (hM : Mach w base X g h round ph) :
    Calls Try.prog 88 #[.pointer (some ⟨g, 0, Option.none⟩)] w (StepEnd w base X g h round ph (tickF h round ph)) := by
  obtain ⟨v, bl, st, hB, hR, hv, hU, hbl, hst⟩ := hM.out
  have b12 := hB.cell 12 _ rfl
  have hgrp := hM.ok.grp
  cases ph with
  | asking qs =>
    obtain ⟨tg, vg, bm, rs, rfl, rfl, hT, hrs, h5, h6, h7, h8, h9, h10⟩ := hst
    have miss1 : ∀ {w' : World}, Keeps None w w' → Calls Try.prog 99 #[.agg #[.pointer (some ⟨tg, 0, Option.none⟩)]] w' fun e w'' => ∃ v, e = .returned v ∧ Row .i64 3 w'' w'.heap.size v (TG.missF h.grp (rs.map Rec.pair)) ∧ Keeps None w' w'' := fun hk => missing1 tg base vg h.grp h.need bm _ _ (hT.grew hk) hM.ok.wf hgrp
    have hml : (TG.missF h.grp (rs.map Rec.pair)).length ≤ 1000 := Nat.le_trans (List.length_filter_le _ _) hgrp
    simp only [askV] at b12
    go_enter Try.func88, Try.ntmps88
    go_upto_region 1 with (fail)
    refine start_ (ds := []) (S := (fun w' => Keeps None w w')) #[false, false, false, false, false, false, false, false, false, false, false, false, false, false] (by kernel_rfl) rfl rfl ((Keeps.refl _ _).drew) (fun hS0 => ?_)
    refine pure_ (i := 0) (N := some 3) (v := .pointer (some ⟨g, 0, Option.none⟩)) #[true, false, false, false, false, false, false, false, false, false, false, false, false, false] rfl rfl (by kernel_rfl) (fun _ _ _ h => h) (Or.inl ⟨wanted_none rfl, fun w => by rfl⟩) rfl ?_
    try simp only [Act.put, List.setIfInBounds_toArray, List.set_cons_zero, List.set_cons_succ]
    refine pure_ (i := 1) (N := some 4) (v := .pointer (some ⟨g, 0, Option.none⟩)) #[true, true, false, false, false, false, false, false, false, false, false, false, false, false] rfl rfl (by kernel_rfl) (fun _ _ _ h => h) (Or.inl ⟨wanted_none rfl, fun w => by go_simp⟩) rfl ?_
    try simp only [Act.put, List.setIfInBounds_toArray, List.set_cons_zero, List.set_cons_succ]
    refine pure_ (i := 2) (N := some 5) (v := .pointer (some ⟨g, 12, Option.none⟩)) #[true, true, true, false, false, false, false, false, false, false, false, false, false, false] rfl rfl (by kernel_rfl) (fun _ _ _ h => h) (Or.inl ⟨wanted_none rfl, fun w => by go_simp⟩) rfl ?_
    try simp only [Act.put, List.setIfInBounds_toArray, List.set_cons_zero, List.set_cons_succ]
    refine take_ (i := 3) (N := some 6) (v := .iface 162 (.agg #[.pointer (some ⟨tg, 0, Option.none⟩)])) #[true, true, true, true, false, false, false, false, false, false, false, false, false, false] rfl rfl (by kernel_rfl) (fun _ _ _ h => h) (Or.inl ⟨wanted_none rfl, by intro w' hSw; have q := hSw.cell b12 id; go_simp⟩) hS0 rfl ?_
    try simp only [Act.put, List.setIfInBounds_toArray, List.set_cons_zero, List.set_cons_succ]
    refine pure_ (i := 4) (N := some 7) (v := .pointer (some ⟨g, 0, Option.none⟩)) #[true, true, true, true, true, false, false, false, false, false, false, false, false, false] rfl rfl (by kernel_rfl) (fun _ _ _ h => h) (Or.inl ⟨wanted_none rfl, fun w => by rfl⟩) rfl ?_
    try simp only [Act.put, List.setIfInBounds_toArray, List.set_cons_zero, List.set_cons_succ]
    refine pure_ (i := 5) (N := some 8) (v := .pointer (some ⟨g, 0, Option.none⟩)) #[true, true, true, true, true, true, false, false, false, false, false, false, false, false] rfl rfl (by kernel_rfl) (fun _ _ _ h => h) (Or.inl ⟨wanted_none rfl, fun w => by rfl⟩) rfl ?_
    try simp only [Act.put, List.setIfInBounds_toArray, List.set_cons_zero, List.set_cons_succ]
    refine pure_ (i := 6) (N := some 9) (v := .pointer (some ⟨g, 0, Option.none⟩)) #[true, true, true, true, true, true, true, false, false, false, false, false, false, false] rfl rfl (by kernel_rfl) (fun _ _ _ h => h) (Or.inl ⟨wanted_none rfl, fun w => by go_simp⟩) rfl ?_
    try simp only [Act.put, List.setIfInBounds_toArray, List.set_cons_zero, List.set_cons_succ]
    refine pure_ (i := 7) (N := some 10) (v := .pointer (some ⟨g, 12, Option.none⟩)) #[true, true, true, true, true, true, true, true, false, false, false, false, false, false] rfl rfl (by kernel_rfl) (fun _ _ _ h => h) (Or.inl ⟨wanted_none rfl, fun w => by go_simp⟩) rfl ?_
    try simp only [Act.put, List.setIfInBounds_toArray, List.set_cons_zero, List.set_cons_succ]
    refine take_ (i := 8) (N := some 11) (v := .iface 162 (.agg #[.pointer (some ⟨tg, 0, Option.none⟩)])) #[true, true, true, true, true, true, true, true, true, false, false, false, false, false] rfl rfl (by kernel_rfl) (fun _ _ _ h => h) (Or.inl ⟨wanted_none rfl, by intro w' hSw; have q := hSw.cell b12 id; go_simp⟩) hS0 rfl ?_
    try simp only [Act.put, List.setIfInBounds_toArray, List.set_cons_zero, List.set_cons_succ]
    refine pure_ (i := 10) (N := some 13) (v := .iface 162 (.agg #[.pointer (some ⟨tg, 0, Option.none⟩)])) #[true, true, true, true, true, true, true, true, true, false, true, false, false, false] rfl rfl (by kernel_rfl) (fun _ _ _ h => h) (Or.inl ⟨wanted_none rfl, fun w => by go_simp⟩) rfl ?_
    try simp only [Act.put, List.setIfInBounds_toArray, List.set_cons_zero, List.set_cons_succ]
    refine pure_ (i := 11) (N := some 14) (v := .iface 162 (.agg #[.pointer (some ⟨tg, 0, Option.none⟩)])) #[true, true, true, true, true, true, true, true, true, false, true, true, false, false] rfl rfl (by kernel_rfl) (fun _ _ _ h => h) (Or.inl ⟨wanted_none rfl, fun w => by rfl⟩) rfl ?_
    try simp only [Act.put, List.setIfInBounds_toArray, List.set_cons_zero, List.set_cons_succ]
    refine one_ (i := 9) (oi := ({ dst := some 12, op := Op.call { callee := Callee.invoke (Operand.tmp 11) "cairn/register.missing", args := #[], argTypes := #[] }, type := 52, pos := "register.go:116", after := #[{ on := 8, ground := Ground.data }], guard := Option.none } : Oper)) (N := some 12) #[true, true, true, true, true, true, true, true, true, true, true, true, false, false] rfl rfl (by kernel_rfl) (by decide) ?_
    intro KK hKK
    refine call_ 99 #[.agg #[.pointer (some ⟨tg, 0, Option.none⟩)]] (wanted_none rfl) rfl (by go_simp; go_invoke; go_simp) ?_
    refine (miss1 hS0).mono ?_
    rintro e w2 ⟨vm, rfl, hvm, hk2⟩
    obtain ⟨Am, cm, rfl⟩ := hvm.slice
    have hm2 := hS0.trans hk2
    refine ⟨_, rfl, hKK.out _ _ hm2 (fun hS1 => ?_)⟩
    try simp only [Act.put, List.setIfInBounds_toArray, List.set_cons_zero, List.set_cons_succ]
    refine one_ (i := 12) (oi := ({ dst := some 15, op := Op.call { callee := Callee.invoke (Operand.tmp 14) "cairn/register.ask", args := #[Operand.tmp 7, Operand.tmp 12], argTypes := #[104, 52] }, type := 55, pos := "register.go:116", after := #[{ on := 11, ground := Ground.data }, { on := 4, ground := Ground.data }, { on := 9, ground := Ground.data }, { on := 9, ground := Ground.chain }], guard := Option.none } : Oper)) (N := some 15) #[true, true, true, true, true, true, true, true, true, true, true, true, true, false] rfl rfl (by kernel_rfl) (by decide) ?_
    intro KK hKK
    refine call_ 98 #[.agg #[.pointer (some ⟨tg, 0, Option.none⟩)], .pointer (some ⟨g, 0, Option.none⟩), .slice Am (TG.missF h.grp (rs.map Rec.pair)).length cm] (wanted_none rfl) rfl (by go_simp; go_invoke; go_simp) ?_
    refine ((fun hk => ask1_any tg g h.client h.op round h.need h.k0 h.k1 h.k2 h.k3 v h.wr bl h.size _ Am cm (TG.missF h.grp (rs.map Rec.pair)) _ (hB.grew hk) ((Nums.row hvm).1) hml) hS1).mono ?_
    rintro e w3 ⟨u, ms, rfl, hMR, hk3⟩
    have hm3 := hS1.trans hk3
    refine ⟨_, rfl, hKK.out _ _ hm3 (fun hS2 => ?_)⟩
    try simp only [Act.put, List.setIfInBounds_toArray, List.set_cons_zero, List.set_cons_succ]
    refine pure_ (i := 13) (N := some 2) (v := u) #[true, true, true, true, true, true, true, true, true, true, true, true, true, true] rfl rfl (by kernel_rfl) (fun _ _ _ h => h) (Or.inl ⟨wanted_none rfl, fun w => by rfl⟩) rfl ?_
    try simp only [Act.put, List.setIfInBounds_toArray, List.set_cons_zero, List.set_cons_succ]
    refine done_ (by kernel_rfl) ?_
    go_wp2_with fail
    go_ret
    rw [missF_rec] at hMR
    exact hM.told hS2 ⟨ms, hMR.down (by have := hm2.size; omega)⟩
  | laying ss tag ds =>
    obtain ⟨tg, vg, bm, dv, rfl, hT, hdr, hdi, hdl, h5, h6, h7, h8, h9, h10⟩ := hst
    obtain ⟨t1, t2⟩ := tag
    obtain ⟨Ad, cd, rfl⟩ := hdr.slice
    have hND := (Nums.row hdr).1
    have miss1 : ∀ {w' : World}, Keeps None w w' → Calls Try.prog 115 #[.agg #[.pointer (some ⟨tg, 0, Option.none⟩), .int .i64 t1, .int .i64 t2, .slice Ad ds.length cd]] w' fun e w'' => ∃ v, e = .returned v ∧ Row .i64 3 w'' w'.heap.size v (TG.missF h.grp (ss.map zb)) ∧ Keeps None w' w'' := fun hk => missing2 tg base t1 t2 Ad ds.length cd vg h.grp h.need bm _ _ (hT.grew hk) hM.ok.wf hgrp
    have hml : (TG.missF h.grp (ss.map zb)).length ≤ 1000 := Nat.le_trans (List.length_filter_le _ _) hgrp
    simp only [layV] at b12
    go_enter Try.func88, Try.ntmps88
    go_upto_region 1 with (fail)
    refine start_ (ds := []) (S := (fun w' => Keeps None w w')) #[false, false, false, false, false, false, false, false, false, false, false, false, false, false] (by kernel_rfl) rfl rfl ((Keeps.refl _ _).drew) (fun hS0 => ?_)
    refine pure_ (i := 0) (N := some 3) (v := .pointer (some ⟨g, 0, Option.none⟩)) #[true, false, false, false, false, false, false, false, false, false, false, false, false, false] rfl rfl (by kernel_rfl) (fun _ _ _ h => h) (Or.inl ⟨wanted_none rfl, fun w => by rfl⟩) rfl ?_
    try simp only [Act.put, List.setIfInBounds_toArray, List.set_cons_zero, List.set_cons_succ]
    refine pure_ (i := 1) (N := some 4) (v := .pointer (some ⟨g, 0, Option.none⟩)) #[true, true, false, false, false, false, false, false, false, false, false, false, false, false] rfl rfl (by kernel_rfl) (fun _ _ _ h => h) (Or.inl ⟨wanted_none rfl, fun w => by go_simp⟩) rfl ?_
    try simp only [Act.put, List.setIfInBounds_toArray, List.set_cons_zero, List.set_cons_succ]
    refine pure_ (i := 2) (N := some 5) (v := .pointer (some ⟨g, 12, Option.none⟩)) #[true, true, true, false, false, false, false, false, false, false, false, false, false, false] rfl rfl (by kernel_rfl) (fun _ _ _ h => h) (Or.inl ⟨wanted_none rfl, fun w => by go_simp⟩) rfl ?_
    try simp only [Act.put, List.setIfInBounds_toArray, List.set_cons_zero, List.set_cons_succ]
    refine take_ (i := 3) (N := some 6) (v := .iface 183 (.agg #[.pointer (some ⟨tg, 0, Option.none⟩), .int .i64 t1, .int .i64 t2, .slice Ad ds.length cd])) #[true, true, true, true, false, false, false, false, false, false, false, false, false, false] rfl rfl (by kernel_rfl) (fun _ _ _ h => h) (Or.inl ⟨wanted_none rfl, by intro w' hSw; have q := hSw.cell b12 id; go_simp⟩) hS0 rfl ?_
    try simp only [Act.put, List.setIfInBounds_toArray, List.set_cons_zero, List.set_cons_succ]
    refine pure_ (i := 4) (N := some 7) (v := .pointer (some ⟨g, 0, Option.none⟩)) #[true, true, true, true, true, false, false, false, false, false, false, false, false, false] rfl rfl (by kernel_rfl) (fun _ _ _ h => h) (Or.inl ⟨wanted_none rfl, fun w => by rfl⟩) rfl ?_
    try simp only [Act.put, List.setIfInBounds_toArray, List.set_cons_zero, List.set_cons_succ]
    refine pure_ (i := 5) (N := some 8) (v := .pointer (some ⟨g, 0, Option.none⟩)) #[true, true, true, true, true, true, false, false, false, false, false, false, false, false] rfl rfl (by kernel_rfl) (fun _ _ _ h => h) (Or.inl ⟨wanted_none rfl, fun w => by rfl⟩) rfl ?_
    try simp only [Act.put, List.setIfInBounds_toArray, List.set_cons_zero, List.set_cons_succ]
    refine pure_ (i := 6) (N := some 9) (v := .pointer (some ⟨g, 0, Option.none⟩)) #[true, true, true, true, true, true, true, false, false, false, false, false, false, false] rfl rfl (by kernel_rfl) (fun _ _ _ h => h) (Or.inl ⟨wanted_none rfl, fun w => by go_simp⟩) rfl ?_
    try simp only [Act.put, List.setIfInBounds_toArray, List.set_cons_zero, List.set_cons_succ]
    refine pure_ (i := 7) (N := some 10) (v := .pointer (some ⟨g, 12, Option.none⟩)) #[true, true, true, true, true, true, true, true, false, false, false, false, false, false] rfl rfl (by kernel_rfl) (fun _ _ _ h => h) (Or.inl ⟨wanted_none rfl, fun w => by go_simp⟩) rfl ?_
    try simp only [Act.put, List.setIfInBounds_toArray, List.set_cons_zero, List.set_cons_succ]
    refine take_ (i := 8) (N := some 11) (v := .iface 183 (.agg #[.pointer (some ⟨tg, 0, Option.none⟩), .int .i64 t1, .int .i64 t2, .slice Ad ds.length cd])) #[true, true, true, true, true, true, true, true, true, false, false, false, false, false] rfl rfl (by kernel_rfl) (fun _ _ _ h => h) (Or.inl ⟨wanted_none rfl, by intro w' hSw; have q := hSw.cell b12 id; go_simp⟩) hS0 rfl ?_
    try simp only [Act.put, List.setIfInBounds_toArray, List.set_cons_zero, List.set_cons_succ]
    refine pure_ (i := 10) (N := some 13) (v := .iface 183 (.agg #[.pointer (some ⟨tg, 0, Option.none⟩), .int .i64 t1, .int .i64 t2, .slice Ad ds.length cd])) #[true, true, true, true, true, true, true, true, true, false, true, false, false, false] rfl rfl (by kernel_rfl) (fun _ _ _ h => h) (Or.inl ⟨wanted_none rfl, fun w => by go_simp⟩) rfl ?_
    try simp only [Act.put, List.setIfInBounds_toArray, List.set_cons_zero, List.set_cons_succ]
    refine pure_ (i := 11) (N := some 14) (v := .iface 183 (.agg #[.pointer (some ⟨tg, 0, Option.none⟩), .int .i64 t1, .int .i64 t2, .slice Ad ds.length cd])) #[true, true, true, true, true, true, true, true, true, false, true, true, false, false] rfl rfl (by kernel_rfl) (fun _ _ _ h => h) (Or.inl ⟨wanted_none rfl, fun w => by rfl⟩) rfl ?_
    try simp only [Act.put, List.setIfInBounds_toArray, List.set_cons_zero, List.set_cons_succ]
    refine one_ (i := 9) (oi := ({ dst := some 12, op := Op.call { callee := Callee.invoke (Operand.tmp 11) "cairn/register.missing", args := #[], argTypes := #[] }, type := 52, pos := "register.go:116", after := #[{ on := 8, ground := Ground.data }], guard := Option.none } : Oper)) (N := some 12) #[true, true, true, true, true, true, true, true, true, true, true, true, false, false] rfl rfl (by kernel_rfl) (by decide) ?_
    intro KK hKK
    refine call_ 115 #[.agg #[.pointer (some ⟨tg, 0, Option.none⟩), .int .i64 t1, .int .i64 t2, .slice Ad ds.length cd]] (wanted_none rfl) rfl (by go_simp; go_invoke; go_simp) ?_
    refine (miss1 hS0).mono ?_
    rintro e w2 ⟨vm, rfl, hvm, hk2⟩
    obtain ⟨Am, cm, rfl⟩ := hvm.slice
    have hm2 := hS0.trans hk2
    refine ⟨_, rfl, hKK.out _ _ hm2 (fun hS1 => ?_)⟩
    try simp only [Act.put, List.setIfInBounds_toArray, List.set_cons_zero, List.set_cons_succ]
    refine one_ (i := 12) (oi := ({ dst := some 15, op := Op.call { callee := Callee.invoke (Operand.tmp 14) "cairn/register.ask", args := #[Operand.tmp 7, Operand.tmp 12], argTypes := #[104, 52] }, type := 55, pos := "register.go:116", after := #[{ on := 11, ground := Ground.data }, { on := 4, ground := Ground.data }, { on := 9, ground := Ground.data }, { on := 9, ground := Ground.chain }], guard := Option.none } : Oper)) (N := some 15) #[true, true, true, true, true, true, true, true, true, true, true, true, true, false] rfl rfl (by kernel_rfl) (by decide) ?_
    intro KK hKK
    refine call_ 114 #[.agg #[.pointer (some ⟨tg, 0, Option.none⟩), .int .i64 t1, .int .i64 t2, .slice Ad ds.length cd], .pointer (some ⟨g, 0, Option.none⟩), .slice Am (TG.missF h.grp (ss.map zb)).length cm] (wanted_none rfl) rfl (by go_simp; go_invoke; go_simp) ?_
    refine ((fun hk => ask2_any tg t1 t2 Ad cd ds g h.client h.op round h.need h.k0 h.k1 h.k2 h.k3 v h.wr bl h.size _ Am cm (TG.missF h.grp (ss.map zb)) _ (hB.grew hk) ((Nums.row hvm).1) hml (hND.grew hk) (by unfold MB at hdl; exact hdl)) hS1).mono ?_
    rintro e w3 ⟨u, ms, rfl, hMR, hk3⟩
    have hm3 := hS1.trans hk3
    refine ⟨_, rfl, hKK.out _ _ hm3 (fun hS2 => ?_)⟩
    try simp only [Act.put, List.setIfInBounds_toArray, List.set_cons_zero, List.set_cons_succ]
    refine pure_ (i := 13) (N := some 2) (v := u) #[true, true, true, true, true, true, true, true, true, true, true, true, true, true] rfl rfl (by kernel_rfl) (fun _ _ _ h => h) (Or.inl ⟨wanted_none rfl, fun w => by rfl⟩) rfl ?_
    try simp only [Act.put, List.setIfInBounds_toArray, List.set_cons_zero, List.set_cons_succ]
    refine done_ (by kernel_rfl) ?_
    go_wp2_with fail
    go_ret
    rw [missF_zb] at hMR
    exact hM.told hS2 ⟨ms, hMR.down (by have := hm2.size; omega)⟩
  | fresh =>
    obtain rfl : st = freshV := hst
    simp only [freshV] at b12
    go_enter Try.func88, Try.ntmps88
    go_upto_region 1 with (fail)
    refine start_ (ds := []) (S := (fun w' => Keeps None w w')) #[false, false, false, false, false, false, false, false, false, false, false, false, false, false] (by kernel_rfl) rfl rfl ((Keeps.refl _ _).drew) (fun hS0 => ?_)
    refine pure_ (i := 0) (N := some 3) (v := .pointer (some ⟨g, 0, Option.none⟩)) #[true, false, false, false, false, false, false, false, false, false, false, false, false, false] rfl rfl (by kernel_rfl) (fun _ _ _ h => h) (Or.inl ⟨wanted_none rfl, fun w => by rfl⟩) rfl ?_
    try simp only [Act.put, List.setIfInBounds_toArray, List.set_cons_zero, List.set_cons_succ]
    refine pure_ (i := 1) (N := some 4) (v := .pointer (some ⟨g, 0, Option.none⟩)) #[true, true, false, false, false, false, false, false, false, false, false, false, false, false] rfl rfl (by kernel_rfl) (fun _ _ _ h => h) (Or.inl ⟨wanted_none rfl, fun w => by go_simp⟩) rfl ?_
    try simp only [Act.put, List.setIfInBounds_toArray, List.set_cons_zero, List.set_cons_succ]
    refine pure_ (i := 2) (N := some 5) (v := .pointer (some ⟨g, 12, Option.none⟩)) #[true, true, true, false, false, false, false, false, false, false, false, false, false, false] rfl rfl (by kernel_rfl) (fun _ _ _ h => h) (Or.inl ⟨wanted_none rfl, fun w => by go_simp⟩) rfl ?_
    try simp only [Act.put, List.setIfInBounds_toArray, List.set_cons_zero, List.set_cons_succ]
    refine take_ (i := 3) (N := some 6) (v := .iface 128 (.agg #[])) #[true, true, true, true, false, false, false, false, false, false, false, false, false, false] rfl rfl (by kernel_rfl) (fun _ _ _ h => h) (Or.inl ⟨wanted_none rfl, by intro w' hSw; have q := hSw.cell b12 id; go_simp⟩) hS0 rfl ?_
    try simp only [Act.put, List.setIfInBounds_toArray, List.set_cons_zero, List.set_cons_succ]
    refine pure_ (i := 4) (N := some 7) (v := .pointer (some ⟨g, 0, Option.none⟩)) #[true, true, true, true, true, false, false, false, false, false, false, false, false, false] rfl rfl (by kernel_rfl) (fun _ _ _ h => h) (Or.inl ⟨wanted_none rfl, fun w => by rfl⟩) rfl ?_
    try simp only [Act.put, List.setIfInBounds_toArray, List.set_cons_zero, List.set_cons_succ]
    refine pure_ (i := 5) (N := some 8) (v := .pointer (some ⟨g, 0, Option.none⟩)) #[true, true, true, true, true, true, false, false, false, false, false, false, false, false] rfl rfl (by kernel_rfl) (fun _ _ _ h => h) (Or.inl ⟨wanted_none rfl, fun w => by rfl⟩) rfl ?_
    try simp only [Act.put, List.setIfInBounds_toArray, List.set_cons_zero, List.set_cons_succ]
    refine pure_ (i := 6) (N := some 9) (v := .pointer (some ⟨g, 0, Option.none⟩)) #[true, true, true, true, true, true, true, false, false, false, false, false, false, false] rfl rfl (by kernel_rfl) (fun _ _ _ h => h) (Or.inl ⟨wanted_none rfl, fun w => by go_simp⟩) rfl ?_
    try simp only [Act.put, List.setIfInBounds_toArray, List.set_cons_zero, List.set_cons_succ]
    refine pure_ (i := 7) (N := some 10) (v := .pointer (some ⟨g, 12, Option.none⟩)) #[true, true, true, true, true, true, true, true, false, false, false, false, false, false] rfl rfl (by kernel_rfl) (fun _ _ _ h => h) (Or.inl ⟨wanted_none rfl, fun w => by go_simp⟩) rfl ?_
    try simp only [Act.put, List.setIfInBounds_toArray, List.set_cons_zero, List.set_cons_succ]
    refine take_ (i := 8) (N := some 11) (v := .iface 128 (.agg #[])) #[true, true, true, true, true, true, true, true, true, false, false, false, false, false] rfl rfl (by kernel_rfl) (fun _ _ _ h => h) (Or.inl ⟨wanted_none rfl, by intro w' hSw; have q := hSw.cell b12 id; go_simp⟩) hS0 rfl ?_
    try simp only [Act.put, List.setIfInBounds_toArray, List.set_cons_zero, List.set_cons_succ]
    refine pure_ (i := 10) (N := some 13) (v := .iface 128 (.agg #[])) #[true, true, true, true, true, true, true, true, true, false, true, false, false, false] rfl rfl (by kernel_rfl) (fun _ _ _ h => h) (Or.inl ⟨wanted_none rfl, fun w => by go_simp⟩) rfl ?_
    try simp only [Act.put, List.setIfInBounds_toArray, List.set_cons_zero, List.set_cons_succ]
    refine pure_ (i := 11) (N := some 14) (v := .iface 128 (.agg #[])) #[true, true, true, true, true, true, true, true, true, false, true, true, false, false] rfl rfl (by kernel_rfl) (fun _ _ _ h => h) (Or.inl ⟨wanted_none rfl, fun w => by rfl⟩) rfl ?_
    try simp only [Act.put, List.setIfInBounds_toArray, List.set_cons_zero, List.set_cons_succ]
    refine one_ (i := 9) (oi := ({ dst := some 12, op := Op.call { callee := Callee.invoke (Operand.tmp 11) "cairn/register.missing", args := #[], argTypes := #[] }, type := 52, pos := "register.go:116", after := #[{ on := 8, ground := Ground.data }], guard := Option.none } : Oper)) (N := some 12) #[true, true, true, true, true, true, true, true, true, true, true, true, false, false] rfl rfl (by kernel_rfl) (by decide) ?_
    intro KK hKK
    refine call_ 93 #[.agg #[]] (wanted_none rfl) rfl (by go_simp; go_invoke; go_simp) ?_
    refine ((fun (_ : Keeps None w _) => fresh_missing _) hS0).mono ?_
    rintro e w2 ⟨vm, rfl, hvm, hk2⟩
    obtain ⟨Am, cm, rfl⟩ := hvm.slice
    have hm2 := hS0.trans hk2
    refine ⟨_, rfl, hKK.out _ _ hm2 (fun hS1 => ?_)⟩
    try simp only [Act.put, List.setIfInBounds_toArray, List.set_cons_zero, List.set_cons_succ]
    refine one_ (i := 12) (oi := ({ dst := some 15, op := Op.call { callee := Callee.invoke (Operand.tmp 14) "cairn/register.ask", args := #[Operand.tmp 7, Operand.tmp 12], argTypes := #[104, 52] }, type := 55, pos := "register.go:116", after := #[{ on := 11, ground := Ground.data }, { on := 4, ground := Ground.data }, { on := 9, ground := Ground.data }, { on := 9, ground := Ground.chain }], guard := Option.none } : Oper)) (N := some 15) #[true, true, true, true, true, true, true, true, true, true, true, true, true, false] rfl rfl (by kernel_rfl) (by decide) ?_
    intro KK hKK
    refine call_ 92 #[.agg #[], .pointer (some ⟨g, 0, Option.none⟩), .slice Am ([] : List Int).length cm] (wanted_none rfl) rfl (by go_simp; go_invoke; go_simp) ?_
    refine ((fun (_ : Keeps None w _) => fresh_ask g _ _ _ _) hS1).mono ?_
    rintro e w3 ⟨rfl, hk3⟩
    have hm3 := hS1.trans hk3
    refine ⟨_, rfl, hKK.out _ _ hm3 (fun hS2 => ?_)⟩
    try simp only [Act.put, List.setIfInBounds_toArray, List.set_cons_zero, List.set_cons_succ]
    refine pure_ (i := 13) (N := some 2) (v := .slice Option.none 0 0) #[true, true, true, true, true, true, true, true, true, true, true, true, true, true] rfl rfl (by kernel_rfl) (fun _ _ _ h => h) (Or.inl ⟨wanted_none rfl, fun w => by rfl⟩) rfl ?_
    try simp only [Act.put, List.setIfInBounds_toArray, List.set_cons_zero, List.set_cons_succ]
    refine done_ (by kernel_rfl) ?_
    go_wp2_with fail
    go_ret
    exact hM.stay hS2
  | ended err tag ds =>
    obtain ⟨dv, rfl, hdr, -⟩ := hst
    obtain ⟨t1, t2⟩ := tag
    obtain ⟨Ad, cd, rfl⟩ := hdr.slice
    simp only [endV, resCells] at b12
    go_enter Try.func88, Try.ntmps88
    go_upto_region 1 with (fail)
    refine start_ (ds := []) (S := (fun w' => Keeps None w w')) #[false, false, false, false, false, false, false, false, false, false, false, false, false, false] (by kernel_rfl) rfl rfl ((Keeps.refl _ _).drew) (fun hS0 => ?_)
    refine pure_ (i := 0) (N := some 3) (v := .pointer (some ⟨g, 0, Option.none⟩)) #[true, false, false, false, false, false, false, false, false, false, false, false, false, false] rfl rfl (by kernel_rfl) (fun _ _ _ h => h) (Or.inl ⟨wanted_none rfl, fun w => by rfl⟩) rfl ?_
    try simp only [Act.put, List.setIfInBounds_toArray, List.set_cons_zero, List.set_cons_succ]
    refine pure_ (i := 1) (N := some 4) (v := .pointer (some ⟨g, 0, Option.none⟩)) #[true, true, false, false, false, false, false, false, false, false, false, false, false, false] rfl rfl (by kernel_rfl) (fun _ _ _ h => h) (Or.inl ⟨wanted_none rfl, fun w => by go_simp⟩) rfl ?_
    try simp only [Act.put, List.setIfInBounds_toArray, List.set_cons_zero, List.set_cons_succ]
    refine pure_ (i := 2) (N := some 5) (v := .pointer (some ⟨g, 12, Option.none⟩)) #[true, true, true, false, false, false, false, false, false, false, false, false, false, false] rfl rfl (by kernel_rfl) (fun _ _ _ h => h) (Or.inl ⟨wanted_none rfl, fun w => by go_simp⟩) rfl ?_
    try simp only [Act.put, List.setIfInBounds_toArray, List.set_cons_zero, List.set_cons_succ]
    refine take_ (i := 3) (N := some 6) (v := .iface 165 (.agg #[.int .i64 err, .string ⟨#[]⟩, .int .i64 0, .int .i64 0, .int .i64 0, .slice Option.none 0 0, .slice Ad ds.length cd, .int .i64 0, .int .i64 t1, .int .i64 t2, .int .i64 0])) #[true, true, true, true, false, false, false, false, false, false, false, false, false, false] rfl rfl (by kernel_rfl) (fun _ _ _ h => h) (Or.inl ⟨wanted_none rfl, by intro w' hSw; have q := hSw.cell b12 id; go_simp⟩) hS0 rfl ?_
    try simp only [Act.put, List.setIfInBounds_toArray, List.set_cons_zero, List.set_cons_succ]
    refine pure_ (i := 4) (N := some 7) (v := .pointer (some ⟨g, 0, Option.none⟩)) #[true, true, true, true, true, false, false, false, false, false, false, false, false, false] rfl rfl (by kernel_rfl) (fun _ _ _ h => h) (Or.inl ⟨wanted_none rfl, fun w => by rfl⟩) rfl ?_
    try simp only [Act.put, List.setIfInBounds_toArray, List.set_cons_zero, List.set_cons_succ]
    refine pure_ (i := 5) (N := some 8) (v := .pointer (some ⟨g, 0, Option.none⟩)) #[true, true, true, true, true, true, false, false, false, false, false, false, false, false] rfl rfl (by kernel_rfl) (fun _ _ _ h => h) (Or.inl ⟨wanted_none rfl, fun w => by rfl⟩) rfl ?_
    try simp only [Act.put, List.setIfInBounds_toArray, List.set_cons_zero, List.set_cons_succ]
    refine pure_ (i := 6) (N := some 9) (v := .pointer (some ⟨g, 0, Option.none⟩)) #[true, true, true, true, true, true, true, false, false, false, false, false, false, false] rfl rfl (by kernel_rfl) (fun _ _ _ h => h) (Or.inl ⟨wanted_none rfl, fun w => by go_simp⟩) rfl ?_
    try simp only [Act.put, List.setIfInBounds_toArray, List.set_cons_zero, List.set_cons_succ]
    refine pure_ (i := 7) (N := some 10) (v := .pointer (some ⟨g, 12, Option.none⟩)) #[true, true, true, true, true, true, true, true, false, false, false, false, false, false] rfl rfl (by kernel_rfl) (fun _ _ _ h => h) (Or.inl ⟨wanted_none rfl, fun w => by go_simp⟩) rfl ?_
    try simp only [Act.put, List.setIfInBounds_toArray, List.set_cons_zero, List.set_cons_succ]
    refine take_ (i := 8) (N := some 11) (v := .iface 165 (.agg #[.int .i64 err, .string ⟨#[]⟩, .int .i64 0, .int .i64 0, .int .i64 0, .slice Option.none 0 0, .slice Ad ds.length cd, .int .i64 0, .int .i64 t1, .int .i64 t2, .int .i64 0])) #[true, true, true, true, true, true, true, true, true, false, false, false, false, false] rfl rfl (by kernel_rfl) (fun _ _ _ h => h) (Or.inl ⟨wanted_none rfl, by intro w' hSw; have q := hSw.cell b12 id; go_simp⟩) hS0 rfl ?_
    try simp only [Act.put, List.setIfInBounds_toArray, List.set_cons_zero, List.set_cons_succ]
    refine pure_ (i := 10) (N := some 13) (v := .iface 165 (.agg #[.int .i64 err, .string ⟨#[]⟩, .int .i64 0, .int .i64 0, .int .i64 0, .slice Option.none 0 0, .slice Ad ds.length cd, .int .i64 0, .int .i64 t1, .int .i64 t2, .int .i64 0])) #[true, true, true, true, true, true, true, true, true, false, true, false, false, false] rfl rfl (by kernel_rfl) (fun _ _ _ h => h) (Or.inl ⟨wanted_none rfl, fun w => by go_simp⟩) rfl ?_
    try simp only [Act.put, List.setIfInBounds_toArray, List.set_cons_zero, List.set_cons_succ]
    refine pure_ (i := 11) (N := some 14) (v := .iface 165 (.agg #[.int .i64 err, .string ⟨#[]⟩, .int .i64 0, .int .i64 0, .int .i64 0, .slice Option.none 0 0, .slice Ad ds.length cd, .int .i64 0, .int .i64 t1, .int .i64 t2, .int .i64 0])) #[true, true, true, true, true, true, true, true, true, false, true, true, false, false] rfl rfl (by kernel_rfl) (fun _ _ _ h => h) (Or.inl ⟨wanted_none rfl, fun w => by rfl⟩) rfl ?_
    try simp only [Act.put, List.setIfInBounds_toArray, List.set_cons_zero, List.set_cons_succ]
    refine one_ (i := 9) (oi := ({ dst := some 12, op := Op.call { callee := Callee.invoke (Operand.tmp 11) "cairn/register.missing", args := #[], argTypes := #[] }, type := 52, pos := "register.go:116", after := #[{ on := 8, ground := Ground.data }], guard := Option.none } : Oper)) (N := some 12) #[true, true, true, true, true, true, true, true, true, true, true, true, false, false] rfl rfl (by kernel_rfl) (by decide) ?_
    intro KK hKK
    refine call_ 112 #[.agg #[.int .i64 err, .string ⟨#[]⟩, .int .i64 0, .int .i64 0, .int .i64 0, .slice Option.none 0 0, .slice Ad ds.length cd, .int .i64 0, .int .i64 t1, .int .i64 t2, .int .i64 0]] (wanted_none rfl) rfl (by go_simp; go_invoke; go_simp) ?_
    refine ((fun (_ : Keeps None w _) => ended_missing _ _) hS0).mono ?_
    rintro e w2 ⟨vm, rfl, hvm, hk2⟩
    obtain ⟨Am, cm, rfl⟩ := hvm.slice
    have hm2 := hS0.trans hk2
    refine ⟨_, rfl, hKK.out _ _ hm2 (fun hS1 => ?_)⟩
    try simp only [Act.put, List.setIfInBounds_toArray, List.set_cons_zero, List.set_cons_succ]
    refine one_ (i := 12) (oi := ({ dst := some 15, op := Op.call { callee := Callee.invoke (Operand.tmp 14) "cairn/register.ask", args := #[Operand.tmp 7, Operand.tmp 12], argTypes := #[104, 52] }, type := 55, pos := "register.go:116", after := #[{ on := 11, ground := Ground.data }, { on := 4, ground := Ground.data }, { on := 9, ground := Ground.data }, { on := 9, ground := Ground.chain }], guard := Option.none } : Oper)) (N := some 15) #[true, true, true, true, true, true, true, true, true, true, true, true, true, false] rfl rfl (by kernel_rfl) (by decide) ?_
    intro KK hKK
    refine call_ 111 #[.agg #[.int .i64 err, .string ⟨#[]⟩, .int .i64 0, .int .i64 0, .int .i64 0, .slice Option.none 0 0, .slice Ad ds.length cd, .int .i64 0, .int .i64 t1, .int .i64 t2, .int .i64 0], .pointer (some ⟨g, 0, Option.none⟩), .slice Am ([] : List Int).length cm] (wanted_none rfl) rfl (by go_simp; go_invoke; go_simp) ?_
    refine ((fun (_ : Keeps None w _) => ended_ask g _ _ _ _ _) hS1).mono ?_
    rintro e w3 ⟨rfl, hk3⟩
    have hm3 := hS1.trans hk3
    refine ⟨_, rfl, hKK.out _ _ hm3 (fun hS2 => ?_)⟩
    try simp only [Act.put, List.setIfInBounds_toArray, List.set_cons_zero, List.set_cons_succ]
    refine pure_ (i := 13) (N := some 2) (v := .slice Option.none 0 0) #[true, true, true, true, true, true, true, true, true, true, true, true, true, true] rfl rfl (by kernel_rfl) (fun _ _ _ h => h) (Or.inl ⟨wanted_none rfl, fun w => by rfl⟩) rfl ?_
    try simp only [Act.put, List.setIfInBounds_toArray, List.set_cons_zero, List.set_cons_succ]
    refine done_ (by kernel_rfl) ?_
    go_wp2_with fail
    go_ret
    exact hM.stay hS2

/-- The machine's Begin. -/
theorem begin_any (g base : Nat) (X : Nat → Prop) (h : Hd) (round : Int) (ph : Ph) (w : World) (hM : Mach w base X g h round ph) :
    Calls Try.prog 84 #[.pointer (some ⟨g, 0, Option.none⟩)] w (StepEnd w base X g h (beginF h round ph).1 (beginF h round ph).2.1 (beginF h round ph).2.2) := by
  cases ph with
  | fresh =>
    by_cases hr : 1 ≤ round ∧ round ≤ 1099511627776
    · simp only [beginF, if_pos hr]
      exact begin_fresh g base X h round w hM hr.1 hr.2
    · simp only [beginF, if_neg hr]
      exact begin_worn g base X h round w hM hr
  | asking qs =>
    obtain ⟨v, bl, st, hB, _, _, _, _, hst⟩ := hM.out
    obtain ⟨tg, vg, bm, rs, rfl, _⟩ := hst
    exact begin_late g base X h round _ _ w hM (hB.cell 12 _ rfl) (fun w => by kernel_rfl)
  | laying ss tag ds =>
    obtain ⟨v, bl, st, hB, _, _, _, _, hst⟩ := hM.out
    obtain ⟨tg, vg, bm, dv, rfl, _⟩ := hst
    exact begin_late g base X h round _ _ w hM (hB.cell 12 _ rfl) (fun w => by kernel_rfl)
  | ended err tag ds =>
    obtain ⟨v, bl, st, hB, _, _, _, _, hst⟩ := hM.out
    obtain ⟨dv, rfl, _⟩ := hst
    exact begin_late g base X h round _ _ w hM (hB.cell 12 _ rfl) (fun w => by kernel_rfl)

/-- What Done tells. -/
def doneV (h : Hd) : Ph → Value → Value
  | .ended err tag ds, u => .tuple #[.agg (resCells err tag u).toArray, .bool true]
  | _, _ => .tuple #[resultZ, .bool false]
def doneD : Ph → List Int
  | .ended _ _ ds => ds
  | _ => []
theorem mach_done (g base : Nat) (X : Nat → Prop) (h : Hd) (round : Int) (ph : Ph) (w : World) (hM : Mach w base X g h round ph) :
    Calls Try.prog 85 #[.pointer (some ⟨g, 0, Option.none⟩)] w fun e w' => ∃ u, e = .returned (doneV h ph u) ∧ Row .u8 5 w' w.heap.size u (doneD ph) ∧ Keeps None w w' := by
  cases hp : ph.over with
  | false =>
    refine (mach_not g base X h round ph w hM hp).mono ?_
    rintro e w' ⟨rfl, hk⟩
    refine ⟨.slice Option.none 0 0, ?_, ?_, hk⟩
    · cases ph <;> first | rfl | cases hp
    · cases ph <;> first | exact Row.nil _ _ _ _ | cases hp
  | true =>
    cases ph with
    | ended err tag ds =>
      obtain ⟨v, bl, st, hB, _, _, _, _, hst⟩ := hM.out
      obtain ⟨dv, rfl, hdr, -, hdl⟩ := hst
      obtain ⟨t1, t2⟩ := tag
      obtain ⟨Ad, cd, rfl⟩ := hdr.slice
      refine (done_ended g h.client h.op round h.need h.k0 h.k1 h.k2 h.k3 v h.wr bl h.size err t1 t2 Ad cd ds w hB (Nums.row hdr).1 (by unfold MB at hdl; exact hdl)).mono ?_
      rintro e w' ⟨u, rfl, hu, hk⟩
      exact ⟨u, rfl, hu, hk⟩
    | _ => cases hp
end Go.Proofs.Ytcihfjfbcfgidaa
