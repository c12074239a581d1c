/- made: both machines of one ask. -/
import Derived.Test.YtcihfjfbcfgidaaSameO
namespace Go.Proofs.Ytcihfjfbcfgidaa
open Go.RowKit Go.Maps Go.Proofs.YtcihfjfbcfgidaaW.PrintLast
set_option linter.unusedVariables false

def hdOf (wrt : Bool) (client op k0 k1 k2 k3 : Int) (l : List Int) (size : Int) (zs : List Int) : Hd := ⟨client, op, k0, k1, k2, k3, uniqF l, wrt, if wrt then zs else [], if wrt then 0 else sizeF size⟩
def bothV (g r : Nat) : Value := .agg #[.iface 104 (.pointer (some ⟨g, 0, Option.none⟩)), .pointer (some ⟨r, 0, Option.none⟩)]
/-- Both machines stand alike. -/
structure Bo (w : World) (base : Nat) (X : Nat → Prop) (g : Nat) (Z W : Nat → Prop) (r : Nat) (h : Hd) (round : Int) (ph : Ph) : Prop where
  p : Mach w base X g h round ph
  r : RMach w base Z W r h round ph
  apart : ∀ b, (X b ∨ b = g) → ¬ Z b
theorem Bo.keeps {S : Nat → Prop} {w w' : World} {base : Nat} {X : Nat → Prop} {g : Nat} {Z W : Nat → Prop} {r : Nat} {h : Hd} {round : Int} {ph : Ph} (hb : Bo w base X g Z W r h round ph) (hk : Keeps S w w') (h1 : ∀ b, (X b ∨ b = g) → ¬ S b) (h2 : ∀ b, Z b → ¬ S b) (h3 : ∀ b, S b → base ≤ b) : Bo w' base X g Z W r h round ph :=
  ⟨hb.p.keeps hk (fun b e => h1 b (.inl e)) (h1 g (.inr rfl)), hb.r.keeps hk h2 h3, hb.apart⟩
theorem Bo.grew {w w' : World} {base : Nat} {X : Nat → Prop} {g : Nat} {Z W : Nat → Prop} {r : Nat} {h : Hd} {round : Int} {ph : Ph} (hb : Bo w base X g Z W r h round ph) (hk : Keeps None w w') : Bo w' base X g Z W r h round ph := hb.keeps hk (fun _ _ => id) (fun _ _ => id) (fun _ f => f.elim)

theorem sizeBoth {cs : Array Value} (h : cs.size = 2) : (Try.prog.info? 75).map (·.size) = some cs.size := by rw [h]; kernel_rfl
theorem results_made (tmps : Array Value) (w : World) (k : Nat) (b : Bool) (cs : List Value) (hp : tmps.getD 2 undef = .pointer (some ⟨k, 0, Option.none⟩)) (hb : tmps.getD 3 undef = .bool b) (hc : Blk w k 75 cs) (hl : cs.length = 2) :
    (results Try.f21 tmps).run Try.prog w = .ok (.tuple #[.agg cs.toArray, .bool b]) w := by
  rw [results_cell_tmp Try.results21, hp, hb]
  have h1 : (asAddr (.pointer (some ⟨k, 0, Option.none⟩))).run Try.prog w = .ok ⟨k, 0, Option.none⟩ w := rfl
  rw [h1]
  simp only [Result.andThen_ok, run_loadVar_row w k 75 75 cs.toArray (0, 0) _ hc.raw Try.underlying75 rfl (sizeBoth (by simpa using hl))]
theorem exec_store_both {a : Act} {o : Oper} {w : World} (x y : Operand) (ho : o.op = .store 75 x y) (g : Nat) (hx : a.eval x = .pointer (some ⟨g, 0, Option.none⟩)) (cs cs0 : List Value) (hy : a.eval y = .agg cs.toArray) (hB : Blk w g 75 cs0) (hl0 : cs0.length = 2) (hl : cs.length = 2) (h1 : cs.toArray.all (·.oneCell') = true) : (execOp a.eval o).run Try.prog w = .ok .skip (w.setRow g cs.toArray) := by
  unfold execOp
  simp only [ho, hx, hy, Instr.storeAt, Instr.sureAddr, Sem.run_bind, Sem.run_pure, Result.andThen_ok, run_storeVar_row w g 75 75 cs0.toArray cs.toArray hB.raw (sizeBoth (by simpa using hl)) (by simpa using hl0.trans hl.symm) h1]

def Made7 (h : Hd) (round : Int) (w : World) (e : Ending) (w' : World) : Prop :=
  ∃ g r X Z W, e = .returned (.tuple #[bothV g r, .bool true]) ∧ Bo w' w.heap.size X g Z W r h round .fresh ∧ Keeps None w w'

set_option maxRecDepth 100000 in
set_option maxHeartbeats 6400000 in
theorem made7_any (wrt : Bool) (client op k0 k1 k2 k3 : Int) (A : Option Addr) (n cap : Nat) (l : List Int) (round size : Int) (B : Option Addr) (m cap' : Nat) (zs : List Int) (w : World) (hA : Nums .i64 w A l) (hn : l.length = n) (hr : n ≤ 1000) (hwf : ∀ s ∈ l, (Lit.int .i64 s).wf = true) (hcap : A = Option.none → cap = 0) (hB : Nums .u8 w B zs) (hm : zs.length = m) (hz : m ≤ 140737488351232) :
    Calls Try.prog 21 #[.agg #[.bool wrt, .int .i64 client, .int .i64 op, .int .i64 k0, .int .i64 k1, .int .i64 k2, .int .i64 k3, .slice A n cap, .int .i64 round, .int .i64 size, .slice B m cap']] w (Made7 (hdOf wrt client op k0 k1 k2 k3 l size zs) round w) := by
  obtain ⟨i0, hi, hz0, hz1, hz2⟩ := info_parts Try.infoI64
  obtain ⟨hh, hhd⟩ : ∃ h, h = hdOf wrt client op k0 k1 k2 k3 l size zs := ⟨_, rfl⟩
  rw [← hhd]
  have HHD := Lib.hid hhd
  clear hhd
  obtain ⟨x, hx⟩ : ∃ x, x = w.heap.size := ⟨_, rfl⟩
  obtain ⟨y, hy⟩ : ∃ y, y = w.heap.size + 1 := ⟨_, rfl⟩
  obtain ⟨W1, hW1⟩ : ∃ W, W = w.alloc (.cells #[.bool wrt, .int .i64 client, .int .i64 op, .int .i64 k0, .int .i64 k1, .int .i64 k2, .int .i64 k3, .slice A n cap, .int .i64 round, .int .i64 size, .slice B m cap'] 71) := ⟨_, rfl⟩
  obtain ⟨W2, hW2⟩ : ∃ W, W = W1.alloc (.cells #[.nilIface, .pointer Option.none] 75) := ⟨_, rfl⟩
  have kW1 : Keeps None w W1 := by rw [hW1]; exact (Keeps.refl _ _).alloc _
  have kW2 : Keeps None W1 W2 := by rw [hW2]; exact (Keeps.refl _ _).alloc _
  have hX : Blk W2 x 71 [.bool wrt, .int .i64 client, .int .i64 op, .int .i64 k0, .int .i64 k1, .int .i64 k2, .int .i64 k3, .slice A n cap, .int .i64 round, .int .i64 size, .slice B m cap'] := by
    have : Blk W1 x 71 [.bool wrt, .int .i64 client, .int .i64 op, .int .i64 k0, .int .i64 k1, .int .i64 k2, .int .i64 k3, .slice A n cap, .int .i64 round, .int .i64 size, .slice B m cap'] := by rw [hW1, hx]; exact Blk.new _ _ _
    exact this.grew kW2
  have hs1 : W1.heap.size = y := by rw [hW1, hy, World.size_alloc]
  have hY : Blk W2 y 75 [.nilIface, .pointer Option.none] := by rw [hW2, ← hs1]; exact Blk.new _ _ _
  have kk2 := kW1.trans kW2
  have hs2 : W2.heap.size = w.heap.size + 2 := by rw [hW2, World.size_alloc, hs1, hy]
  have x7 := hX.cell 7 _ rfl
  go_enter Try.func21, Try.ntmps21
  go_upto_region 1 with (fail)
  rw [← hW1, ← hW2, ← hy, ← hx]
  have hxw : x < W2.heap.size := hX.lt
  have hxge : w.heap.size ≤ x := by omega
  have hyge : w.heap.size ≤ y := by omega
  have hyw : y < W2.heap.size := hY.lt
  clear hW1 hW2 hx hy hs1 kW1 kW2 hs2
  have hE0 := Blk.new W2 3 []
  have hE : Row .i64 3 (W2.alloc (.cells #[] 3)) W2.heap.size (.slice (some ⟨W2.heap.size, 0, Option.none⟩) 0 0) [] := Row.of_blk (zs := []) hE0 (Nat.le_refl _) (by unfold maxLen; simp)
  have kE : Keeps None W2 (W2.alloc (.cells #[] 3)) := (Keeps.refl _ _).alloc _
  have hA2 := (hA.grew kk2).grew kE
  subst hn
  subst hm
  go_upto_region 2 with (at_builtin; refine wpList_append_row _ rfl (.tmp 10) (.tmp 12) 52 rfl W2.heap.size 3 i0 (.int .i64 0) 1 8 Try.underlying52 hi hz0 hz1 hz2 rfl (by decide) _ 0 _ rfl hE.raw A l.length cap (l.map (Value.int .i64)) rfl (by simp) hcap hA2.src (ints_oneCell _ l) (by unfold maxLen; omega) (by omega) (by simp only [World.size_alloc]; omega) ?_; intro vg w3 hown3 hk3 hloc3; have hr3 : Row .i64 3 w3 W2.heap.size vg ([] ++ l) := Row.of_append rfl rfl hown3; obtain ⟨Ag, cg, ev⟩ := hr3.slice; obtain rfl : vg = .slice Ag l.length cg := ev.trans (by simp); clear ev)
  simp only [List.nil_append] at hr3
  have k23 : Keeps None W2 w3 := kE.andThen hk3 (fun i hi e => by have := OwnB.is e; omega)
  have hR3 := fun b (e : (Value.slice Ag l.length cg).ownBlock = some b) => hr3.lt b e
  have hX3 := hX.grew k23
  have hY3 := hY.grew k23
  have kk3 := kk2.trans k23
  clear hown3 hk3 hloc3 hE hE0 kE hA2 x7 hX hY
  have x10 := hX3.cell 10 _ rfl
  go_wp2_with fail
  refine (lend_any B zs.length cap' zs w3 (hB.grew kk3) rfl (by omega)).mono ?_
  rintro e w4 ⟨gl, rfl, hgl, hL4, hk4⟩
  have hX4 := hX3.grew hk4
  have hY4 := hY3.grew hk4
  have hR4 := hr3.grew hk4
  have k4 := kk3.trans hk4
  have hs3 := hk4.size
  clear x10 hX3 hY3 hr3
  have x0 := hX4.cell 0 _ rfl
  have x1 := hX4.cell 1 _ rfl
  have x2 := hX4.cell 2 _ rfl
  have x3 := hX4.cell 3 _ rfl
  have x4 := hX4.cell 4 _ rfl
  have x5 := hX4.cell 5 _ rfl
  have x6 := hX4.cell 6 _ rfl
  have x8 := hX4.cell 8 _ rfl
  have x9 := hX4.cell 9 _ rfl
  cases wrt
  case' true =>
    go_wp2_with fail
    refine (write_mach client op k0 k1 k2 k3 round Ag l.length cg l (some ⟨gl, 0, Option.none⟩) zs.length (zs.length + 5) zs w4 (Nums.row hR4).1 rfl hr hwf (lentCells_nums hL4) rfl hz).mono ?_
    rintro e w5 ⟨g, X, rfl, hM5, hk5⟩
    have hM5 : Mach w5 w4.heap.size X g hh round .fresh := by rw [HHD.out]; exact hM5
    go_upto_region 7 with (fail)
  case' false =>
    go_wp2_with fail
    refine (readm_mach client op k0 k1 k2 k3 round size Ag l.length cg l w4 (Nums.row hR4).1 rfl hr hwf).mono ?_
    rintro e w5 ⟨g, X, rfl, hM5, hk5⟩
    have hM5 : Mach w5 w4.heap.size X g hh round .fresh := by rw [HHD.out]; exact hM5
    go_upto_region 7 with (fail)
  all_goals
    have hX5 := hX4.grew hk5
    have hY5 := hY4.grew hk5
    have hR5 := hR4.grew hk5
    have hL5 := hL4.grew hk5
    have k5 := k4.trans hk5
    have hL4l := hL4.lt
    clear x0 x1 x2 x3 x4 x5 x6 x8 x9 hX4 hY4 hR4 hL4
    have x10 := hX5.cell 10 _ rfl
    go_wp2_with fail
    refine (back_any gl zs.length zs B zs.length cap' w5 hL5 rfl (hB.grew k5) rfl (by omega)).mono ?_
    rintro e w6 ⟨rfl, -, hk6⟩
    have hlg : gl < w4.heap.size := hL4l
    have hwr3 : w.heap.size ≤ w3.heap.size := kk3.size
    have hs23 := k23.size
    have hM6 := (hM5.keeps hk6 (fun b e f => by have := (hM5.X b e).1; simp only [One] at f; omega) (fun f => by have := hM5.g.2; simp only [One] at f; omega)).down (show w.heap.size ≤ w4.heap.size by omega)
    have hgrp := fun b (e : (Value.slice Ag l.length cg).ownBlock = some b) => hR3 b e
    have hR6 := hR5.keeps hk6 (fun b e f => by have := hgrp b e; simp only [One] at f; omega)
    have hX6 := hX5.keeps hk6 (fun f => by simp only [One] at f; omega)
    have hY6 := hY5.keeps hk6 (fun f => by simp only [One] at f; omega)
    have k6 : Keeps None w w6 := k5.andThen hk6 (fun i hi e => by simp only [One] at e; omega)
    have hXlo := fun b (e : X b ∨ b = g) => (show w4.heap.size ≤ b from e.elim (fun e => (hM5.X b e).1) (fun e => by rw [e]; exact hM5.g.2))
    have HXL := Lib.hid hXlo
    have HGR := Lib.hid hgrp
    clear x10 hX5 hY5 hR5 hL5 hM5 hk6 hk5 hXlo hgrp hR3
    go_wp2_with fail
    go_loopw [7, 8] (fun o i wr => ∃ (k : Nat) (xs : List Int), k ≤ l.length ∧ o = .bool true ∧ i = .int .i64 k ∧ xs.length = l.length ∧ Hid (∀ j : Nat, k ≤ j → xs[j]? = l[j]?) ∧ Row .i64 3 wr W2.heap.size (.slice Ag l.length cg) xs ∧ Keeps (OwnB (.slice Ag l.length cg)) w6 wr) (fun _ i _ => l.length - (intOf i).toNat)
    case atStart => exact ⟨0, l, Nat.zero_le _, rfl, rfl, rfl, Lib.hid (fun _ _ => rfl), hR6, Keeps.refl _ _⟩
    case round =>
      obtain ⟨k, xs, hk, rfl, rfl, hxl, hsame, hRk, hK⟩ := hrel
      have hXr := hX6.keeps hK (fun f => by have := HGR.out x f; omega)
      have x7 := hXr.cell 7 _ rfl
      by_cases hlt : k < l.length
      · have hAr := (hA.grew k6).keeps hK (fun b o e f => by
          subst e
          have := hA.lt (by omega)
          have := HGR.out b f
          have := kk2.size
          omega)
        obtain ⟨q, c', e2, -⟩ := hRk.pos (by omega)
        rw [hxl] at e2
        cases e2
        obtain ⟨z, b1, o1, e3, hz1', hzz⟩ := (Nums.row hRk).1.get k (by omega)
        cases e3
        rw [Nat.zero_add] at hz1'
        obtain ⟨z', b2, o2, rfl, hz2', hzz'⟩ := hAr.get k hlt
        obtain rfl : z = z' := by
          have h1 := hsame.out k (Nat.le_refl _)
          rw [hzz.out, hzz'.out] at h1
          exact Option.some.inj h1
        clear hzz hzz' hAr
        go_upto_region 11 with (fail)
        go_quiet (fail)
        go_upto_region 12 with (fail)
        obtain ⟨wq, hwq⟩ : ∃ wq, wq = wr.drewN nq := ⟨_, rfl⟩
        have kd : Keeps None wr wq := by rw [hwq]; exact (Keeps.refl _ _).drewN _
        rw [← hwq]
        have hRq := hRk.grew kd
        have hkq := hK.trans kd.of_none
        have hf := hRq.free k
        obtain ⟨zz, b9, o9, e9, hzq, -⟩ := (Nums.row hRq).1.get k (by omega)
        cases e9
        rw [Nat.zero_add] at hzq
        have hs2 : Hid (∀ j : Nat, k + 1 ≤ j → (xs.set k (-7))[j]? = l[j]?) := Lib.hid (fun j hj => by rw [List.getElem?_set_ne (by omega)]; exact hsame.out j (by omega))
        clear hwq hRk hK kd hz1' hz2' x7 hXr hsame
        go_wp2
        go_roundw
        case rel => exact ⟨k + 1, _, by omega, rfl, by go_num, by rw [List.length_set]; exact hxl, hs2, hRq.store hxl k _, hkq.setCell _ _ (fun _ => rfl)⟩
        case measure => simp [intOf]; omega
      · obtain rfl : k = l.length := by omega
        have hk7 : Keeps None w wr := k6.andThen hK (fun i hi e => by have := HGR.out i e; have := kk2.size; omega)
        have hM7 := hM6.keeps hK (fun b e f => by have := HXL.out b (.inl e); have := HGR.out b f; omega) (fun f => by have := HXL.out g (.inr rfl); have := HGR.out g f; omega)
        have hY7 := hY6.keeps hK (fun f => by have := HGR.out y f; omega)
        have x0 : wr.cell? ⟨x, 0, Option.none⟩ = some (.bool hh.wr) := by rw [HHD.out]; exact hXr.cell 0 _ rfl
        have x1 : wr.cell? ⟨x, 1, Option.none⟩ = some (.int .i64 hh.client) := by rw [HHD.out]; exact hXr.cell 1 _ rfl
        have x2 : wr.cell? ⟨x, 2, Option.none⟩ = some (.int .i64 hh.op) := by rw [HHD.out]; exact hXr.cell 2 _ rfl
        have x3 : wr.cell? ⟨x, 3, Option.none⟩ = some (.int .i64 hh.k0) := by rw [HHD.out]; exact hXr.cell 3 _ rfl
        have x4 : wr.cell? ⟨x, 4, Option.none⟩ = some (.int .i64 hh.k1) := by rw [HHD.out]; exact hXr.cell 4 _ rfl
        have x5 : wr.cell? ⟨x, 5, Option.none⟩ = some (.int .i64 hh.k2) := by rw [HHD.out]; exact hXr.cell 5 _ rfl
        have x6 : wr.cell? ⟨x, 6, Option.none⟩ = some (.int .i64 hh.k3) := by rw [HHD.out]; exact hXr.cell 6 _ rfl
        have x8 := hXr.cell 8 _ rfl
        have x9 := hXr.cell 9 _ rfl
        have x10 := hXr.cell 10 _ rfl
        have hok : HdOk hh := hM7.ok
        have hkz := hk7.size
        clear hK hM6 hY6 hX6 hR6 hRk
        go_wp2_with fail
        refine (refnew_any hh A l.length cap l round size B zs.length cap' zs w.heap.size wr (hA.grew hk7) rfl hr (hB.grew hk7) rfl (by unfold MB; omega) hkz (fun b o e h0 => by subst e; exact hB.lt h0) (by rw [HHD.out]; rfl) (fun e => by rw [HHD.out] at e ⊢; first | rfl | cases e) (fun e => by rw [HHD.out] at e ⊢; first | rfl | cases e) hok).mono ?_
        rintro e w8 ⟨r, Z, W, rfl, hR8, hZ8, hk8⟩
        have hY8 := hY7.grew hk8
        have hM8 := hM7.grew hk8
        have k8 := hk7.trans hk8
        have hY6d : Blk w8.drew y 75 [.nilIface, .pointer Option.none] := hY8
        clear x0 x1 x2 x3 x4 x5 x6 x7 x8 x9 x10 hXr
        go_upto_region 14 with (fail)
        refine start_ (ds := []) (S := (fun w' => Keeps (One y) w8 w')) #[false, false, false, false, false, false, false, false, false, false] (by kernel_rfl) rfl rfl ((Keeps.refl _ _).drew) (fun hS0 => ?_)
        refine pure_ (i := 0) (N := some 85) (v := .iface 104 (.pointer (some ⟨g, 0, Option.none⟩))) #[true, false, false, false, false, false, false, false, false, false] rfl rfl (by kernel_rfl) (fun _ _ _ h => h) (Or.inl ⟨wanted_none rfl, fun w => by rfl⟩) rfl ?_
        try simp only [Act.put, List.setIfInBounds_toArray, List.set_cons_zero, List.set_cons_succ]
        refine pure_ (i := 1) (N := some 86) (v := .pointer (some ⟨r, 0, Option.none⟩)) #[true, true, false, false, false, false, false, false, false, false] rfl rfl (by kernel_rfl) (fun _ _ _ h => h) (Or.inl ⟨wanted_none rfl, fun w => by rfl⟩) rfl ?_
        try simp only [Act.put, List.setIfInBounds_toArray, List.set_cons_zero, List.set_cons_succ]
        refine pure_ (i := 2) (N := some 87) (v := .agg #[.iface 104 (.pointer (some ⟨g, 0, Option.none⟩)), .pointer (some ⟨r, 0, Option.none⟩)]) #[true, true, true, false, false, false, false, false, false, false] rfl rfl (by kernel_rfl) (fun _ _ _ h => h) (Or.inl ⟨wanted_none rfl, fun w => by go_simp⟩) rfl ?_
        try simp only [Act.put, List.setIfInBounds_toArray, List.set_cons_zero, List.set_cons_succ]
        refine pure_ (i := 3) (N := some 88) (v := .bool true) #[true, true, true, true, false, false, false, false, false, false] rfl rfl (by kernel_rfl) (fun _ _ _ h => h) (Or.inl ⟨wanted_none rfl, fun w => by rfl⟩) rfl ?_
        try simp only [Act.put, List.setIfInBounds_toArray, List.set_cons_zero, List.set_cons_succ]
        refine pure_ (i := 4) (N := some 89) (v := .bool true) #[true, true, true, true, true, false, false, false, false, false] rfl rfl (by kernel_rfl) (fun _ _ _ h => h) (Or.inl ⟨wanted_none rfl, fun w => by rfl⟩) rfl ?_
        try simp only [Act.put, List.setIfInBounds_toArray, List.set_cons_zero, List.set_cons_succ]
        refine pure_ (i := 5) (N := some 90) (v := .iface 104 (.pointer (some ⟨g, 0, Option.none⟩))) #[true, true, true, true, true, true, false, false, false, false] rfl rfl (by kernel_rfl) (fun _ _ _ h => h) (Or.inl ⟨by rfl, fun w => by rfl⟩) rfl ?_
        try simp only [Act.put, List.setIfInBounds_toArray, List.set_cons_zero, List.set_cons_succ]
        refine pure_ (i := 6) (N := some 91) (v := .bool true) #[true, true, true, true, true, true, true, false, false, false] rfl rfl (by kernel_rfl) (fun _ _ _ h => h) (Or.inl ⟨by rfl, fun w => by go_simp⟩) rfl ?_
        try simp only [Act.put, List.setIfInBounds_toArray, List.set_cons_zero, List.set_cons_succ]
        refine pure_ (i := 7) (N := some 92) (v := .bool true) #[true, true, true, true, true, true, true, true, false, false] rfl rfl (by kernel_rfl) (fun _ _ _ h => h) (Or.inl ⟨wanted_none rfl, fun w => by go_simp⟩) rfl ?_
        try simp only [Act.put, List.setIfInBounds_toArray, List.set_cons_zero, List.set_cons_succ]
        refine one_ (i := 8) (oi := ({ dst := Option.none, op := Op.store 75 (Operand.tmp 2) (Operand.tmp 87), type := 0, pos := "law.go:166", after := #[{ on := 2, ground := Ground.data }, { on := 4, ground := Ground.chain }, { on := 0, ground := Ground.phase }, { on := 1, ground := Ground.phase }, { on := 2, ground := Ground.phase }, { on := 3, ground := Ground.textOnly Departure.lateStores }, { on := 4, ground := Ground.textOnly Departure.lateStores }, { on := 5, ground := Ground.textOnly Departure.lateStores }, { on := 6, ground := Ground.textOnly Departure.lateStores }, { on := 7, ground := Ground.textOnly Departure.lateStores }], guard := Option.none } : Oper)) (N := Option.none) #[true, true, true, true, true, true, true, true, true, false] rfl rfl (by kernel_rfl) (by decide) ?_
        intro KK hKK
        refine skip_ (wanted_none rfl) rfl (w1 := w8.drew.setRow y #[.iface 104 (.pointer (some ⟨g, 0, Option.none⟩)), .pointer (some ⟨r, 0, Option.none⟩)]) (exec_store_both (.tmp 2) (.tmp 87) rfl y rfl [.iface 104 (.pointer (some ⟨g, 0, Option.none⟩)), .pointer (some ⟨r, 0, Option.none⟩)] [.nilIface, .pointer Option.none] rfl hY6d rfl rfl (by simp [Value.oneCell'])) (hKK.out _ _ (hS0.setRow y _ (fun _ => rfl)) (fun hS1 => ?_))
        try simp only [Act.put, List.setIfInBounds_toArray, List.set_cons_zero, List.set_cons_succ]
        refine pure_ (i := 9) (N := some 3) (v := .bool true) #[true, true, true, true, true, true, true, true, true, true] rfl rfl (by kernel_rfl) (fun _ _ _ h => h) (Or.inl ⟨wanted_none rfl, fun w => by rfl⟩) rfl ?_
        try simp only [Act.put, List.setIfInBounds_toArray, List.set_cons_zero, List.set_cons_succ]
        refine done_ (by kernel_rfl) ?_
        have hk7' := hS1
        go_wp2_with fail
        refine bodyPost_ret (results_made _ _ y true [.iface 104 (.pointer (some ⟨g, 0, Option.none⟩)), .pointer (some ⟨r, 0, Option.none⟩)] rfl rfl (hY6d.setRow _) rfl) rfl ⟨g, r, X, Z, W, rfl, ⟨hM8.keeps hk7' (fun b e f => ?_) (fun f => ?_), hR8.keeps hk7' (fun b e f => ?_) (fun b f => ?_), fun b e f => ?_⟩, k8.andThen hk7' (fun i hi e => ?_)⟩
        · have := HXL.out b (.inl e); simp only [One] at f; omega
        · have := HXL.out g (.inr rfl); simp only [One] at f; omega
        · have := hZ8 b e; simp only [One] at f; have := hY7.lt; omega
        · simp only [One] at f; omega
        · have h1 := hZ8 b f
          rcases e with e | rfl
          · have := (hM7.X b e).2; omega
          · have := hM7.lt; omega
        · simp only [One] at e; omega
end Go.Proofs.Ytcihfjfbcfgidaa
