/- RegisterPlays: every script of one machine, step by step beside the document's. -/
import Derived.Test.YtcihfjfbcfgidaaStepB
import Derived.Test.YtcihfjfbcfgidaaStepT
import Derived.Handy
namespace Go.Proofs.Ytcihfjfbcfgidaa
open Go.RowKit Go.Maps Go.Proofs.YtcihfjfbcfgidaaW.PrintLast
set_option linter.unusedVariables false

theorem step_any (base : Nat) (X : Nat → Prop) (g : Nat) (Z W : Nat → Prop) (r : Nat) (h : Hd) (round : Int) (ph : Ph) (sp : Sp) (w : World) (hB : Bo w base X g Z W r h round ph) (hR : sp.Raw w) (hlow : sp.Low base) :
    Calls Try.prog 23 #[bothV g r, .agg sp.cells.toArray] w (Step7 base X g Z r h w) := by
  by_cases h2 : sp.kind = 2
  · exact step_take base X g Z W r h round ph sp w hB hR hlow h2
  · by_cases h4 : sp.kind = 4
    · exact step_near base X g Z W r h round ph sp w hB hR hlow h4
    · exact step_bt base X g Z W r h round ph sp w hB h2 h4

set_option maxRecDepth 100000 in
set_option maxHeartbeats 8000000 in
theorem plays7_any (wrt : Bool) (client op k0 k1 k2 k3 : Int) (A : Option Addr) (n cap : Nat) (l : List Int) (round0 size : Int) (B : Option Addr) (m cap0 : Nat) (zs : List Int) (T : Option Addr) (t cap' : Nat) (its : List Sp) (w : World) (hA : Nums .i64 w A l) (hn : l.length = n) (hwf : ∀ s ∈ l, (Lit.int .i64 s).wf = true) (hcap : A = Option.none → cap = 0) (hN : n ≤ 140737488351232) (hB : Nums .u8 w B zs) (hm : zs.length = m) (hz : m ≤ 140737488351232)
    (hT : SpsAt w T its) (hR : ∀ x ∈ its, x.Raw w) (ht : its.length = t) (hr : t ≤ 140737488351232) :
    Calls Try.prog 6 #[.agg #[.bool wrt, .int .i64 client, .int .i64 op, .int .i64 k0, .int .i64 k1, .int .i64 k2, .int .i64 k3, .slice A n cap, .int .i64 round0, .int .i64 size, .slice B m cap0], .slice T t cap'] w fun e w' => e = .returned (.bool true) ∧ Keeps None w w' := by
  subst ht
  obtain ⟨x0, hx0⟩ : ∃ x, x = w.heap.size := ⟨_, rfl⟩
  obtain ⟨W1, hW1⟩ : ∃ W, W = w.alloc (.cells #[.bool wrt, .int .i64 client, .int .i64 op, .int .i64 k0, .int .i64 k1, .int .i64 k2, .int .i64 k3, .slice A n cap, .int .i64 round0, .int .i64 size, .slice B m cap0] 71) := ⟨_, rfl⟩
  have kw1 : Keeps None w W1 := by rw [hW1]; exact (Keeps.refl _ _).alloc _
  have hX : Blk W1 x0 71 [.bool wrt, .int .i64 client, .int .i64 op, .int .i64 k0, .int .i64 k1, .int .i64 k2, .int .i64 k3, .slice A n cap, .int .i64 round0, .int .i64 size, .slice B m cap0] := by rw [hW1, hx0]; exact Blk.new _ _ _
  have rX := hX.range 0 [.bool wrt, .int .i64 client, .int .i64 op, .int .i64 k0, .int .i64 k1, .int .i64 k2, .int .i64 k3, .slice A n cap, .int .i64 round0, .int .i64 size, .slice B m cap0] rfl
  have c7 := hX.cell 7 _ rfl
  go_enter Try.func6, Try.ntmps6
  go_upto_region 1 with (fail)
  rw [← hW1, ← hx0]
  clear hW1 hx0
  by_cases hbig : 100 < n
  · have tst : decide ((n : Int) > 100) = true := decide_eq_true (by omega)
    go_wp2_with fail
    refine (head_any W1).mono ?_
    rintro e wc ⟨rfl, hkc⟩
    go_wp2_with fail
    go_ret
    exact ⟨rfl, kw1.trans hkc⟩
  · have tst : decide ((n : Int) > 100) = false := decide_eq_false (by omega)
    go_wp2_with (refine wpList_load_mid_w ?_ 71 (.tmp 2) rfl x0 0 ?_ [.bool wrt, .int .i64 client, .int .i64 op, .int .i64 k0, .int .i64 k1, .int .i64 k2, .int .i64 k3, .slice A n cap, .int .i64 round0, .int .i64 size, .slice B m cap0] _ rX Try.underlying71 rfl (by kernel_rfl) ?_; (rfl); (rfl))
    refine (made7_any wrt client op k0 k1 k2 k3 A n cap l round0 size B m cap0 zs W1 (hA.grew kw1) hn (by omega) hwf hcap (hB.grew kw1) hm hz).mono ?_
    rintro e w2 ⟨g, r, X0, Z0, V0, rfl, hB2, hk2⟩
    obtain ⟨hh, hhd⟩ : ∃ h, h = hdOf wrt client op k0 k1 k2 k3 l size zs := ⟨_, rfl⟩
    rw [← hhd] at hB2
    clear hhd
    obtain ⟨base, hbase⟩ : ∃ b, b = W1.heap.size := ⟨_, rfl⟩
    rw [← hbase] at hB2
    simp only [bothV]
    obtain ⟨y, hy⟩ : ∃ y, y = w2.heap.size := ⟨_, rfl⟩
    obtain ⟨w3, hw3⟩ : ∃ W, W = w2.alloc (.cells #[.iface 104 (.pointer (some ⟨g, 0, Option.none⟩)), .pointer (some ⟨r, 0, Option.none⟩)] 75) := ⟨_, rfl⟩
    have kw3 : Keeps None w2 w3 := by rw [hw3]; exact (Keeps.refl _ _).alloc _
    have hY : Blk w3 y 75 [.iface 104 (.pointer (some ⟨g, 0, Option.none⟩)), .pointer (some ⟨r, 0, Option.none⟩)] := by rw [hw3, hy]; exact Blk.new _ _ _
    go_upto_region 4 with (fail)
    rw [← hw3, ← hy]
    have hyO : ¬ (X0 y ∨ y = g ∨ Z0 y) := by
      rintro (f | f | f)
      · have := (hB2.p.X y f).2; omega
      · have := hB2.p.lt; omega
      · have := (hB2.r.Z y f).2; omega
    have hB3 := hB2.grew kw3
    have y0 := hY.cell 0 _ rfl
    have y1 := hY.cell 1 _ rfl
    have k13 : Keeps None w w3 := (kw1.trans hk2).trans kw3
    have hwb : w.heap.size ≤ base := by have := kw1.size; omega
    clear hw3 hy hbase kw1 hk2 kw3 hB2 c7 rX hX
    go_wp2_with fail
    refine (look_any base X0 g Z0 V0 r hh _ _ w3 hB3).mono ?_
    rintro e w4 ⟨rfl, hk4⟩
    have hB4 := hB3.grew hk4
    have hY4 := hY.grew hk4
    have k14 := k13.trans hk4
    clear y0 y1 hB3 hY k13 hk4
    go_wp2_with fail
    go_loopw [7] (fun i wr => ∃ (k : Nat) (X Z W : Nat → Prop) (round : Int) (ph : Ph), k ≤ its.length ∧ k ≤ 200 ∧ i = .int .i64 k ∧ Bo wr base X g Z W r hh round ph ∧ Blk wr y 75 [.iface 104 (.pointer (some ⟨g, 0, Option.none⟩)), .pointer (some ⟨r, 0, Option.none⟩)] ∧ ¬ (X y ∨ y = g ∨ Z y) ∧ Keeps None w wr) (fun i _ => its.length - (intOf i).toNat)
    case atStart => exact ⟨0, X0, Z0, V0, _, _, Nat.zero_le _, by omega, rfl, hB4, hY4, hyO, k14⟩
    case round =>
      clear hB4 hY4 hyO k14
      obtain ⟨k, X, Z, W, round, ph, hk, hk3, rfl, hB, hY, hyO, hK⟩ := hrel
      have y0 := hY.cell 0 _ rfl
      have y1 := hY.cell 1 _ rfl
      rcases (by omega : (k < its.length ∧ k < 200) ∨ ¬ k < its.length ∨ (k < its.length ∧ ¬ k < 200)) with hgo | hend | hend
      · obtain ⟨hlt, h300⟩ := hgo
        obtain ⟨x, hx⟩ : ∃ x, its[k]? = some x := ⟨_, List.getElem?_eq_getElem hlt⟩
        have hxr := hR x (List.mem_of_getElem? hx)
        have hxl : x.Low base := hxr.low.mono hwb
        have hxw : x.Raw wr.drew := (hxr.keeps hxr.low hK (fun _ _ => id)).keeps hxl (Keeps.refl None wr).drew (fun _ _ => id)
        obtain ⟨b, o, rfl, hxc0⟩ := hT k x hx
        have hxc : ∀ (i : Nat) v, x.cells[i]? = some v → wr.cell? ⟨b, o + k * 31 + i, Option.none⟩ = some v := fun i v hv => hK.cell (hxc0 i v hv) id
        clear hxr hx hxc0
        go_wp2_with fail
        refine start_ (ds := [5]) (S := (fun w' => Keeps None wr w')) #[false, false, false, false, false, false, false] (by kernel_rfl) rfl rfl ((Keeps.refl _ _).drew) (fun hS0 => ?_)
        refine take_ (i := 0) (N := some 35) (v := bothV g r) #[true, false, false, false, false, false, false] rfl rfl (by kernel_rfl) (fun _ _ _ h => h) (Or.inl ⟨wanted_none rfl, by intro w' hSw; have q0 := hSw.cell y0 id; have q1 := hSw.cell y1 id; simp only [bothV]; go_simp⟩) hS0 rfl ?_
        try simp only [Act.put, List.setIfInBounds_toArray, List.set_cons_zero, List.set_cons_succ]
        refine pure_ (i := 1) (N := some 36) (v := .slice (some ⟨b, o, Option.none⟩) its.length cap') #[true, true, false, false, false, false, false] rfl rfl (by kernel_rfl) (fun _ _ _ h => h) (Or.inl ⟨wanted_none rfl, fun w => by rfl⟩) rfl ?_
        try simp only [Act.put, List.setIfInBounds_toArray, List.set_cons_zero, List.set_cons_succ]
        refine pure_ (i := 2) (N := some 37) (v := .int .i64 (k : Int)) #[true, true, true, false, false, false, false] rfl rfl (by kernel_rfl) (fun _ _ _ h => h) (Or.inl ⟨wanted_none rfl, fun w => by rfl⟩) rfl ?_
        try simp only [Act.put, List.setIfInBounds_toArray, List.set_cons_zero, List.set_cons_succ]
        refine pure_ (i := 3) (N := some 38) (v := .pointer (some ⟨b, o + k * 31, Option.none⟩)) #[true, true, true, true, false, false, false] rfl rfl (by kernel_rfl) (fun _ _ _ h => h) (Or.inl ⟨wanted_none rfl, fun w => by go_simp⟩) rfl ?_
        try simp only [Act.put, List.setIfInBounds_toArray, List.set_cons_zero, List.set_cons_succ]
        refine take_ (i := 4) (N := some 39) (v := .agg x.cells.toArray) #[true, true, true, true, true, false, false] rfl rfl (by kernel_rfl) (fun _ _ _ h => h) (Or.inl ⟨wanted_none rfl, by intro w' hSw; exact exec_load_mid 80 (.tmp 38) rfl b (o + k * 31) rfl x.cells _ (fun i v hv => hSw.cell (hxc i v hv) id) Try.underlying80 rfl (by kernel_rfl)⟩) hS0 rfl ?_
        try simp only [Act.put, List.setIfInBounds_toArray, List.set_cons_zero, List.set_cons_succ]
        refine last_ (i := 5) (oi := ({ dst := some 40, op := Op.call { callee := Callee.value (Operand.func 23), args := #[Operand.tmp 35, Operand.tmp 39], argTypes := #[75, 80] }, type := 4, pos := "law.go:224", after := #[{ on := 0, ground := Ground.data }, { on := 4, ground := Ground.data }], guard := Option.none } : Oper)) (N := some 40) #[true, true, true, true, true, true, false] rfl rfl (by kernel_rfl) (by decide) ?_
        intro KK hKK
        refine goes_ Try.func23 (by kernel_rfl) rfl #[bothV g r, .agg x.cells.toArray] (wanted_none rfl) rfl rfl (by simp [Act.eval]) ?_
        refine (step_any base X g Z W r hh round ph x wr.drew (hB.grew (Keeps.refl None wr).drew) hxw hxl).mono ?_
        rintro e wb ⟨rfl, X', Z', W', round', ph', hB', hXn, hZn, hkb⟩
        refine ⟨_, rfl, hKK.out _ _ ?_⟩
        try simp only [Act.put, List.setIfInBounds_toArray, List.set_cons_zero, List.set_cons_succ]
        refine pure_ (i := 6) (N := some 41) (v := .bool false) #[true, true, true, true, true, true, true] rfl rfl (by kernel_rfl) (fun _ _ _ h => h) (Or.inl ⟨wanted_none rfl, fun w => by go_simp⟩) rfl ?_
        try simp only [Act.put, List.setIfInBounds_toArray, List.set_cons_zero, List.set_cons_succ]
        refine done_ (by kernel_rfl) ?_
        go_wp2_with fail
        go_roundw
        case rel => exact ⟨k + 1, X', Z', W', round', ph', by omega, by omega, by go_num, hB', (hY.grew (Keeps.refl None wr).drew).keeps hkb hyO, (fun f => by
          have hyl : y < wr.drew.heap.size := (hY.grew (Keeps.refl None wr).drew).lt
          rcases f with f | f | f
          · rcases hXn y f with f | f
            · exact hyO (.inl f)
            · omega
          · exact hyO (.inr (.inl f))
          · rcases hZn y f with f | f
            · exact hyO (.inr (.inr f))
            · omega), (hK.drew).andThen hkb (fun i hi f => by
          rcases f with f | f | f
          · have := (hB.p.X i f).1; omega
          · have := hB.p.g.2; omega
          · have := (hB.r.Z i f).1; omega)⟩
        case measure => simp [intOf]; omega
      all_goals
        go_wp2_with fail
        refine (head_any wr).mono ?_
        rintro e wc ⟨rfl, hkc⟩
        go_wp2_with fail
        go_ret
        exact ⟨rfl, hK.trans hkc⟩
end Go.Proofs.Ytcihfjfbcfgidaa
