/- One step of both machines: Begin, Tick, and what is no step. -/
import Derived.Test.YtcihfjfbcfgidaaStepP
import Derived.Test.YtcihfjfbcfgidaaOpen7
import Derived.Handy
namespace Go.Proofs.Ytcihfjfbcfgidaa
open Go.RowKit Go.Maps Go.Proofs.YtcihfjfbcfgidaaW.PrintLast
set_option linter.unusedVariables false

set_option maxRecDepth 100000 in
set_option maxHeartbeats 6400000 in
theorem step_bt (base : Nat) (X : Nat → Prop) (g : Nat) (Z W : Nat → Prop) (r : Nat) (h : Hd) (round : Int) (ph : Ph) (sp : Sp) (w : World) (hB : Bo w base X g Z W r h round ph) (hk2 : sp.kind ≠ 2) (hk4 : sp.kind ≠ 4) :
    Calls Try.prog 23 #[bothV g r, .agg sp.cells.toArray] w (Step7 base X g Z r h w) := by
  obtain ⟨x, hx⟩ : ∃ x, x = w.heap.size := ⟨_, rfl⟩
  obtain ⟨y, hy⟩ : ∃ y, y = w.heap.size + 1 := ⟨_, rfl⟩
  obtain ⟨cs, hcs⟩ : ∃ cs, cs = sp.cells := ⟨_, rfl⟩
  have hc0 : cs[0]? = some (.int .i64 sp.kind) := by rw [hcs]; rfl
  obtain ⟨kind, hkind⟩ : ∃ k, k = sp.kind := ⟨_, rfl⟩
  rw [← hkind] at hc0 hk2 hk4
  rw [← hcs]
  clear hcs hkind
  obtain ⟨Wa, hWa⟩ : ∃ W, W = w.alloc (.cells #[.iface 104 (.pointer (some ⟨g, 0, Option.none⟩)), .pointer (some ⟨r, 0, Option.none⟩)] 75) := ⟨_, rfl⟩
  obtain ⟨W1, hW1⟩ : ∃ W, W = Wa.alloc (.cells cs.toArray 80) := ⟨_, rfl⟩
  have ka : Keeps None w Wa := by rw [hWa]; exact (Keeps.refl _ _).alloc _
  have kb : Keeps None Wa W1 := by rw [hW1]; exact (Keeps.refl _ _).alloc _
  have hsa : Wa.heap.size = y := by rw [hWa, hy, World.size_alloc]
  have hX : Blk W1 x 75 [.iface 104 (.pointer (some ⟨g, 0, Option.none⟩)), .pointer (some ⟨r, 0, Option.none⟩)] := by
    have : Blk Wa x 75 [.iface 104 (.pointer (some ⟨g, 0, Option.none⟩)), .pointer (some ⟨r, 0, Option.none⟩)] := by rw [hWa, hx]; exact Blk.new _ _ _
    exact this.grew kb
  have hY : Blk W1 y 80 cs := by rw [hW1, ← hsa]; exact Blk.new _ _ _
  have k1 := ka.trans kb
  have hbl := hB.base_le
  have hB1 := hB.grew k1
  have hxge : base ≤ x := by omega
  have hxW : ¬ W x := fun f => by have := (hB.r.Z x (hB.r.W x f)).2; omega
  have hxg : ¬ (X x ∨ x = g) := by
    intro f
    rcases f with f | f
    · have := (hB.p.X x f).2; omega
    · have := hB.p.lt; omega
  have x0 := hX.cell 0 _ rfl
  have y0 := hY.cell 0 _ hc0
  have hgr := hB.p.ok.grp
  simp only [bothV]
  go_enter Try.func23, Try.ntmps23
  go_upto_region 1 with (fail)
  rw [← hWa, ← hW1, ← hy, ← hx]
  clear hWa hW1 hx hy hsa ka kb hY
  by_cases h1 : kind = 1
  · subst h1
    go_wp2_with fail
    refine (begin_any g base X h round ph W1 hB1.p).mono ?_
    intro e w2 hs
    obtain ⟨X1, B1, u, rfl, hH, hXn, -, kf2⟩ := hB1.first hs
    have hX2 := hX.keeps kf2 hxg
    have x1 := hX2.cell 1 _ rfl
    clear hs x0 y0
    go_wp2_with fail
    refine (refbegin_any base r Z W h round ph w2 hH.r).mono ?_
    intro e w3 hs
    obtain ⟨Z1, V1, u', rfl, hB3, hS, hS', hZn, kf3⟩ := hH.second hs
    have hX3 := hX2.keeps kf3 hxW
    clear hs x1
    go_wp2_with fail
    refine (samemsgs_any h _ u u' w3 hS hS' (by have := lnO_begin h round ph; omega)).mono ?_
    rintro e w4 ⟨rfl, hk4'⟩
    have hX4 := hX3.grew hk4'
    have hB4 := hB3.grew hk4'
    have x0 := hX4.cell 0 _ rfl
    have x1 := hX4.cell 1 _ rfl
    clear hX hX2 hX3 hS hS' hB3 hH
    go_wp2_with fail
    refine (look_any base X1 g Z1 V1 r h _ _ w4 hB4).mono ?_
    rintro e w5 ⟨rfl, hk5⟩
    go_wp2_with fail
    go_ret
    exact ⟨rfl, X1, Z1, V1, _, _, hB4.grew hk5, fun b f => (hXn b f).imp_right (fun f => Nat.le_trans k1.size f), fun b f => (hZn b f).imp_right (fun f => Nat.le_trans k1.size (Nat.le_trans kf2.size f)), ((k1.of_none.andThen kf2 (fun i _ f => f.elim .inl (fun f => .inr (.inl f)))).andThen kf3 (fun i _ f => .inr (.inr (hB.r.W i f)))).trans (hk4'.of_none.trans hk5.of_none)⟩
  · by_cases h3 : kind = 3
    · subst h3
      go_wp2_with fail
      refine (tick_any g base X h round ph W1 hB1.p).mono ?_
      intro e w2 hs
      obtain ⟨X1, B1, u, rfl, hH, hXn, -, kf2⟩ := hB1.first hs
      have hX2 := hX.keeps kf2 hxg
      have x1 := hX2.cell 1 _ rfl
      clear hs x0 y0
      go_wp2_with fail
      refine (reftick_any base r Z W h round ph w2 hH.r).mono ?_
      intro e w3 hs
      obtain ⟨Z1, V1, u', rfl, hB3, hS, hS', hZn, kf3⟩ := hH.second hs
      have hX3 := hX2.keeps kf3 hxW
      clear hs x1
      go_wp2_with fail
      refine (samemsgs_any h _ u u' w3 hS hS' (by have := lnO_tick h round ph; omega)).mono ?_
      rintro e w4 ⟨rfl, hk4'⟩
      have hX4 := hX3.grew hk4'
      have hB4 := hB3.grew hk4'
      have x0 := hX4.cell 0 _ rfl
      have x1 := hX4.cell 1 _ rfl
      clear hX hX2 hX3 hS hS' hB3 hH
      go_wp2_with fail
      refine (look_any base X1 g Z1 V1 r h _ _ w4 hB4).mono ?_
      rintro e w5 ⟨rfl, hk5⟩
      go_wp2_with fail
      go_ret
      exact ⟨rfl, X1, Z1, V1, _, _, hB4.grew hk5, fun b f => (hXn b f).imp_right (fun f => Nat.le_trans k1.size f), fun b f => (hZn b f).imp_right (fun f => Nat.le_trans k1.size (Nat.le_trans kf2.size f)), ((k1.of_none.andThen kf2 (fun i _ f => f.elim .inl (fun f => .inr (.inl f)))).andThen kf3 (fun i _ f => .inr (.inr (hB.r.W i f)))).trans (hk4'.of_none.trans hk5.of_none)⟩
    · have x1 := hX.cell 1 _ rfl
      go_wp2_with fail
      refine (look_any base X g Z W r h _ _ W1 hB1).mono ?_
      rintro e w5 ⟨rfl, hk5⟩
      go_wp2_with fail
      go_ret
      exact ⟨rfl, X, Z, W, _, _, hB1.grew hk5, fun b f => .inl f, fun b f => .inl f, k1.of_none.trans hk5.of_none⟩
end Go.Proofs.Ytcihfjfbcfgidaa
