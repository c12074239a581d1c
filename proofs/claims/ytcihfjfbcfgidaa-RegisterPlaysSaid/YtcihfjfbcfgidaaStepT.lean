/- One step of both machines: Take, of any message and of one that fits. -/
import Derived.Test.YtcihfjfbcfgidaaStepP
import Derived.Test.YtcihfjfbcfgidaaOpen7
import Derived.Test.YtcihfjfbcfgidaaBack7
import Derived.Handy
namespace Go.Proofs.Ytcihfjfbcfgidaa
open Go.RowKit Go.Maps Go.Proofs.YtcihfjfbcfgidaaW.PrintLast
set_option linter.unusedVariables false

/-- What of a step lies in memory lies below. -/
structure Sp.Low (base : Nat) (x : Sp) : Prop where
  a : ∀ b o, x.A = some ⟨b, o, Option.none⟩ → 0 < x.zs.length → b < base
  e : ∀ b o, x.E = some ⟨b, o, Option.none⟩ → 0 < x.el.length → b < base
  l : ∀ b o, x.L = some ⟨b, o, Option.none⟩ → 0 < x.ll.length → b < base
  d : ∀ b o, x.D = some ⟨b, o, Option.none⟩ → 0 < x.dl.length → b < base
theorem Ents.off {S : Nat → Prop} {w w' : World} {A : Option Addr} {l : List Ent} (h : Ents w A l) (hk : Keeps S w w') (hA : ∀ b o, A = some ⟨b, o, Option.none⟩ → 0 < l.length → ¬ S b) : Ents w' A l := by
  cases l with
  | nil => exact Ents.nil _ _
  | cons x l => exact h.keeps hk (fun b o e => hA b o e (by simp))
theorem Ents.below {w : World} {b o : Nat} {l : List Ent} (h : Ents w (some ⟨b, o, Option.none⟩) l) (h0 : 0 < l.length) : b < w.heap.size := by
  obtain ⟨b', o', e, hc⟩ := h 0 (l[0]) (List.getElem?_eq_getElem h0)
  cases e
  exact World.block_lt_of_cell? w _ (hc 0 _ rfl)
theorem Lass.off {S : Nat → Prop} {w w' : World} {A : Option Addr} {l : List Las} (h : Lass w A l) (hk : Keeps S w w') (hA : ∀ b o, A = some ⟨b, o, Option.none⟩ → 0 < l.length → ¬ S b) : Lass w' A l := by
  cases l with
  | nil => exact Lass.nil _ _
  | cons x l => exact h.keeps hk (fun b o e => hA b o e (by simp))
theorem Lass.below {w : World} {b o : Nat} {l : List Las} (h : Lass w (some ⟨b, o, Option.none⟩) l) (h0 : 0 < l.length) : b < w.heap.size := by
  obtain ⟨b', o', e, hc⟩ := h 0 (l[0]) (List.getElem?_eq_getElem h0)
  cases e
  exact World.block_lt_of_cell? w _ (hc 0 _ rfl)
theorem Coms.off {S : Nat → Prop} {w w' : World} {A : Option Addr} {l : List Com} (h : Coms w A l) (hk : Keeps S w w') (hA : ∀ b o, A = some ⟨b, o, Option.none⟩ → 0 < l.length → ¬ S b) : Coms w' A l := by
  cases l with
  | nil => exact Coms.nil _ _
  | cons x l => exact h.keeps hk (fun b o e => hA b o e (by simp))
theorem Coms.below {w : World} {b o : Nat} {l : List Com} (h : Coms w (some ⟨b, o, Option.none⟩) l) (h0 : 0 < l.length) : b < w.heap.size := by
  obtain ⟨b', o', e, hc⟩ := h 0 (l[0]) (List.getElem?_eq_getElem h0)
  cases e
  exact World.block_lt_of_cell? w _ (hc 0 _ rfl)
theorem Sp.Raw.low {w : World} {x : Sp} (h : x.Raw w) : x.Low w.heap.size :=
  ⟨fun b o e h0 => by have := h.nums; rw [e] at this; exact this.lt h0, fun b o e h0 => by have := h.ents; rw [e] at this; exact this.below h0, fun b o e h0 => by have := h.lass; rw [e] at this; exact this.below h0, fun b o e h0 => by have := h.coms; rw [e] at this; exact this.below h0⟩
theorem Sp.Low.mono {a b : Nat} {x : Sp} (h : x.Low a) (hab : a ≤ b) : x.Low b :=
  ⟨fun c o e h0 => Nat.lt_of_lt_of_le (h.a c o e h0) hab, fun c o e h0 => Nat.lt_of_lt_of_le (h.e c o e h0) hab, fun c o e h0 => Nat.lt_of_lt_of_le (h.l c o e h0) hab, fun c o e h0 => Nat.lt_of_lt_of_le (h.d c o e h0) hab⟩
theorem Sp.Raw.keeps {S : Nat → Prop} {w w' : World} {base : Nat} {x : Sp} (h : x.Raw w) (hl : x.Low base) (hk : Keeps S w w') (hS : ∀ b, b < base → ¬ S b) : x.Raw w' :=
  ⟨h.nums.off hk (fun b o e h0 => hS b (hl.a b o e h0)), h.len, h.most, h.fi, h.ents.off hk (fun b o e h0 => hS b (hl.e b o e h0)), h.elen, h.enil, h.emost, h.lass.off hk (fun b o e h0 => hS b (hl.l b o e h0)), h.llen, h.lnil, h.lmost, h.coms.off hk (fun b o e h0 => hS b (hl.d b o e h0)), h.dlen, h.dnil, h.dmost⟩
theorem nearF_wf {grp : List Int} {fi : Int} (hg : ∀ s ∈ grp, (Lit.int .i64 s).wf = true) (hf : (Lit.int .i64 fi).wf = true) : (Lit.int .i64 (nearF grp fi)).wf = true := by
  unfold nearF
  split
  · exact hf
  · rw [List.getD_eq_getElem?_getD]
    cases hx : grp[(restF fi grp.length).toNat]? with
    | none => simp only [Option.getD_none]; decide
    | some v => exact hg v (List.mem_of_getElem? hx)

set_option maxRecDepth 100000 in
set_option maxHeartbeats 6400000 in
theorem step_take (base : Nat) (X : Nat → Prop) (g : Nat) (Z W : Nat → Prop) (r : Nat) (h : Hd) (round : Int) (ph : Ph) (sp : Sp) (w : World) (hB : Bo w base X g Z W r h round ph) (hR : sp.Raw w) (hlow : sp.Low base) (hk : sp.kind = 2) :
    Calls Try.prog 23 #[bothV g r, .agg sp.cells.toArray] w (Step7 base X g Z r h w) := by
  obtain ⟨kind, mkd, fc, fi, tc, ti, op, rd, q0, q1, q2, q3, s1, s2, h1, h2, A, n, cap, zs, c0, c1, c2, nm, c3, c4, c5, c6, c7, up, E, en, ec, el, L, ln, lc, ll, D, dn, dc, dl, more⟩ := sp
  have hA : Nums .u8 w A zs := hR.nums
  obtain rfl : zs.length = n := hR.len
  have hz : zs.length ≤ 140737488351232 := hR.most
  have hfi : (Lit.int .i64 fi).wf = true := hR.fi
  have hE : Ents w E el := hR.ents
  obtain rfl : el.length = en := hR.elen
  have hEn : E = Option.none → ec = 0 := hR.enil
  have he : el.length * 40 ≤ 140737488351232 := hR.emost
  have hL : Lass w L ll := hR.lass
  obtain rfl : ll.length = ln := hR.llen
  have hLn : L = Option.none → lc = 0 := hR.lnil
  have hl : ll.length * 56 ≤ 140737488351232 := hR.lmost
  have hD : Coms w D dl := hR.coms
  obtain rfl : dl.length = dn := hR.dlen
  have hDn : D = Option.none → dc = 0 := hR.dnil
  have hd : dl.length * 80 ≤ 140737488351232 := hR.dmost
  have lA : ∀ b o, A = some ⟨b, o, Option.none⟩ → 0 < zs.length → b < base := hlow.a
  have lE : ∀ b o, E = some ⟨b, o, Option.none⟩ → 0 < el.length → b < base := hlow.e
  have lL : ∀ b o, L = some ⟨b, o, Option.none⟩ → 0 < ll.length → b < base := hlow.l
  have lD : ∀ b o, D = some ⟨b, o, Option.none⟩ → 0 < dl.length → b < base := hlow.d
  obtain rfl : kind = 2 := hk
  clear hR hlow
  simp only [Sp.cells, bothV]
  obtain ⟨x, hx⟩ : ∃ x, x = w.heap.size := ⟨_, rfl⟩
  obtain ⟨y, hy⟩ : ∃ y, y = w.heap.size + 1 := ⟨_, rfl⟩
  obtain ⟨Wa, hWa⟩ : ∃ W, W = w.alloc (.cells #[.iface 104 (.pointer (some ⟨g, 0, Option.none⟩)), .pointer (some ⟨r, 0, Option.none⟩)] 75) := ⟨_, rfl⟩
  obtain ⟨W1, hW1⟩ : ∃ W, W = Wa.alloc (.cells #[.int .i64 2, .int .i64 mkd, .bool fc, .int .i64 fi, .bool tc, .int .i64 ti, .int .i64 op, .int .i64 rd, .int .i64 q0, .int .i64 q1, .int .i64 q2, .int .i64 q3, .int .i64 s1, .int .i64 s2, .int .i64 h1, .int .i64 h2, .slice A zs.length cap, .int .i64 c0, .int .i64 c1, .int .i64 c2, .string nm, .int .i64 c3, .int .i64 c4, .int .i64 c5, .int .i64 c6, .int .i64 c7, .int .i64 up, .slice E el.length ec, .slice L ll.length lc, .slice D dl.length dc, .bool more] 80) := ⟨_, rfl⟩
  have ka : Keeps None w Wa := by rw [hWa]; exact (Keeps.refl _ _).alloc _
  have kb : Keeps None Wa W1 := by rw [hW1]; exact (Keeps.refl _ _).alloc _
  have hsa : Wa.heap.size = y := by rw [hWa, hy, World.size_alloc]
  have hX : Blk W1 x 75 [.iface 104 (.pointer (some ⟨g, 0, Option.none⟩)), .pointer (some ⟨r, 0, Option.none⟩)] := by
    have : Blk Wa x 75 [.iface 104 (.pointer (some ⟨g, 0, Option.none⟩)), .pointer (some ⟨r, 0, Option.none⟩)] := by rw [hWa, hx]; exact Blk.new _ _ _
    exact this.grew kb
  have hY : Blk W1 y 80 [.int .i64 2, .int .i64 mkd, .bool fc, .int .i64 fi, .bool tc, .int .i64 ti, .int .i64 op, .int .i64 rd, .int .i64 q0, .int .i64 q1, .int .i64 q2, .int .i64 q3, .int .i64 s1, .int .i64 s2, .int .i64 h1, .int .i64 h2, .slice A zs.length cap, .int .i64 c0, .int .i64 c1, .int .i64 c2, .string nm, .int .i64 c3, .int .i64 c4, .int .i64 c5, .int .i64 c6, .int .i64 c7, .int .i64 up, .slice E el.length ec, .slice L ll.length lc, .slice D dl.length dc, .bool more] := by rw [hW1, ← hsa]; exact Blk.new _ _ _
  have k1 := ka.trans kb
  have hbl := hB.base_le
  have hB1 := hB.grew k1
  have hxge : base ≤ x := by omega
  have hxW : ¬ W x := fun f => by have := (hB.r.Z x (hB.r.W x f)).2; omega
  have hxg : ¬ (X x ∨ x = g) := by
    intro f
    rcases f with f | f
    · have := (hB.p.X x f).2; omega
    · have := hB.p.lt; omega
  have hgr := hB.p.ok.grp
  have hgw := hB.p.ok.wf
  have hA1 := hA.grew k1
  have hE1 := hE.grew k1
  have hL1 := hL.grew k1
  have hD1 := hD.grew k1
  have x0 := hX.cell 0 _ rfl
  have x1 := hX.cell 1 _ rfl
  have y0 := hY.cell 0 _ rfl
  have y30 := hY.range 1 [.int .i64 mkd, .bool fc, .int .i64 fi, .bool tc, .int .i64 ti, .int .i64 op, .int .i64 rd, .int .i64 q0, .int .i64 q1, .int .i64 q2, .int .i64 q3, .int .i64 s1, .int .i64 s2, .int .i64 h1, .int .i64 h2, .slice A zs.length cap, .int .i64 c0, .int .i64 c1, .int .i64 c2, .string nm, .int .i64 c3, .int .i64 c4, .int .i64 c5, .int .i64 c6, .int .i64 c7, .int .i64 up, .slice E el.length ec, .slice L ll.length lc, .slice D dl.length dc, .bool more] rfl
  have hZ0 := Blk.new W1 66 (msgL 0 false 0 false 0 0 0 0 0 0 0 0 0 (.slice Option.none 0 0))
  go_enter Try.func23, Try.ntmps23
  go_upto_region 1 with (fail)
  rw [← hWa, ← hW1, ← hy, ← hx]
  clear hWa hW1 hx hy hsa ka kb
  go_upto_region 12 with (first | (refine wpList_load_mid_w (by rfl) 66 (.tmp 36) rfl y 1 rfl [.int .i64 mkd, .bool fc, .int .i64 fi, .bool tc, .int .i64 ti, .int .i64 op, .int .i64 rd, .int .i64 q0, .int .i64 q1, .int .i64 q2, .int .i64 q3, .int .i64 s1, .int .i64 s2, .int .i64 h1, .int .i64 h2, .slice A zs.length cap, .int .i64 c0, .int .i64 c1, .int .i64 c2, .string nm, .int .i64 c3, .int .i64 c4, .int .i64 c5, .int .i64 c6, .int .i64 c7, .int .i64 up, .slice E el.length ec, .slice L ll.length lc, .slice D dl.length dc, .bool more] _ y30 Try.underlying66 rfl (by kernel_rfl) ?_) | (refine wpList_store_msg rfl (.tmp 8) (.tmp 37) rfl W1.heap.size [.int .i64 mkd, .bool fc, .int .i64 fi, .bool tc, .int .i64 ti, .int .i64 op, .int .i64 rd, .int .i64 q0, .int .i64 q1, .int .i64 q2, .int .i64 q3, .int .i64 s1, .int .i64 s2, .int .i64 h1, .int .i64 h2, .slice A zs.length cap, .int .i64 c0, .int .i64 c1, .int .i64 c2, .string nm, .int .i64 c3, .int .i64 c4, .int .i64 c5, .int .i64 c6, .int .i64 c7, .int .i64 up, .slice E el.length ec, .slice L ll.length lc, .slice D dl.length dc, .bool more] (msgL 0 false 0 false 0 0 0 0 0 0 0 0 0 (.slice Option.none 0 0)) ?_ ?_ ?_ ?_ ?_ ?_ ?_; (rfl); (rfl); (exact hZ0); (rfl); (rfl); (simp [Value.oneCell'])))
  obtain ⟨W2, hW2⟩ : ∃ W, W = (W1.alloc (.cells (msgL 0 false 0 false 0 0 0 0 0 0 0 0 0 (.slice Option.none 0 0)).toArray 66)).setRow W1.heap.size ([.int .i64 mkd, .bool fc, .int .i64 fi, .bool tc, .int .i64 ti, .int .i64 op, .int .i64 rd, .int .i64 q0, .int .i64 q1, .int .i64 q2, .int .i64 q3, .int .i64 s1, .int .i64 s2, .int .i64 h1, .int .i64 h2, .slice A zs.length cap, .int .i64 c0, .int .i64 c1, .int .i64 c2, .string nm, .int .i64 c3, .int .i64 c4, .int .i64 c5, .int .i64 c6, .int .i64 c7, .int .i64 up, .slice E el.length ec, .slice L ll.length lc, .slice D dl.length dc, .bool more] : List Value).toArray := ⟨_, rfl⟩
  have hZ2 := hZ0.setRow [.int .i64 mkd, .bool fc, .int .i64 fi, .bool tc, .int .i64 ti, .int .i64 op, .int .i64 rd, .int .i64 q0, .int .i64 q1, .int .i64 q2, .int .i64 q3, .int .i64 s1, .int .i64 s2, .int .i64 h1, .int .i64 h2, .slice A zs.length cap, .int .i64 c0, .int .i64 c1, .int .i64 c2, .string nm, .int .i64 c3, .int .i64 c4, .int .i64 c5, .int .i64 c6, .int .i64 c7, .int .i64 up, .slice E el.length ec, .slice L ll.length lc, .slice D dl.length dc, .bool more]
  have kz : Keeps None W1 ((W1.alloc (.cells (msgL 0 false 0 false 0 0 0 0 0 0 0 0 0 (.slice Option.none 0 0)).toArray 66)).setRow W1.heap.size ([.int .i64 mkd, .bool fc, .int .i64 fi, .bool tc, .int .i64 ti, .int .i64 op, .int .i64 rd, .int .i64 q0, .int .i64 q1, .int .i64 q2, .int .i64 q3, .int .i64 s1, .int .i64 s2, .int .i64 h1, .int .i64 h2, .slice A zs.length cap, .int .i64 c0, .int .i64 c1, .int .i64 c2, .string nm, .int .i64 c3, .int .i64 c4, .int .i64 c5, .int .i64 c6, .int .i64 c7, .int .i64 up, .slice E el.length ec, .slice L ll.length lc, .slice D dl.length dc, .bool more] : List Value).toArray) := ((Keeps.refl None W1).alloc _).setRow _ _ (fun f => absurd f (Nat.lt_irrefl _))
  rw [← hW2] at hZ2 kz
  simp only [msgL] at hW2
  rw [← hW2]
  obtain ⟨z, hzz⟩ : ∃ z, z = W1.heap.size := ⟨_, rfl⟩
  rw [← hzz] at hZ2 ⊢
  clear hW2 hZ0 y30
  have hX2 := hX.grew kz
  have hY2 := hY.grew kz
  have hB2 := hB1.grew kz
  have hA2 := hA1.grew kz
  have hE2 := hE1.grew kz
  have hL2 := hL1.grew kz
  have hD2 := hD1.grew kz
  have k2 := k1.trans kz
  have hzw : w.heap.size ≤ z := by have := k1.size; omega
  have hzge : base ≤ z := by omega
  have hzW : ¬ W z := fun f => by have := (hB.r.Z z (hB.r.W z f)).2; have := k1.size; omega
  have hzg : ¬ (X z ∨ z = g) := by
    intro f
    have := k1.size
    rcases f with f | f
    · have := (hB.p.X z f).2; omega
    · have := hB.p.lt; omega
  have hxz : x ≠ z := by have := hX.lt; omega
  clear hX hY hB1 hA1 hE1 hL1 hD1 kz x0 x1 y0 hzz
  have x0 := hX2.cell 0 _ rfl
  have x1 := hX2.cell 1 _ rfl
  have y0 := hY2.cell 0 _ rfl
  go_upto_region 14 with (fail)
  obtain ⟨W4, hW4⟩ : ∃ W, W = W2 := ⟨_, rfl⟩
  rw [← hW4] at hX2 hB2 hA2 hE2 hL2 hD2 hZ2 k2
  rw [← hW4]
  have hX4 := hX2
  have hB4 := hB2
  have hA4 := hA2
  have hE4 := hE2
  have hL4 := hL2
  have hD4 := hD2
  have hZ4 := hZ2
  have k4 := k2
  clear hW4 hX2 hY2 hB2 hA2 hE2 hL2 hD2 hZ2 x0 x1 y0

  go_wp2_with (refine wpList_load_msg rfl (.tmp 8) rfl z ?_ [.int .i64 mkd, .bool fc, .int .i64 fi, .bool tc, .int .i64 ti, .int .i64 op, .int .i64 rd, .int .i64 q0, .int .i64 q1, .int .i64 q2, .int .i64 q3, .int .i64 s1, .int .i64 s2, .int .i64 h1, .int .i64 h2, .slice A zs.length cap, .int .i64 c0, .int .i64 c1, .int .i64 c2, .string nm, .int .i64 c3, .int .i64 c4, .int .i64 c5, .int .i64 c6, .int .i64 c7, .int .i64 up, .slice E el.length ec, .slice L ll.length lc, .slice D dl.length dc, .bool more] ?_ ?_ ?_; (rfl); (exact hZ4); (rfl))
  refine (lendmsg_any mkd fc fi tc ti op rd q0 q1 q2 q3 s1 s2 h1 h2 A cap zs c0 c1 c2 nm c3 c4 c5 c6 c7 up E ec el L lc ll D dc dl more W4 hA4 hz hE4 hEn he hL4 hLn hl hD4 hDn hd).mono ?_
  rintro e w5 ⟨gl, E', ec', L', lc', D', dc', n1, n2, n3, rfl, g0, g1, g2, g3, hG, hO3, hb3, hO4, hb4, hO5, hk5⟩
  have hZ5 := hZ4.grew hk5
  have hV0 := Blk.new w5 66 (msgL 0 false 0 false 0 0 0 0 0 0 0 0 0 (.slice Option.none 0 0))
  go_upto_region 15 with (refine wpList_store_msg rfl (.tmp 9) (.tmp 45) rfl w5.heap.size [.int .i64 mkd, .bool fc, .int .i64 fi, .bool tc, .int .i64 ti, .int .i64 op, .int .i64 rd, .int .i64 q0, .int .i64 q1, .int .i64 q2, .int .i64 q3, .int .i64 s1, .int .i64 s2, .int .i64 h1, .int .i64 h2, .slice (some ⟨gl, 0, Option.none⟩) zs.length (zs.length + 5), .int .i64 c0, .int .i64 c1, .int .i64 c2, .string nm, .int .i64 c3, .int .i64 c4, .int .i64 c5, .int .i64 c6, .int .i64 c7, .int .i64 up, .slice E' el.length ec', .slice L' ll.length lc', .slice D' dl.length dc', .bool more] (msgL 0 false 0 false 0 0 0 0 0 0 0 0 0 (.slice Option.none 0 0)) ?_ ?_ ?_ ?_ ?_ ?_ ?_; (rfl); (rfl); (exact hV0); (rfl); (rfl); (simp [Value.oneCell']))
  obtain ⟨w6, hW6⟩ : ∃ W, W = (w5.alloc (.cells (msgL 0 false 0 false 0 0 0 0 0 0 0 0 0 (.slice Option.none 0 0)).toArray 66)).setRow w5.heap.size ([.int .i64 mkd, .bool fc, .int .i64 fi, .bool tc, .int .i64 ti, .int .i64 op, .int .i64 rd, .int .i64 q0, .int .i64 q1, .int .i64 q2, .int .i64 q3, .int .i64 s1, .int .i64 s2, .int .i64 h1, .int .i64 h2, .slice (some ⟨gl, 0, Option.none⟩) zs.length (zs.length + 5), .int .i64 c0, .int .i64 c1, .int .i64 c2, .string nm, .int .i64 c3, .int .i64 c4, .int .i64 c5, .int .i64 c6, .int .i64 c7, .int .i64 up, .slice E' el.length ec', .slice L' ll.length lc', .slice D' dl.length dc', .bool more] : List Value).toArray := ⟨_, rfl⟩
  have hV6 := hV0.setRow [.int .i64 mkd, .bool fc, .int .i64 fi, .bool tc, .int .i64 ti, .int .i64 op, .int .i64 rd, .int .i64 q0, .int .i64 q1, .int .i64 q2, .int .i64 q3, .int .i64 s1, .int .i64 s2, .int .i64 h1, .int .i64 h2, .slice (some ⟨gl, 0, Option.none⟩) zs.length (zs.length + 5), .int .i64 c0, .int .i64 c1, .int .i64 c2, .string nm, .int .i64 c3, .int .i64 c4, .int .i64 c5, .int .i64 c6, .int .i64 c7, .int .i64 up, .slice E' el.length ec', .slice L' ll.length lc', .slice D' dl.length dc', .bool more]
  have kv : Keeps None w5 ((w5.alloc (.cells (msgL 0 false 0 false 0 0 0 0 0 0 0 0 0 (.slice Option.none 0 0)).toArray 66)).setRow w5.heap.size ([.int .i64 mkd, .bool fc, .int .i64 fi, .bool tc, .int .i64 ti, .int .i64 op, .int .i64 rd, .int .i64 q0, .int .i64 q1, .int .i64 q2, .int .i64 q3, .int .i64 s1, .int .i64 s2, .int .i64 h1, .int .i64 h2, .slice (some ⟨gl, 0, Option.none⟩) zs.length (zs.length + 5), .int .i64 c0, .int .i64 c1, .int .i64 c2, .string nm, .int .i64 c3, .int .i64 c4, .int .i64 c5, .int .i64 c6, .int .i64 c7, .int .i64 up, .slice E' el.length ec', .slice L' ll.length lc', .slice D' dl.length dc', .bool more] : List Value).toArray) := ((Keeps.refl None w5).alloc _).setRow _ _ (fun f => absurd f (Nat.lt_irrefl _))
  rw [← hW6] at hV6 kv
  simp only [msgL] at hW6
  rw [← hW6]
  obtain ⟨v, hvv⟩ : ∃ v, v = w5.heap.size := ⟨_, rfl⟩
  rw [← hvv] at hV6 ⊢
  have hv5 : w5.heap.size ≤ v := by omega
  clear hW6 hV0 hvv
  have hs4 := k4.size
  have hs5 := hk5.size
  have hLB : ∀ b, Len7 gl E' el.length ec' L' ll.length lc' D' dl.length dc' b → W4.heap.size ≤ b ∧ b < w5.heap.size := by
    intro b f
    rcases f with rfl | f | f | f
    · exact ⟨g0, hG.lt⟩
    · have := World.ownsRow.lt hO3 b f; omega
    · have := World.ownsRow.lt hO4 b f; omega
    · have := World.ownsRow.lt hO5 b f; omega
  have HLB := Lib.hid hLB
  have k46 := hk5.trans kv
  have hX6 := hX4.grew k46
  have hZ6 := hZ5.grew kv
  have hB6 := hB4.grew k46
  have hA6 := hA4.grew k46
  have hE6 := hE4.grew k46
  have hL6 := hL4.grew k46
  have hD6 := hD4.grew k46
  have hG6 := hG.grew kv
  have hO36 := owns_grew hO3 kv
  have hO46 := owns_grew hO4 kv
  have hO56 := owns_grew hO5 kv
  have k6 := k4.trans k46
  have hs6 := kv.size
  have hvg : ¬ (X v ∨ v = g) := by
    intro f
    rcases f with f | f
    · have := (hB4.p.X v f).2; omega
    · have := hB4.p.lt; omega
  have hxl4 := hX4.lt
  have hzl4 := hZ4.lt
  have x0 := hX6.cell 0 _ rfl
  have HB3 := Lib.hid hb3
  have HB4 := Lib.hid hb4
  have HZ4 := Lib.hid (fun b (f : Z b) => (show b < W4.heap.size from (hB4.r.Z b f).2))
  have HXG := Lib.hid (fun b (f : X b ∨ b = g) => (show b < W4.heap.size from f.elim (fun f => (hB4.p.X b f).2) (fun f => by rw [f]; exact hB4.p.lt)))
  clear hLB hX4 hZ4 hZ5 hB4 hA4 hE4 hL4 hD4 hG hO3 hO4 hO5 kv k46 hk5 hb3 hb4
  go_wp2_with (refine wpList_load_msg rfl (.tmp 9) rfl v ?_ [.int .i64 mkd, .bool fc, .int .i64 fi, .bool tc, .int .i64 ti, .int .i64 op, .int .i64 rd, .int .i64 q0, .int .i64 q1, .int .i64 q2, .int .i64 q3, .int .i64 s1, .int .i64 s2, .int .i64 h1, .int .i64 h2, .slice (some ⟨gl, 0, Option.none⟩) zs.length (zs.length + 5), .int .i64 c0, .int .i64 c1, .int .i64 c2, .string nm, .int .i64 c3, .int .i64 c4, .int .i64 c5, .int .i64 c6, .int .i64 c7, .int .i64 up, .slice E' el.length ec', .slice L' ll.length lc', .slice D' dl.length dc', .bool more] ?_ ?_ ?_; (rfl); (exact hV6); (rfl))
  refine (take_any g base X h round ph mkd fc fi tc ti op rd q0 q1 q2 q3 s1 s2 h1 h2 (some ⟨gl, 0, Option.none⟩) (zs.length + 5) zs c0 c1 c2 nm c3 c4 c5 c6 c7 up E' el.length ec' L' ll.length lc' D' dl.length dc' more w6 hB6.p (lentCells_nums hG6) hz hfi).mono ?_
  intro e w7 hs
  obtain ⟨X1, B1, u, rfl, hH, hX1, kb7, kf7⟩ := hB6.first hs
  have hX7 := hX6.keeps kf7 hxg
  have hZ7 := hZ6.keeps kf7 hzg
  have hV7 := hV6.keeps kf7 hvg
  have hA7 := hA6.off kb7 (fun b o e h0 f => by have := lA b o e h0; omega)
  have hE7 := hE6.off kb7 (fun b o e h0 f => by have := lE b o e h0; omega)
  have hL7 := hL6.off kb7 (fun b o e h0 f => by have := lL b o e h0; omega)
  have hD7 := hD6.off kb7 (fun b o e h0 f => by have := lD b o e h0; omega)
  have hG7 := hG6.keeps kf7 (fun f => by have := HXG.out gl f; omega)
  have hO37 := owns_keeps hO36 kf7 (fun b e f => by have := HXG.out b f; have := (HLB.out b (.inr (.inl e))).1; omega)
  have hO47 := owns_keeps hO46 kf7 (fun b e f => by have := HXG.out b f; have := (HLB.out b (.inr (.inr (.inl e)))).1; omega)
  have hO57 := owns_keeps hO56 kf7 (fun b e f => by have := HXG.out b f; have := (HLB.out b (.inr (.inr (.inr e)))).1; omega)
  have HX1 := Lib.hid hX1
  have KF7 := Lib.hid kf7
  have hlo7 := hH.hlo
  have hs7 := kf7.size
  clear hs hX1 hX6 hZ6 hV6 hA6 hE6 hL6 hD6 hG6 hO36 hO46 hO56 x0 kf7
  have hlA : ∀ b o, A = some ⟨b, o, Option.none⟩ → 0 < zs.length → b < W4.heap.size := fun b o e h0 => by have := lA b o e h0; omega
  have HLA := Lib.hid hlA
  have LA := Lib.hid lA
  have LE := Lib.hid lE
  have LL := Lib.hid lL
  have LD := Lib.hid lD
  clear hlA lA lE lL lD hB
  have rz7 := hZ7.range 0 [.int .i64 mkd, .bool fc, .int .i64 fi, .bool tc, .int .i64 ti, .int .i64 op, .int .i64 rd, .int .i64 q0, .int .i64 q1, .int .i64 q2, .int .i64 q3, .int .i64 s1, .int .i64 s2, .int .i64 h1, .int .i64 h2, .slice A zs.length cap, .int .i64 c0, .int .i64 c1, .int .i64 c2, .string nm, .int .i64 c3, .int .i64 c4, .int .i64 c5, .int .i64 c6, .int .i64 c7, .int .i64 up, .slice E el.length ec, .slice L ll.length lc, .slice D dl.length dc, .bool more] rfl
  have rv7 := hV7.range 0 [.int .i64 mkd, .bool fc, .int .i64 fi, .bool tc, .int .i64 ti, .int .i64 op, .int .i64 rd, .int .i64 q0, .int .i64 q1, .int .i64 q2, .int .i64 q3, .int .i64 s1, .int .i64 s2, .int .i64 h1, .int .i64 h2, .slice (some ⟨gl, 0, Option.none⟩) zs.length (zs.length + 5), .int .i64 c0, .int .i64 c1, .int .i64 c2, .string nm, .int .i64 c3, .int .i64 c4, .int .i64 c5, .int .i64 c6, .int .i64 c7, .int .i64 up, .slice E' el.length ec', .slice L' ll.length lc', .slice D' dl.length dc', .bool more] rfl
  go_wp2_with (first | (refine wpList_load_mid_w ?_ 66 (.tmp 9) rfl v 0 ?_ [.int .i64 mkd, .bool fc, .int .i64 fi, .bool tc, .int .i64 ti, .int .i64 op, .int .i64 rd, .int .i64 q0, .int .i64 q1, .int .i64 q2, .int .i64 q3, .int .i64 s1, .int .i64 s2, .int .i64 h1, .int .i64 h2, .slice (some ⟨gl, 0, Option.none⟩) zs.length (zs.length + 5), .int .i64 c0, .int .i64 c1, .int .i64 c2, .string nm, .int .i64 c3, .int .i64 c4, .int .i64 c5, .int .i64 c6, .int .i64 c7, .int .i64 up, .slice E' el.length ec', .slice L' ll.length lc', .slice D' dl.length dc', .bool more] _ rv7 Try.underlying66 rfl (by kernel_rfl) ?_; (rfl); (rfl)) | (refine wpList_load_mid_w ?_ 66 (.tmp 8) rfl z 0 ?_ [.int .i64 mkd, .bool fc, .int .i64 fi, .bool tc, .int .i64 ti, .int .i64 op, .int .i64 rd, .int .i64 q0, .int .i64 q1, .int .i64 q2, .int .i64 q3, .int .i64 s1, .int .i64 s2, .int .i64 h1, .int .i64 h2, .slice A zs.length cap, .int .i64 c0, .int .i64 c1, .int .i64 c2, .string nm, .int .i64 c3, .int .i64 c4, .int .i64 c5, .int .i64 c6, .int .i64 c7, .int .i64 up, .slice E el.length ec, .slice L ll.length lc, .slice D dl.length dc, .bool more] _ rz7 Try.underlying66 rfl (by kernel_rfl) ?_; (rfl); (rfl)))
  refine (backmsg_any mkd fc fi tc ti op rd q0 q1 q2 q3 s1 s2 h1 h2 A cap zs c0 c1 c2 nm c3 c4 c5 c6 c7 up E ec el L lc ll D dc dl more gl E' ec' L' lc' D' dc' W4.heap.size n1 n2 n3 w7 hA7 hz hE7 he hL7 hl hD7 hd HLA.out g0 g1 g2 g3 hG7 hO37 HB3.out hO47 HB4.out hO57).mono ?_
  rintro e w8 ⟨rfl, hk8⟩
  have hH8 := hH.keeps hk8 (fun b f e => by
      have h1 := HLB.out b e
      rcases f with f | rfl
      · rcases HX1.out b f with f | f
        · have := HXG.out b (.inl f); omega
        · omega
      · have := HXG.out b (.inr rfl); omega) (fun b f e => by have := HLB.out b e; have := HZ4.out b f; omega) (fun b e => by have := HLB.out b e; omega) (fun b h1 _ e => by have := HLB.out b e; omega)
  have hX8 := hX7.keeps hk8 (fun e => by have := HLB.out x e; omega)
  have hZ8 := hZ7.keeps hk8 (fun e => by have := HLB.out z e; omega)
  have hA8 := hA7.off hk8 (fun b o e h0 f => by have := LA.out b o e h0; have := HLB.out b f; omega)
  have KF8 := Lib.hid hk8
  have hs8 := hk8.size
  have x1 := hX8.cell 1 _ rfl
  have rz8 := hZ8.range 0 [.int .i64 mkd, .bool fc, .int .i64 fi, .bool tc, .int .i64 ti, .int .i64 op, .int .i64 rd, .int .i64 q0, .int .i64 q1, .int .i64 q2, .int .i64 q3, .int .i64 s1, .int .i64 s2, .int .i64 h1, .int .i64 h2, .slice A zs.length cap, .int .i64 c0, .int .i64 c1, .int .i64 c2, .string nm, .int .i64 c3, .int .i64 c4, .int .i64 c5, .int .i64 c6, .int .i64 c7, .int .i64 up, .slice E el.length ec, .slice L ll.length lc, .slice D dl.length dc, .bool more] rfl
  clear rz7 rv7 hX7 hZ7 hV7 hA7 hE7 hL7 hD7 hG7 hO37 hO47 hO57 hH hk8
  go_wp2_with (refine wpList_load_mid_w ?_ 66 (.tmp 8) rfl z 0 ?_ [.int .i64 mkd, .bool fc, .int .i64 fi, .bool tc, .int .i64 ti, .int .i64 op, .int .i64 rd, .int .i64 q0, .int .i64 q1, .int .i64 q2, .int .i64 q3, .int .i64 s1, .int .i64 s2, .int .i64 h1, .int .i64 h2, .slice A zs.length cap, .int .i64 c0, .int .i64 c1, .int .i64 c2, .string nm, .int .i64 c3, .int .i64 c4, .int .i64 c5, .int .i64 c6, .int .i64 c7, .int .i64 up, .slice E el.length ec, .slice L ll.length lc, .slice D dl.length dc, .bool more] _ rz8 Try.underlying66 rfl (by kernel_rfl) ?_; (rfl); (rfl))
  refine (reftake7_any base r Z W h round ph mkd fc fi tc ti op rd q0 q1 q2 q3 s1 s2 h1 h2 A cap zs c0 c1 c2 nm c3 c4 c5 c6 c7 up E el.length ec L ll.length lc D dl.length dc more w8 hH8.r hA8 hz LA.out).mono ?_
  intro e w9 hs
  obtain ⟨Z1, V1, u', rfl, hB9, hS, hS', hZn, kf9⟩ := hH8.second hs
  have hX9 := hX8.keeps kf9 hxW
  have HZn := Lib.hid hZn
  have HW9 := Lib.hid hH8.r.W
  clear hs x1 rz8 hX8 hZ8 hA8 hH8 hZn
  go_wp2_with fail
  refine (samemsgs_any h _ u u' w9 hS hS' (Nat.le_trans (lnO_take _ _ _ _ _ _ _ _) (by omega))).mono ?_
  rintro e wA ⟨rfl, hkA⟩
  have hXA := hX9.grew hkA
  have hBA := hB9.grew hkA
  have x0 := hXA.cell 0 _ rfl
  have x1 := hXA.cell 1 _ rfl
  clear hX9 hS hS' hB9
  go_wp2_with fail
  refine (look_any base X1 g Z1 V1 r h _ _ wA hBA).mono ?_
  rintro e wB ⟨rfl, hkB⟩
  go_wp2_with fail
  go_ret
  exact ⟨rfl, X1, Z1, V1, _, _, hBA.grew hkB, fun b f => (HX1.out b f).imp_right (fun f => Nat.le_trans k6.size f), fun b f => (HZn.out b f).imp_right (fun f => by have := k6.size; omega), (((k6.of_none.andThen KF7.out (fun i _ f => f.elim .inl (fun f => .inr (.inl f)))).andThen KF8.out (fun i hi f => by have := (HLB.out i f).1; omega)).andThen kf9 (fun i _ f => .inr (.inr (HW9.out i f)))).trans (hkA.of_none.trans hkB.of_none)⟩

set_option maxRecDepth 100000 in
set_option maxHeartbeats 6400000 in
theorem step_near (base : Nat) (X : Nat → Prop) (g : Nat) (Z W : Nat → Prop) (r : Nat) (h : Hd) (round : Int) (ph : Ph) (sp : Sp) (w : World) (hB : Bo w base X g Z W r h round ph) (hR : sp.Raw w) (hlow : sp.Low base) (hk : sp.kind = 4) :
    Calls Try.prog 23 #[bothV g r, .agg sp.cells.toArray] w (Step7 base X g Z r h w) := by
  obtain ⟨kind, mkd, fc, fi, tc, ti, op, rd, q0, q1, q2, q3, s1, s2, h1, h2, A, n, cap, zs, c0, c1, c2, nm, c3, c4, c5, c6, c7, up, E, en, ec, el, L, ln, lc, ll, D, dn, dc, dl, more⟩ := sp
  have hA : Nums .u8 w A zs := hR.nums
  obtain rfl : zs.length = n := hR.len
  have hz : zs.length ≤ 140737488351232 := hR.most
  have hfi : (Lit.int .i64 fi).wf = true := hR.fi
  have hE : Ents w E el := hR.ents
  obtain rfl : el.length = en := hR.elen
  have hEn : E = Option.none → ec = 0 := hR.enil
  have he : el.length * 40 ≤ 140737488351232 := hR.emost
  have hL : Lass w L ll := hR.lass
  obtain rfl : ll.length = ln := hR.llen
  have hLn : L = Option.none → lc = 0 := hR.lnil
  have hl : ll.length * 56 ≤ 140737488351232 := hR.lmost
  have hD : Coms w D dl := hR.coms
  obtain rfl : dl.length = dn := hR.dlen
  have hDn : D = Option.none → dc = 0 := hR.dnil
  have hd : dl.length * 80 ≤ 140737488351232 := hR.dmost
  have lA : ∀ b o, A = some ⟨b, o, Option.none⟩ → 0 < zs.length → b < base := hlow.a
  have lE : ∀ b o, E = some ⟨b, o, Option.none⟩ → 0 < el.length → b < base := hlow.e
  have lL : ∀ b o, L = some ⟨b, o, Option.none⟩ → 0 < ll.length → b < base := hlow.l
  have lD : ∀ b o, D = some ⟨b, o, Option.none⟩ → 0 < dl.length → b < base := hlow.d
  obtain rfl : kind = 4 := hk
  clear hR hlow
  simp only [Sp.cells, bothV]
  obtain ⟨x, hx⟩ : ∃ x, x = w.heap.size := ⟨_, rfl⟩
  obtain ⟨y, hy⟩ : ∃ y, y = w.heap.size + 1 := ⟨_, rfl⟩
  obtain ⟨Wa, hWa⟩ : ∃ W, W = w.alloc (.cells #[.iface 104 (.pointer (some ⟨g, 0, Option.none⟩)), .pointer (some ⟨r, 0, Option.none⟩)] 75) := ⟨_, rfl⟩
  obtain ⟨W1, hW1⟩ : ∃ W, W = Wa.alloc (.cells #[.int .i64 4, .int .i64 mkd, .bool fc, .int .i64 fi, .bool tc, .int .i64 ti, .int .i64 op, .int .i64 rd, .int .i64 q0, .int .i64 q1, .int .i64 q2, .int .i64 q3, .int .i64 s1, .int .i64 s2, .int .i64 h1, .int .i64 h2, .slice A zs.length cap, .int .i64 c0, .int .i64 c1, .int .i64 c2, .string nm, .int .i64 c3, .int .i64 c4, .int .i64 c5, .int .i64 c6, .int .i64 c7, .int .i64 up, .slice E el.length ec, .slice L ll.length lc, .slice D dl.length dc, .bool more] 80) := ⟨_, rfl⟩
  have ka : Keeps None w Wa := by rw [hWa]; exact (Keeps.refl _ _).alloc _
  have kb : Keeps None Wa W1 := by rw [hW1]; exact (Keeps.refl _ _).alloc _
  have hsa : Wa.heap.size = y := by rw [hWa, hy, World.size_alloc]
  have hX : Blk W1 x 75 [.iface 104 (.pointer (some ⟨g, 0, Option.none⟩)), .pointer (some ⟨r, 0, Option.none⟩)] := by
    have : Blk Wa x 75 [.iface 104 (.pointer (some ⟨g, 0, Option.none⟩)), .pointer (some ⟨r, 0, Option.none⟩)] := by rw [hWa, hx]; exact Blk.new _ _ _
    exact this.grew kb
  have hY : Blk W1 y 80 [.int .i64 4, .int .i64 mkd, .bool fc, .int .i64 fi, .bool tc, .int .i64 ti, .int .i64 op, .int .i64 rd, .int .i64 q0, .int .i64 q1, .int .i64 q2, .int .i64 q3, .int .i64 s1, .int .i64 s2, .int .i64 h1, .int .i64 h2, .slice A zs.length cap, .int .i64 c0, .int .i64 c1, .int .i64 c2, .string nm, .int .i64 c3, .int .i64 c4, .int .i64 c5, .int .i64 c6, .int .i64 c7, .int .i64 up, .slice E el.length ec, .slice L ll.length lc, .slice D dl.length dc, .bool more] := by rw [hW1, ← hsa]; exact Blk.new _ _ _
  have k1 := ka.trans kb
  have hbl := hB.base_le
  have hB1 := hB.grew k1
  have hxge : base ≤ x := by omega
  have hxW : ¬ W x := fun f => by have := (hB.r.Z x (hB.r.W x f)).2; omega
  have hxg : ¬ (X x ∨ x = g) := by
    intro f
    rcases f with f | f
    · have := (hB.p.X x f).2; omega
    · have := hB.p.lt; omega
  have hgr := hB.p.ok.grp
  have hgw := hB.p.ok.wf
  have hA1 := hA.grew k1
  have hE1 := hE.grew k1
  have hL1 := hL.grew k1
  have hD1 := hD.grew k1
  have x0 := hX.cell 0 _ rfl
  have x1 := hX.cell 1 _ rfl
  have y0 := hY.cell 0 _ rfl
  have y30 := hY.range 1 [.int .i64 mkd, .bool fc, .int .i64 fi, .bool tc, .int .i64 ti, .int .i64 op, .int .i64 rd, .int .i64 q0, .int .i64 q1, .int .i64 q2, .int .i64 q3, .int .i64 s1, .int .i64 s2, .int .i64 h1, .int .i64 h2, .slice A zs.length cap, .int .i64 c0, .int .i64 c1, .int .i64 c2, .string nm, .int .i64 c3, .int .i64 c4, .int .i64 c5, .int .i64 c6, .int .i64 c7, .int .i64 up, .slice E el.length ec, .slice L ll.length lc, .slice D dl.length dc, .bool more] rfl
  have hZ0 := Blk.new W1 66 (msgL 0 false 0 false 0 0 0 0 0 0 0 0 0 (.slice Option.none 0 0))
  go_enter Try.func23, Try.ntmps23
  go_upto_region 1 with (fail)
  rw [← hWa, ← hW1, ← hy, ← hx]
  clear hWa hW1 hx hy hsa ka kb
  go_upto_region 12 with (first | (refine wpList_load_mid_w (by rfl) 66 (.tmp 36) rfl y 1 rfl [.int .i64 mkd, .bool fc, .int .i64 fi, .bool tc, .int .i64 ti, .int .i64 op, .int .i64 rd, .int .i64 q0, .int .i64 q1, .int .i64 q2, .int .i64 q3, .int .i64 s1, .int .i64 s2, .int .i64 h1, .int .i64 h2, .slice A zs.length cap, .int .i64 c0, .int .i64 c1, .int .i64 c2, .string nm, .int .i64 c3, .int .i64 c4, .int .i64 c5, .int .i64 c6, .int .i64 c7, .int .i64 up, .slice E el.length ec, .slice L ll.length lc, .slice D dl.length dc, .bool more] _ y30 Try.underlying66 rfl (by kernel_rfl) ?_) | (refine wpList_store_msg rfl (.tmp 8) (.tmp 37) rfl W1.heap.size [.int .i64 mkd, .bool fc, .int .i64 fi, .bool tc, .int .i64 ti, .int .i64 op, .int .i64 rd, .int .i64 q0, .int .i64 q1, .int .i64 q2, .int .i64 q3, .int .i64 s1, .int .i64 s2, .int .i64 h1, .int .i64 h2, .slice A zs.length cap, .int .i64 c0, .int .i64 c1, .int .i64 c2, .string nm, .int .i64 c3, .int .i64 c4, .int .i64 c5, .int .i64 c6, .int .i64 c7, .int .i64 up, .slice E el.length ec, .slice L ll.length lc, .slice D dl.length dc, .bool more] (msgL 0 false 0 false 0 0 0 0 0 0 0 0 0 (.slice Option.none 0 0)) ?_ ?_ ?_ ?_ ?_ ?_ ?_; (rfl); (rfl); (exact hZ0); (rfl); (rfl); (simp [Value.oneCell'])))
  obtain ⟨W2, hW2⟩ : ∃ W, W = (W1.alloc (.cells (msgL 0 false 0 false 0 0 0 0 0 0 0 0 0 (.slice Option.none 0 0)).toArray 66)).setRow W1.heap.size ([.int .i64 mkd, .bool fc, .int .i64 fi, .bool tc, .int .i64 ti, .int .i64 op, .int .i64 rd, .int .i64 q0, .int .i64 q1, .int .i64 q2, .int .i64 q3, .int .i64 s1, .int .i64 s2, .int .i64 h1, .int .i64 h2, .slice A zs.length cap, .int .i64 c0, .int .i64 c1, .int .i64 c2, .string nm, .int .i64 c3, .int .i64 c4, .int .i64 c5, .int .i64 c6, .int .i64 c7, .int .i64 up, .slice E el.length ec, .slice L ll.length lc, .slice D dl.length dc, .bool more] : List Value).toArray := ⟨_, rfl⟩
  have hZ2 := hZ0.setRow [.int .i64 mkd, .bool fc, .int .i64 fi, .bool tc, .int .i64 ti, .int .i64 op, .int .i64 rd, .int .i64 q0, .int .i64 q1, .int .i64 q2, .int .i64 q3, .int .i64 s1, .int .i64 s2, .int .i64 h1, .int .i64 h2, .slice A zs.length cap, .int .i64 c0, .int .i64 c1, .int .i64 c2, .string nm, .int .i64 c3, .int .i64 c4, .int .i64 c5, .int .i64 c6, .int .i64 c7, .int .i64 up, .slice E el.length ec, .slice L ll.length lc, .slice D dl.length dc, .bool more]
  have kz : Keeps None W1 ((W1.alloc (.cells (msgL 0 false 0 false 0 0 0 0 0 0 0 0 0 (.slice Option.none 0 0)).toArray 66)).setRow W1.heap.size ([.int .i64 mkd, .bool fc, .int .i64 fi, .bool tc, .int .i64 ti, .int .i64 op, .int .i64 rd, .int .i64 q0, .int .i64 q1, .int .i64 q2, .int .i64 q3, .int .i64 s1, .int .i64 s2, .int .i64 h1, .int .i64 h2, .slice A zs.length cap, .int .i64 c0, .int .i64 c1, .int .i64 c2, .string nm, .int .i64 c3, .int .i64 c4, .int .i64 c5, .int .i64 c6, .int .i64 c7, .int .i64 up, .slice E el.length ec, .slice L ll.length lc, .slice D dl.length dc, .bool more] : List Value).toArray) := ((Keeps.refl None W1).alloc _).setRow _ _ (fun f => absurd f (Nat.lt_irrefl _))
  rw [← hW2] at hZ2 kz
  simp only [msgL] at hW2
  rw [← hW2]
  obtain ⟨z, hzz⟩ : ∃ z, z = W1.heap.size := ⟨_, rfl⟩
  rw [← hzz] at hZ2 ⊢
  clear hW2 hZ0 y30
  have hX2 := hX.grew kz
  have hY2 := hY.grew kz
  have hB2 := hB1.grew kz
  have hA2 := hA1.grew kz
  have hE2 := hE1.grew kz
  have hL2 := hL1.grew kz
  have hD2 := hD1.grew kz
  have k2 := k1.trans kz
  have hzw : w.heap.size ≤ z := by have := k1.size; omega
  have hzge : base ≤ z := by omega
  have hzW : ¬ W z := fun f => by have := (hB.r.Z z (hB.r.W z f)).2; have := k1.size; omega
  have hzg : ¬ (X z ∨ z = g) := by
    intro f
    have := k1.size
    rcases f with f | f
    · have := (hB.p.X z f).2; omega
    · have := hB.p.lt; omega
  have hxz : x ≠ z := by have := hX.lt; omega
  clear hX hY hB1 hA1 hE1 hL1 hD1 kz x0 x1 y0 hzz
  have x0 := hX2.cell 0 _ rfl
  have x1 := hX2.cell 1 _ rfl
  have y0 := hY2.cell 0 _ rfl
  obtain ⟨fi', hfi'⟩ : ∃ f, f = nearF h.grp fi := ⟨_, rfl⟩
  have wfi : (Lit.int .i64 fi').wf = true := by rw [hfi']; exact nearF_wf hgw hfi
  have HFI := Lib.hid hfi'
  clear hfi'
  go_upto_region 13 with (fail)
  go_wp2_with (refine wpList_load_msg rfl (.tmp 8) rfl z ?_ [.int .i64 mkd, .bool fc, .int .i64 fi, .bool tc, .int .i64 ti, .int .i64 op, .int .i64 rd, .int .i64 q0, .int .i64 q1, .int .i64 q2, .int .i64 q3, .int .i64 s1, .int .i64 s2, .int .i64 h1, .int .i64 h2, .slice A zs.length cap, .int .i64 c0, .int .i64 c1, .int .i64 c2, .string nm, .int .i64 c3, .int .i64 c4, .int .i64 c5, .int .i64 c6, .int .i64 c7, .int .i64 up, .slice E el.length ec, .slice L ll.length lc, .slice D dl.length dc, .bool more] ?_ ?_ ?_; (rfl); (exact hZ2); (rfl))
  refine (near_any base Z W g r h round ph mkd fc fi tc ti op rd q0 q1 q2 q3 s1 s2 h1 h2 A zs.length cap c0 c1 c2 nm c3 c4 c5 c6 c7 up E el.length ec L ll.length lc D dl.length dc more W2 hB2.r).mono ?_
  rintro e w3 ⟨rfl, hk3⟩
  rw [← HFI.out]
  have hZ3 := hZ2.grew hk3
  go_upto_region 14 with (refine wpList_store_msg rfl (.tmp 8) (.tmp 43) rfl z [.int .i64 mkd, .bool fc, .int .i64 fi', .bool true, .int .i64 h.client, .int .i64 h.op, .int .i64 round, .int .i64 h.k0, .int .i64 h.k1, .int .i64 h.k2, .int .i64 h.k3, .int .i64 s1, .int .i64 s2, .int .i64 h1, .int .i64 h2, .slice A zs.length cap, .int .i64 c0, .int .i64 c1, .int .i64 c2, .string nm, .int .i64 c3, .int .i64 c4, .int .i64 c5, .int .i64 c6, .int .i64 c7, .int .i64 up, .slice E el.length ec, .slice L ll.length lc, .slice D dl.length dc, .bool more] [.int .i64 mkd, .bool fc, .int .i64 fi, .bool tc, .int .i64 ti, .int .i64 op, .int .i64 rd, .int .i64 q0, .int .i64 q1, .int .i64 q2, .int .i64 q3, .int .i64 s1, .int .i64 s2, .int .i64 h1, .int .i64 h2, .slice A zs.length cap, .int .i64 c0, .int .i64 c1, .int .i64 c2, .string nm, .int .i64 c3, .int .i64 c4, .int .i64 c5, .int .i64 c6, .int .i64 c7, .int .i64 up, .slice E el.length ec, .slice L ll.length lc, .slice D dl.length dc, .bool more] ?_ ?_ ?_ ?_ ?_ ?_ ?_; (rfl); (rfl); (exact hZ3); (rfl); (rfl); (simp [Value.oneCell']))
  obtain ⟨W4, hW4⟩ : ∃ W, W = w3.setRow z ([.int .i64 mkd, .bool fc, .int .i64 fi', .bool true, .int .i64 h.client, .int .i64 h.op, .int .i64 round, .int .i64 h.k0, .int .i64 h.k1, .int .i64 h.k2, .int .i64 h.k3, .int .i64 s1, .int .i64 s2, .int .i64 h1, .int .i64 h2, .slice A zs.length cap, .int .i64 c0, .int .i64 c1, .int .i64 c2, .string nm, .int .i64 c3, .int .i64 c4, .int .i64 c5, .int .i64 c6, .int .i64 c7, .int .i64 up, .slice E el.length ec, .slice L ll.length lc, .slice D dl.length dc, .bool more] : List Value).toArray := ⟨_, rfl⟩
  have hZ4 := hZ3.setRow [.int .i64 mkd, .bool fc, .int .i64 fi', .bool true, .int .i64 h.client, .int .i64 h.op, .int .i64 round, .int .i64 h.k0, .int .i64 h.k1, .int .i64 h.k2, .int .i64 h.k3, .int .i64 s1, .int .i64 s2, .int .i64 h1, .int .i64 h2, .slice A zs.length cap, .int .i64 c0, .int .i64 c1, .int .i64 c2, .string nm, .int .i64 c3, .int .i64 c4, .int .i64 c5, .int .i64 c6, .int .i64 c7, .int .i64 up, .slice E el.length ec, .slice L ll.length lc, .slice D dl.length dc, .bool more]
  have kz : Keeps (One z) w3 (w3.setRow z ([.int .i64 mkd, .bool fc, .int .i64 fi', .bool true, .int .i64 h.client, .int .i64 h.op, .int .i64 round, .int .i64 h.k0, .int .i64 h.k1, .int .i64 h.k2, .int .i64 h.k3, .int .i64 s1, .int .i64 s2, .int .i64 h1, .int .i64 h2, .slice A zs.length cap, .int .i64 c0, .int .i64 c1, .int .i64 c2, .string nm, .int .i64 c3, .int .i64 c4, .int .i64 c5, .int .i64 c6, .int .i64 c7, .int .i64 up, .slice E el.length ec, .slice L ll.length lc, .slice D dl.length dc, .bool more] : List Value).toArray) := (Keeps.refl _ _).setRow _ _ (fun _ => rfl)
  rw [← hW4] at hZ4 kz
  rw [← hW4]
  have kz4 := hk3.of_none.trans kz
  have hX4 := hX2.keeps kz4 hxz
  have hB4 := hB2.keeps kz4 (fun b f e => hzg (by cases e; exact f)) (fun b f e => by cases e; have := (hB.r.Z z f).2; have := k2.size; have := hZ2.lt; omega) (fun b e => by cases e; exact hzge)
  have hA4 := hA2.off kz4 (fun b o e h0 f => by have := lA b o e h0; simp only [One] at f; omega)
  have hE4 := hE2.off kz4 (fun b o e h0 f => by have := lE b o e h0; simp only [One] at f; omega)
  have hL4 := hL2.off kz4 (fun b o e h0 f => by have := lL b o e h0; simp only [One] at f; omega)
  have hD4 := hD2.off kz4 (fun b o e h0 f => by have := lD b o e h0; simp only [One] at f; omega)
  have k4 : Keeps None w W4 := k2.andThen kz4 (fun i hi e => by simp only [One] at e; subst e; exact absurd hi (by omega))
  clear hW4 kz kz4 hX2 hY2 hB2 hA2 hE2 hL2 hD2 hZ2 hZ3 x0 x1 y0 hk3

  go_wp2_with (refine wpList_load_msg rfl (.tmp 8) rfl z ?_ [.int .i64 mkd, .bool fc, .int .i64 fi', .bool true, .int .i64 h.client, .int .i64 h.op, .int .i64 round, .int .i64 h.k0, .int .i64 h.k1, .int .i64 h.k2, .int .i64 h.k3, .int .i64 s1, .int .i64 s2, .int .i64 h1, .int .i64 h2, .slice A zs.length cap, .int .i64 c0, .int .i64 c1, .int .i64 c2, .string nm, .int .i64 c3, .int .i64 c4, .int .i64 c5, .int .i64 c6, .int .i64 c7, .int .i64 up, .slice E el.length ec, .slice L ll.length lc, .slice D dl.length dc, .bool more] ?_ ?_ ?_; (rfl); (exact hZ4); (rfl))
  refine (lendmsg_any mkd fc fi' true h.client h.op round h.k0 h.k1 h.k2 h.k3 s1 s2 h1 h2 A cap zs c0 c1 c2 nm c3 c4 c5 c6 c7 up E ec el L lc ll D dc dl more W4 hA4 hz hE4 hEn he hL4 hLn hl hD4 hDn hd).mono ?_
  rintro e w5 ⟨gl, E', ec', L', lc', D', dc', n1, n2, n3, rfl, g0, g1, g2, g3, hG, hO3, hb3, hO4, hb4, hO5, hk5⟩
  have hZ5 := hZ4.grew hk5
  have hV0 := Blk.new w5 66 (msgL 0 false 0 false 0 0 0 0 0 0 0 0 0 (.slice Option.none 0 0))
  go_upto_region 15 with (refine wpList_store_msg rfl (.tmp 9) (.tmp 45) rfl w5.heap.size [.int .i64 mkd, .bool fc, .int .i64 fi', .bool true, .int .i64 h.client, .int .i64 h.op, .int .i64 round, .int .i64 h.k0, .int .i64 h.k1, .int .i64 h.k2, .int .i64 h.k3, .int .i64 s1, .int .i64 s2, .int .i64 h1, .int .i64 h2, .slice (some ⟨gl, 0, Option.none⟩) zs.length (zs.length + 5), .int .i64 c0, .int .i64 c1, .int .i64 c2, .string nm, .int .i64 c3, .int .i64 c4, .int .i64 c5, .int .i64 c6, .int .i64 c7, .int .i64 up, .slice E' el.length ec', .slice L' ll.length lc', .slice D' dl.length dc', .bool more] (msgL 0 false 0 false 0 0 0 0 0 0 0 0 0 (.slice Option.none 0 0)) ?_ ?_ ?_ ?_ ?_ ?_ ?_; (rfl); (rfl); (exact hV0); (rfl); (rfl); (simp [Value.oneCell']))
  obtain ⟨w6, hW6⟩ : ∃ W, W = (w5.alloc (.cells (msgL 0 false 0 false 0 0 0 0 0 0 0 0 0 (.slice Option.none 0 0)).toArray 66)).setRow w5.heap.size ([.int .i64 mkd, .bool fc, .int .i64 fi', .bool true, .int .i64 h.client, .int .i64 h.op, .int .i64 round, .int .i64 h.k0, .int .i64 h.k1, .int .i64 h.k2, .int .i64 h.k3, .int .i64 s1, .int .i64 s2, .int .i64 h1, .int .i64 h2, .slice (some ⟨gl, 0, Option.none⟩) zs.length (zs.length + 5), .int .i64 c0, .int .i64 c1, .int .i64 c2, .string nm, .int .i64 c3, .int .i64 c4, .int .i64 c5, .int .i64 c6, .int .i64 c7, .int .i64 up, .slice E' el.length ec', .slice L' ll.length lc', .slice D' dl.length dc', .bool more] : List Value).toArray := ⟨_, rfl⟩
  have hV6 := hV0.setRow [.int .i64 mkd, .bool fc, .int .i64 fi', .bool true, .int .i64 h.client, .int .i64 h.op, .int .i64 round, .int .i64 h.k0, .int .i64 h.k1, .int .i64 h.k2, .int .i64 h.k3, .int .i64 s1, .int .i64 s2, .int .i64 h1, .int .i64 h2, .slice (some ⟨gl, 0, Option.none⟩) zs.length (zs.length + 5), .int .i64 c0, .int .i64 c1, .int .i64 c2, .string nm, .int .i64 c3, .int .i64 c4, .int .i64 c5, .int .i64 c6, .int .i64 c7, .int .i64 up, .slice E' el.length ec', .slice L' ll.length lc', .slice D' dl.length dc', .bool more]
  have kv : Keeps None w5 ((w5.alloc (.cells (msgL 0 false 0 false 0 0 0 0 0 0 0 0 0 (.slice Option.none 0 0)).toArray 66)).setRow w5.heap.size ([.int .i64 mkd, .bool fc, .int .i64 fi', .bool true, .int .i64 h.client, .int .i64 h.op, .int .i64 round, .int .i64 h.k0, .int .i64 h.k1, .int .i64 h.k2, .int .i64 h.k3, .int .i64 s1, .int .i64 s2, .int .i64 h1, .int .i64 h2, .slice (some ⟨gl, 0, Option.none⟩) zs.length (zs.length + 5), .int .i64 c0, .int .i64 c1, .int .i64 c2, .string nm, .int .i64 c3, .int .i64 c4, .int .i64 c5, .int .i64 c6, .int .i64 c7, .int .i64 up, .slice E' el.length ec', .slice L' ll.length lc', .slice D' dl.length dc', .bool more] : List Value).toArray) := ((Keeps.refl None w5).alloc _).setRow _ _ (fun f => absurd f (Nat.lt_irrefl _))
  rw [← hW6] at hV6 kv
  simp only [msgL] at hW6
  rw [← hW6]
  obtain ⟨v, hvv⟩ : ∃ v, v = w5.heap.size := ⟨_, rfl⟩
  rw [← hvv] at hV6 ⊢
  have hv5 : w5.heap.size ≤ v := by omega
  clear hW6 hV0 hvv
  have hs4 := k4.size
  have hs5 := hk5.size
  have hLB : ∀ b, Len7 gl E' el.length ec' L' ll.length lc' D' dl.length dc' b → W4.heap.size ≤ b ∧ b < w5.heap.size := by
    intro b f
    rcases f with rfl | f | f | f
    · exact ⟨g0, hG.lt⟩
    · have := World.ownsRow.lt hO3 b f; omega
    · have := World.ownsRow.lt hO4 b f; omega
    · have := World.ownsRow.lt hO5 b f; omega
  have HLB := Lib.hid hLB
  have k46 := hk5.trans kv
  have hX6 := hX4.grew k46
  have hZ6 := hZ5.grew kv
  have hB6 := hB4.grew k46
  have hA6 := hA4.grew k46
  have hE6 := hE4.grew k46
  have hL6 := hL4.grew k46
  have hD6 := hD4.grew k46
  have hG6 := hG.grew kv
  have hO36 := owns_grew hO3 kv
  have hO46 := owns_grew hO4 kv
  have hO56 := owns_grew hO5 kv
  have k6 := k4.trans k46
  have hs6 := kv.size
  have hvg : ¬ (X v ∨ v = g) := by
    intro f
    rcases f with f | f
    · have := (hB4.p.X v f).2; omega
    · have := hB4.p.lt; omega
  have hxl4 := hX4.lt
  have hzl4 := hZ4.lt
  have x0 := hX6.cell 0 _ rfl
  have HB3 := Lib.hid hb3
  have HB4 := Lib.hid hb4
  have HZ4 := Lib.hid (fun b (f : Z b) => (show b < W4.heap.size from (hB4.r.Z b f).2))
  have HXG := Lib.hid (fun b (f : X b ∨ b = g) => (show b < W4.heap.size from f.elim (fun f => (hB4.p.X b f).2) (fun f => by rw [f]; exact hB4.p.lt)))
  clear hLB hX4 hZ4 hZ5 hB4 hA4 hE4 hL4 hD4 hG hO3 hO4 hO5 kv k46 hk5 hb3 hb4
  go_wp2_with (refine wpList_load_msg rfl (.tmp 9) rfl v ?_ [.int .i64 mkd, .bool fc, .int .i64 fi', .bool true, .int .i64 h.client, .int .i64 h.op, .int .i64 round, .int .i64 h.k0, .int .i64 h.k1, .int .i64 h.k2, .int .i64 h.k3, .int .i64 s1, .int .i64 s2, .int .i64 h1, .int .i64 h2, .slice (some ⟨gl, 0, Option.none⟩) zs.length (zs.length + 5), .int .i64 c0, .int .i64 c1, .int .i64 c2, .string nm, .int .i64 c3, .int .i64 c4, .int .i64 c5, .int .i64 c6, .int .i64 c7, .int .i64 up, .slice E' el.length ec', .slice L' ll.length lc', .slice D' dl.length dc', .bool more] ?_ ?_ ?_; (rfl); (exact hV6); (rfl))
  refine (take_any g base X h round ph mkd fc fi' true h.client h.op round h.k0 h.k1 h.k2 h.k3 s1 s2 h1 h2 (some ⟨gl, 0, Option.none⟩) (zs.length + 5) zs c0 c1 c2 nm c3 c4 c5 c6 c7 up E' el.length ec' L' ll.length lc' D' dl.length dc' more w6 hB6.p (lentCells_nums hG6) hz wfi).mono ?_
  intro e w7 hs
  obtain ⟨X1, B1, u, rfl, hH, hX1, kb7, kf7⟩ := hB6.first hs
  have hX7 := hX6.keeps kf7 hxg
  have hZ7 := hZ6.keeps kf7 hzg
  have hV7 := hV6.keeps kf7 hvg
  have hA7 := hA6.off kb7 (fun b o e h0 f => by have := lA b o e h0; omega)
  have hE7 := hE6.off kb7 (fun b o e h0 f => by have := lE b o e h0; omega)
  have hL7 := hL6.off kb7 (fun b o e h0 f => by have := lL b o e h0; omega)
  have hD7 := hD6.off kb7 (fun b o e h0 f => by have := lD b o e h0; omega)
  have hG7 := hG6.keeps kf7 (fun f => by have := HXG.out gl f; omega)
  have hO37 := owns_keeps hO36 kf7 (fun b e f => by have := HXG.out b f; have := (HLB.out b (.inr (.inl e))).1; omega)
  have hO47 := owns_keeps hO46 kf7 (fun b e f => by have := HXG.out b f; have := (HLB.out b (.inr (.inr (.inl e)))).1; omega)
  have hO57 := owns_keeps hO56 kf7 (fun b e f => by have := HXG.out b f; have := (HLB.out b (.inr (.inr (.inr e)))).1; omega)
  have HX1 := Lib.hid hX1
  have KF7 := Lib.hid kf7
  have hlo7 := hH.hlo
  have hs7 := kf7.size
  clear hs hX1 hX6 hZ6 hV6 hA6 hE6 hL6 hD6 hG6 hO36 hO46 hO56 x0 kf7
  have hlA : ∀ b o, A = some ⟨b, o, Option.none⟩ → 0 < zs.length → b < W4.heap.size := fun b o e h0 => by have := lA b o e h0; omega
  have HLA := Lib.hid hlA
  have LA := Lib.hid lA
  have LE := Lib.hid lE
  have LL := Lib.hid lL
  have LD := Lib.hid lD
  clear hlA lA lE lL lD hB
  have rz7 := hZ7.range 0 [.int .i64 mkd, .bool fc, .int .i64 fi', .bool true, .int .i64 h.client, .int .i64 h.op, .int .i64 round, .int .i64 h.k0, .int .i64 h.k1, .int .i64 h.k2, .int .i64 h.k3, .int .i64 s1, .int .i64 s2, .int .i64 h1, .int .i64 h2, .slice A zs.length cap, .int .i64 c0, .int .i64 c1, .int .i64 c2, .string nm, .int .i64 c3, .int .i64 c4, .int .i64 c5, .int .i64 c6, .int .i64 c7, .int .i64 up, .slice E el.length ec, .slice L ll.length lc, .slice D dl.length dc, .bool more] rfl
  have rv7 := hV7.range 0 [.int .i64 mkd, .bool fc, .int .i64 fi', .bool true, .int .i64 h.client, .int .i64 h.op, .int .i64 round, .int .i64 h.k0, .int .i64 h.k1, .int .i64 h.k2, .int .i64 h.k3, .int .i64 s1, .int .i64 s2, .int .i64 h1, .int .i64 h2, .slice (some ⟨gl, 0, Option.none⟩) zs.length (zs.length + 5), .int .i64 c0, .int .i64 c1, .int .i64 c2, .string nm, .int .i64 c3, .int .i64 c4, .int .i64 c5, .int .i64 c6, .int .i64 c7, .int .i64 up, .slice E' el.length ec', .slice L' ll.length lc', .slice D' dl.length dc', .bool more] rfl
  go_wp2_with (first | (refine wpList_load_mid_w ?_ 66 (.tmp 9) rfl v 0 ?_ [.int .i64 mkd, .bool fc, .int .i64 fi', .bool true, .int .i64 h.client, .int .i64 h.op, .int .i64 round, .int .i64 h.k0, .int .i64 h.k1, .int .i64 h.k2, .int .i64 h.k3, .int .i64 s1, .int .i64 s2, .int .i64 h1, .int .i64 h2, .slice (some ⟨gl, 0, Option.none⟩) zs.length (zs.length + 5), .int .i64 c0, .int .i64 c1, .int .i64 c2, .string nm, .int .i64 c3, .int .i64 c4, .int .i64 c5, .int .i64 c6, .int .i64 c7, .int .i64 up, .slice E' el.length ec', .slice L' ll.length lc', .slice D' dl.length dc', .bool more] _ rv7 Try.underlying66 rfl (by kernel_rfl) ?_; (rfl); (rfl)) | (refine wpList_load_mid_w ?_ 66 (.tmp 8) rfl z 0 ?_ [.int .i64 mkd, .bool fc, .int .i64 fi', .bool true, .int .i64 h.client, .int .i64 h.op, .int .i64 round, .int .i64 h.k0, .int .i64 h.k1, .int .i64 h.k2, .int .i64 h.k3, .int .i64 s1, .int .i64 s2, .int .i64 h1, .int .i64 h2, .slice A zs.length cap, .int .i64 c0, .int .i64 c1, .int .i64 c2, .string nm, .int .i64 c3, .int .i64 c4, .int .i64 c5, .int .i64 c6, .int .i64 c7, .int .i64 up, .slice E el.length ec, .slice L ll.length lc, .slice D dl.length dc, .bool more] _ rz7 Try.underlying66 rfl (by kernel_rfl) ?_; (rfl); (rfl)))
  refine (backmsg_any mkd fc fi' true h.client h.op round h.k0 h.k1 h.k2 h.k3 s1 s2 h1 h2 A cap zs c0 c1 c2 nm c3 c4 c5 c6 c7 up E ec el L lc ll D dc dl more gl E' ec' L' lc' D' dc' W4.heap.size n1 n2 n3 w7 hA7 hz hE7 he hL7 hl hD7 hd HLA.out g0 g1 g2 g3 hG7 hO37 HB3.out hO47 HB4.out hO57).mono ?_
  rintro e w8 ⟨rfl, hk8⟩
  have hH8 := hH.keeps hk8 (fun b f e => by
      have h1 := HLB.out b e
      rcases f with f | rfl
      · rcases HX1.out b f with f | f
        · have := HXG.out b (.inl f); omega
        · omega
      · have := HXG.out b (.inr rfl); omega) (fun b f e => by have := HLB.out b e; have := HZ4.out b f; omega) (fun b e => by have := HLB.out b e; omega) (fun b h1 _ e => by have := HLB.out b e; omega)
  have hX8 := hX7.keeps hk8 (fun e => by have := HLB.out x e; omega)
  have hZ8 := hZ7.keeps hk8 (fun e => by have := HLB.out z e; omega)
  have hA8 := hA7.off hk8 (fun b o e h0 f => by have := LA.out b o e h0; have := HLB.out b f; omega)
  have KF8 := Lib.hid hk8
  have hs8 := hk8.size
  have x1 := hX8.cell 1 _ rfl
  have rz8 := hZ8.range 0 [.int .i64 mkd, .bool fc, .int .i64 fi', .bool true, .int .i64 h.client, .int .i64 h.op, .int .i64 round, .int .i64 h.k0, .int .i64 h.k1, .int .i64 h.k2, .int .i64 h.k3, .int .i64 s1, .int .i64 s2, .int .i64 h1, .int .i64 h2, .slice A zs.length cap, .int .i64 c0, .int .i64 c1, .int .i64 c2, .string nm, .int .i64 c3, .int .i64 c4, .int .i64 c5, .int .i64 c6, .int .i64 c7, .int .i64 up, .slice E el.length ec, .slice L ll.length lc, .slice D dl.length dc, .bool more] rfl
  clear rz7 rv7 hX7 hZ7 hV7 hA7 hE7 hL7 hD7 hG7 hO37 hO47 hO57 hH hk8
  go_wp2_with (refine wpList_load_mid_w ?_ 66 (.tmp 8) rfl z 0 ?_ [.int .i64 mkd, .bool fc, .int .i64 fi', .bool true, .int .i64 h.client, .int .i64 h.op, .int .i64 round, .int .i64 h.k0, .int .i64 h.k1, .int .i64 h.k2, .int .i64 h.k3, .int .i64 s1, .int .i64 s2, .int .i64 h1, .int .i64 h2, .slice A zs.length cap, .int .i64 c0, .int .i64 c1, .int .i64 c2, .string nm, .int .i64 c3, .int .i64 c4, .int .i64 c5, .int .i64 c6, .int .i64 c7, .int .i64 up, .slice E el.length ec, .slice L ll.length lc, .slice D dl.length dc, .bool more] _ rz8 Try.underlying66 rfl (by kernel_rfl) ?_; (rfl); (rfl))
  refine (reftake7_any base r Z W h round ph mkd fc fi' true h.client h.op round h.k0 h.k1 h.k2 h.k3 s1 s2 h1 h2 A cap zs c0 c1 c2 nm c3 c4 c5 c6 c7 up E el.length ec L ll.length lc D dl.length dc more w8 hH8.r hA8 hz LA.out).mono ?_
  intro e w9 hs
  obtain ⟨Z1, V1, u', rfl, hB9, hS, hS', hZn, kf9⟩ := hH8.second hs
  have hX9 := hX8.keeps kf9 hxW
  have HZn := Lib.hid hZn
  have HW9 := Lib.hid hH8.r.W
  clear hs x1 rz8 hX8 hZ8 hA8 hH8 hZn
  go_wp2_with fail
  refine (samemsgs_any h _ u u' w9 hS hS' (Nat.le_trans (lnO_take _ _ _ _ _ _ _ _) (by omega))).mono ?_
  rintro e wA ⟨rfl, hkA⟩
  have hXA := hX9.grew hkA
  have hBA := hB9.grew hkA
  have x0 := hXA.cell 0 _ rfl
  have x1 := hXA.cell 1 _ rfl
  clear hX9 hS hS' hB9
  go_wp2_with fail
  refine (look_any base X1 g Z1 V1 r h _ _ wA hBA).mono ?_
  rintro e wB ⟨rfl, hkB⟩
  go_wp2_with fail
  go_ret
  exact ⟨rfl, X1, Z1, V1, _, _, hBA.grew hkB, fun b f => (HX1.out b f).imp_right (fun f => Nat.le_trans k6.size f), fun b f => (HZn.out b f).imp_right (fun f => by have := k6.size; omega), (((k6.of_none.andThen KF7.out (fun i _ f => f.elim .inl (fun f => .inr (.inl f)))).andThen KF8.out (fun i hi f => by have := (HLB.out i f).1; omega)).andThen kf9 (fun i _ f => .inr (.inr (HW9.out i f)))).trans (hkA.of_none.trans hkB.of_none)⟩

end Go.Proofs.Ytcihfjfbcfgidaa
