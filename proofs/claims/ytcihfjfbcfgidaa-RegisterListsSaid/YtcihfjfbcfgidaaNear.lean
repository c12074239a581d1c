/- near: the message so that it fits. -/
import Derived.Test.YtcihfjfbcfgidaaLook
namespace Go.Proofs.Ytcihfjfbcfgidaa
open Go.RowKit Go.Maps Go.Proofs.YtcihfjfbcfgidaaW.PrintLast
set_option linter.unusedVariables false

/-- The rest that is not below 0. -/
def restF (a n : Int) : Int := if a.tmod n < 0 then a.tmod n + n else a.tmod n
theorem restF_lt (a n : Int) (hn : 0 < n) : 0 ≤ restF a n ∧ restF a n < n := by
  unfold restF
  have h1 := Int.tmod_lt_of_pos a hn
  have h2 := Int.lt_tmod_of_pos a hn
  split <;> omega
def nearF (grp : List Int) (fi : Int) : Int := if grp = [] then fi else grp.getD (restF fi grp.length).toNat 0
theorem wpList_store_msg {ops : Array Oper} {rest : List Oper} {o : Oper} {a : Act} {w : World} {Q : Exit → Act → World → Prop} (hgd : o.guard = Option.none) (x y : Operand) (ho : o.op = .store 66 x y) (g : Nat) (cs cs0 : List Value) (hx : a.eval x = .pointer (some ⟨g, 0, Option.none⟩)) (hy : a.eval y = .agg cs.toArray) (hB : Blk w g 66 cs0) (hl0 : cs0.length = 30) (hl : cs.length = 30) (h1 : cs.toArray.all (·.oneCell') = true)
    (h : wpList Try.prog ops Q rest (a.put o.dst undef) (w.setRow g cs.toArray)) : wpList Try.prog ops Q (o :: rest) a w :=
  wpList_store_row hgd _ x y ho g cs.toArray hx hy _ _ hB.raw (sizeMsg (by simpa using hl)) (by simpa using hl0.trans hl.symm) h1 h

set_option maxRecDepth 100000 in
set_option maxHeartbeats 6400000 in
theorem near_any (base : Nat) (Z W : Nat → Prop) (g r : Nat) (h : Hd) (round : Int) (ph : Ph) (kind : Int) (fc : Bool) (fi : Int) (tc : Bool) (ti op rd q0 q1 q2 q3 s1 s2 h1 h2 : Int) (A : Option Addr) (zn cap : Nat) (c0 c1 c2 : Int) (nm : ByteArray) (c3 c4 c5 c6 c7 up : Int) (E : Option Addr) (en ec : Nat) (L : Option Addr) (ln lc : Nat) (D : Option Addr) (dn dc : Nat) (more : Bool) (w : World) (hR : RMach w base Z W r h round ph) :
    Calls Try.prog 27 #[bothV g r, .agg #[.int .i64 kind, .bool fc, .int .i64 fi, .bool tc, .int .i64 ti, .int .i64 op, .int .i64 rd, .int .i64 q0, .int .i64 q1, .int .i64 q2, .int .i64 q3, .int .i64 s1, .int .i64 s2, .int .i64 h1, .int .i64 h2, .slice A zn cap, .int .i64 c0, .int .i64 c1, .int .i64 c2, .string nm, .int .i64 c3, .int .i64 c4, .int .i64 c5, .int .i64 c6, .int .i64 c7, .int .i64 up, .slice E en ec, .slice L ln lc, .slice D dn dc, .bool more]] w fun e w' => e = .returned (.agg #[.int .i64 kind, .bool fc, .int .i64 (nearF h.grp fi), .bool true, .int .i64 h.client, .int .i64 h.op, .int .i64 round, .int .i64 h.k0, .int .i64 h.k1, .int .i64 h.k2, .int .i64 h.k3, .int .i64 s1, .int .i64 s2, .int .i64 h1, .int .i64 h2, .slice A zn cap, .int .i64 c0, .int .i64 c1, .int .i64 c2, .string nm, .int .i64 c3, .int .i64 c4, .int .i64 c5, .int .i64 c6, .int .i64 c7, .int .i64 up, .slice E en ec, .slice L ln lc, .slice D dn dc, .bool more]) ∧ Keeps None w w' := by
  obtain ⟨x, hx⟩ : ∃ x, x = w.heap.size := ⟨_, rfl⟩
  obtain ⟨y, hy⟩ : ∃ y, y = w.heap.size + 1 := ⟨_, rfl⟩
  obtain ⟨z, hz⟩ : ∃ z, z = w.heap.size + 2 := ⟨_, rfl⟩
  obtain ⟨Wa, hWa⟩ : ∃ W, W = w.alloc (.cells #[.iface 104 (.pointer (some ⟨g, 0, Option.none⟩)), .pointer (some ⟨r, 0, Option.none⟩)] 75) := ⟨_, rfl⟩
  obtain ⟨Wb, hWb⟩ : ∃ W, W = Wa.alloc (.cells #[.int .i64 kind, .bool fc, .int .i64 fi, .bool tc, .int .i64 ti, .int .i64 op, .int .i64 rd, .int .i64 q0, .int .i64 q1, .int .i64 q2, .int .i64 q3, .int .i64 s1, .int .i64 s2, .int .i64 h1, .int .i64 h2, .slice A zn cap, .int .i64 c0, .int .i64 c1, .int .i64 c2, .string nm, .int .i64 c3, .int .i64 c4, .int .i64 c5, .int .i64 c6, .int .i64 c7, .int .i64 up, .slice E en ec, .slice L ln lc, .slice D dn dc, .bool more] 66) := ⟨_, rfl⟩
  obtain ⟨W1, hW1⟩ : ∃ W, W = Wb.alloc (.cells (msgL 0 false 0 false 0 0 0 0 0 0 0 0 0 (.slice Option.none 0 0)).toArray 66) := ⟨_, rfl⟩
  have ka : Keeps None w Wa := by rw [hWa]; exact (Keeps.refl _ _).alloc _
  have kb : Keeps None Wa Wb := by rw [hWb]; exact (Keeps.refl _ _).alloc _
  have kc : Keeps None Wb W1 := by rw [hW1]; exact (Keeps.refl _ _).alloc _
  have hsa : Wa.heap.size = y := by rw [hWa, hy, World.size_alloc]
  have hsb : Wb.heap.size = z := by rw [hWb, World.size_alloc, hsa, hy, hz]
  have hX : Blk W1 x 75 [.iface 104 (.pointer (some ⟨g, 0, Option.none⟩)), .pointer (some ⟨r, 0, Option.none⟩)] := by
    have : Blk Wa x 75 [.iface 104 (.pointer (some ⟨g, 0, Option.none⟩)), .pointer (some ⟨r, 0, Option.none⟩)] := by rw [hWa, hx]; exact Blk.new _ _ _
    exact (this.grew kb).grew kc
  have hY : Blk W1 y 66 [.int .i64 kind, .bool fc, .int .i64 fi, .bool tc, .int .i64 ti, .int .i64 op, .int .i64 rd, .int .i64 q0, .int .i64 q1, .int .i64 q2, .int .i64 q3, .int .i64 s1, .int .i64 s2, .int .i64 h1, .int .i64 h2, .slice A zn cap, .int .i64 c0, .int .i64 c1, .int .i64 c2, .string nm, .int .i64 c3, .int .i64 c4, .int .i64 c5, .int .i64 c6, .int .i64 c7, .int .i64 up, .slice E en ec, .slice L ln lc, .slice D dn dc, .bool more] := by
    have : Blk Wb y 66 [.int .i64 kind, .bool fc, .int .i64 fi, .bool tc, .int .i64 ti, .int .i64 op, .int .i64 rd, .int .i64 q0, .int .i64 q1, .int .i64 q2, .int .i64 q3, .int .i64 s1, .int .i64 s2, .int .i64 h1, .int .i64 h2, .slice A zn cap, .int .i64 c0, .int .i64 c1, .int .i64 c2, .string nm, .int .i64 c3, .int .i64 c4, .int .i64 c5, .int .i64 c6, .int .i64 c7, .int .i64 up, .slice E en ec, .slice L ln lc, .slice D dn dc, .bool more] := by rw [hWb, ← hsa]; exact Blk.new _ _ _
    exact this.grew kc
  have hZ : Blk W1 z 66 (msgL 0 false 0 false 0 0 0 0 0 0 0 0 0 (.slice Option.none 0 0)) := by rw [hW1, ← hsb]; exact Blk.new _ _ _
  have k1 := (ka.trans kb).trans kc
  have hR1 := hR.grew k1
  obtain ⟨gv, rsz, bv, p, av, vv, u1, u2, uer, hBr, hG, -⟩ := hR1.out
  have hrl := (hR.Z _ (hR.W _ hR.r)).2
  have hgl := hR.ok.grp
  obtain ⟨Ag, cg, rfl⟩ := hG.slice
  have x1 := hX.cell 1 _ rfl
  have m1 := hBr.cell 1 _ rfl
  have m2 := hBr.cell 2 _ rfl
  have m8 := hBr.cell 8 _ rfl
  have m3 := hBr.cell 3 _ rfl
  have m4 := hBr.cell 4 _ rfl
  have m5 := hBr.cell 5 _ rfl
  have m6 := hBr.cell 6 _ rfl
  have y3 := hY.cell 3 _ rfl
  have f3 := hY.free 3
  have y4 := hY.cell 4 _ rfl
  have f4 := hY.free 4
  have y5 := hY.cell 5 _ rfl
  have f5 := hY.free 5
  have y6 := hY.cell 6 _ rfl
  have f6 := hY.free 6
  have y7 := hY.cell 7 _ rfl
  have f7 := hY.free 7
  have y8 := hY.cell 8 _ rfl
  have f8 := hY.free 8
  have y9 := hY.cell 9 _ rfl
  have f9 := hY.free 9
  have y10 := hY.cell 10 _ rfl
  have f10 := hY.free 10
  have hxy : x ≠ y := by omega
  have hry : r ≠ y := by omega
  have hyz : y ≠ z := by omega
  have hgy : ∀ b, (Value.slice Ag h.grp.length cg).ownBlock = some b → b ≠ y := fun b e => by
    obtain ⟨gv', _, _, _, _, _, _, _, _, hBr', hG', hgz', -⟩ := hR.out
    have h0 := hBr.cell 7 _ rfl
    have h1 := k1.cell (hBr'.cell 7 _ rfl) id
    have e2 : Value.slice Ag h.grp.length cg = gv' := Option.some.inj (h0.symm.trans h1)
    have := (hR.Z b (hgz' b (e2 ▸ e)).1).2
    omega
  have hyge : w.heap.size ≤ y := by omega
  have hzge : w.heap.size ≤ z := by omega
  simp only [bothV]
  go_enter Try.func27, Try.ntmps27
  go_upto_region 1 with (fail)
  simp only [msgL] at hW1
  rw [← hWa, ← hWb, ← hW1, ← hz, ← hy, ← hx]
  clear hWa hWb hW1 hx hy hz hsa hsb ka kb kc
  go_upto_region 5 with (fail)
  have hY2 : Blk ((((((((W1.setCell ⟨y, 3, Option.none⟩ (.bool true)).setCell ⟨y, 4, Option.none⟩ (.int .i64 h.client)).setCell ⟨y, 5, Option.none⟩ (.int .i64 h.op)).setCell ⟨y, 6, Option.none⟩ (.int .i64 round)).setCell ⟨y, 7, Option.none⟩ (.int .i64 h.k0)).setCell ⟨y, 8, Option.none⟩ (.int .i64 h.k1)).setCell ⟨y, 9, Option.none⟩ (.int .i64 h.k2)).setCell ⟨y, 10, Option.none⟩ (.int .i64 h.k3)) y 66 [.int .i64 kind, .bool fc, .int .i64 fi, .bool true, .int .i64 h.client, .int .i64 h.op, .int .i64 round, .int .i64 h.k0, .int .i64 h.k1, .int .i64 h.k2, .int .i64 h.k3, .int .i64 s1, .int .i64 s2, .int .i64 h1, .int .i64 h2, .slice A zn cap, .int .i64 c0, .int .i64 c1, .int .i64 c2, .string nm, .int .i64 c3, .int .i64 c4, .int .i64 c5, .int .i64 c6, .int .i64 c7, .int .i64 up, .slice E en ec, .slice L ln lc, .slice D dn dc, .bool more] := ((((((((hY.set 3 (.bool true)).set 4 (.int .i64 h.client)).set 5 (.int .i64 h.op)).set 6 (.int .i64 round)).set 7 (.int .i64 h.k0)).set 8 (.int .i64 h.k1)).set 9 (.int .i64 h.k2)).set 10 (.int .i64 h.k3))
  have k2 : Keeps (One y) W1 ((((((((W1.setCell ⟨y, 3, Option.none⟩ (.bool true)).setCell ⟨y, 4, Option.none⟩ (.int .i64 h.client)).setCell ⟨y, 5, Option.none⟩ (.int .i64 h.op)).setCell ⟨y, 6, Option.none⟩ (.int .i64 round)).setCell ⟨y, 7, Option.none⟩ (.int .i64 h.k0)).setCell ⟨y, 8, Option.none⟩ (.int .i64 h.k1)).setCell ⟨y, 9, Option.none⟩ (.int .i64 h.k2)).setCell ⟨y, 10, Option.none⟩ (.int .i64 h.k3)) := (((((((((Keeps.refl (One y) W1).setCell ⟨y, 3, Option.none⟩ (.bool true) (fun _ => rfl)).setCell ⟨y, 4, Option.none⟩ (.int .i64 h.client) (fun _ => rfl)).setCell ⟨y, 5, Option.none⟩ (.int .i64 h.op) (fun _ => rfl)).setCell ⟨y, 6, Option.none⟩ (.int .i64 round) (fun _ => rfl)).setCell ⟨y, 7, Option.none⟩ (.int .i64 h.k0) (fun _ => rfl)).setCell ⟨y, 8, Option.none⟩ (.int .i64 h.k1) (fun _ => rfl)).setCell ⟨y, 9, Option.none⟩ (.int .i64 h.k2) (fun _ => rfl)).setCell ⟨y, 10, Option.none⟩ (.int .i64 h.k3) (fun _ => rfl))
  obtain ⟨W2, hW2⟩ : ∃ W, W = ((((((((W1.setCell ⟨y, 3, Option.none⟩ (.bool true)).setCell ⟨y, 4, Option.none⟩ (.int .i64 h.client)).setCell ⟨y, 5, Option.none⟩ (.int .i64 h.op)).setCell ⟨y, 6, Option.none⟩ (.int .i64 round)).setCell ⟨y, 7, Option.none⟩ (.int .i64 h.k0)).setCell ⟨y, 8, Option.none⟩ (.int .i64 h.k1)).setCell ⟨y, 9, Option.none⟩ (.int .i64 h.k2)).setCell ⟨y, 10, Option.none⟩ (.int .i64 h.k3)) := ⟨_, rfl⟩
  rw [← hW2] at hY2 k2
  rw [← hW2]
  clear hW2 x1 m1 m2 m3 m4 m5 m6 m8 y3 f3 y4 f4 y5 f5 y6 f6 y7 f7 y8 f8 y9 f9 y10 f10
  have hX2 := hX.keeps k2 hxy
  have hB2 := hBr.keeps k2 hry
  have hG2 := hG.keeps k2 (fun b e f => hgy b e f)
  have hZ2 := hZ.keeps k2 (fun f => hyz f.symm)
  have kw2 : Keeps None w W2 := k1.andThen k2 (fun i hi e => by simp only [One] at e; omega)
  have x1 := hX2.cell 1 _ rfl
  have m7 := hB2.cell 7 _ rfl
  clear hX hBr hG hZ hY k1 k2 hR1
  by_cases hn : h.grp = []
  · have HN := Lib.hid hn
    have hl0 : h.grp.length = 0 := by rw [hn]; rfl
    rw [hl0] at m7
    clear hn
    go_upto_region 11 with (fail)
    go_wp2_with (first | (refine wpList_load_msg rfl (.tmp 3) rfl y rfl [.int .i64 kind, .bool fc, .int .i64 fi, .bool true, .int .i64 h.client, .int .i64 h.op, .int .i64 round, .int .i64 h.k0, .int .i64 h.k1, .int .i64 h.k2, .int .i64 h.k3, .int .i64 s1, .int .i64 s2, .int .i64 h1, .int .i64 h2, .slice A zn cap, .int .i64 c0, .int .i64 c1, .int .i64 c2, .string nm, .int .i64 c3, .int .i64 c4, .int .i64 c5, .int .i64 c6, .int .i64 c7, .int .i64 up, .slice E en ec, .slice L ln lc, .slice D dn dc, .bool more] hY2 rfl ?_) | (refine wpList_store_msg rfl (.tmp 4) (.tmp 60) rfl z [.int .i64 kind, .bool fc, .int .i64 fi, .bool true, .int .i64 h.client, .int .i64 h.op, .int .i64 round, .int .i64 h.k0, .int .i64 h.k1, .int .i64 h.k2, .int .i64 h.k3, .int .i64 s1, .int .i64 s2, .int .i64 h1, .int .i64 h2, .slice A zn cap, .int .i64 c0, .int .i64 c1, .int .i64 c2, .string nm, .int .i64 c3, .int .i64 c4, .int .i64 c5, .int .i64 c6, .int .i64 c7, .int .i64 up, .slice E en ec, .slice L ln lc, .slice D dn dc, .bool more] _ rfl rfl hZ2 rfl rfl (by simp [Value.oneCell']) ?_))
    refine bodyPost_ret (results_cell_row rfl _ _ z _ _ (0, 0) _ rfl (hZ2.setRow [.int .i64 kind, .bool fc, .int .i64 fi, .bool true, .int .i64 h.client, .int .i64 h.op, .int .i64 round, .int .i64 h.k0, .int .i64 h.k1, .int .i64 h.k2, .int .i64 h.k3, .int .i64 s1, .int .i64 s2, .int .i64 h1, .int .i64 h2, .slice A zn cap, .int .i64 c0, .int .i64 c1, .int .i64 c2, .string nm, .int .i64 c3, .int .i64 c4, .int .i64 c5, .int .i64 c6, .int .i64 c7, .int .i64 up, .slice E en ec, .slice L ln lc, .slice D dn dc, .bool more]).raw Try.underlying66 rfl (sizeMsg rfl)) rfl ⟨by rw [show nearF h.grp fi = fi from by unfold nearF; rw [if_pos HN.out]], kw2.andThen ((Keeps.refl (One z) _).setRow _ _ (fun _ => rfl)) (fun i hi e => by simp only [One] at e; omega)⟩
  · have hpos : 0 < h.grp.length := List.length_pos_iff.2 hn
    have hrl2 := restF_lt fi h.grp.length (by omega)
    have ht1 := Int.tmod_lt_of_pos fi (show (0 : Int) < h.grp.length by omega)
    have ht2 := Int.lt_tmod_of_pos fi (show (0 : Int) < h.grp.length by omega)
    have hneb : (((h.grp.length : Nat) : Int) == 0) = false := by simp; omega
    obtain ⟨k, hk⟩ : ∃ k : Nat, restF fi h.grp.length = (k : Int) := ⟨(restF fi h.grp.length).toNat, by omega⟩
    have hkl : k < h.grp.length := by omega
    obtain ⟨fj, bg, og, rfl, hc, hs⟩ := (Nums.row hG2).1.get k hkl
    have HJ : Hid (fj = nearF h.grp fi) := Lib.hid (by unfold nearF; rw [if_neg hn, hk, Int.toNat_natCast, List.getD_eq_getElem?_getD, hs.out]; rfl)
    have y2 := hY2.cell 2 _ rfl
    have f2 := hY2.free 2
    have HK := Lib.hid hk
    have hw0 : IntKind.i64.wrap (fi.tmod h.grp.length) = fi.tmod h.grp.length := by rw [IntKind.wrap_i64]; omega
    have hw1 : IntKind.i64.wrap (fi.tmod h.grp.length + h.grp.length) = fi.tmod h.grp.length + h.grp.length := by rw [IntKind.wrap_i64]; omega
    obtain ⟨T, hT⟩ : ∃ T, T = fi.tmod h.grp.length := ⟨_, rfl⟩
    clear hk hs hrl2 hn
    by_cases hlt : fi.tmod h.grp.length < 0
    case' pos =>
      have e1 : fi.tmod h.grp.length + h.grp.length = (k : Int) := by rw [← HK.out]; unfold restF; rw [if_pos hlt]
      go_upto_region 10 with (fail)
    case' neg =>
      have e1 : fi.tmod h.grp.length = (k : Int) := by rw [← HK.out]; unfold restF; rw [if_neg hlt]
      go_upto_region 10 with (fail)
    all_goals
      go_upto_region 11 with (fail)
      have hY3 : Blk (W2.setCell ⟨y, 2, Option.none⟩ (.int .i64 fj)) y 66 [.int .i64 kind, .bool fc, .int .i64 fj, .bool true, .int .i64 h.client, .int .i64 h.op, .int .i64 round, .int .i64 h.k0, .int .i64 h.k1, .int .i64 h.k2, .int .i64 h.k3, .int .i64 s1, .int .i64 s2, .int .i64 h1, .int .i64 h2, .slice A zn cap, .int .i64 c0, .int .i64 c1, .int .i64 c2, .string nm, .int .i64 c3, .int .i64 c4, .int .i64 c5, .int .i64 c6, .int .i64 c7, .int .i64 up, .slice E en ec, .slice L ln lc, .slice D dn dc, .bool more] := hY2.set 2 (.int .i64 fj)
      have k3 : Keeps (One y) W2 (W2.setCell ⟨y, 2, Option.none⟩ (.int .i64 fj)) := (Keeps.refl (One y) W2).setCell ⟨y, 2, Option.none⟩ _ (fun _ => rfl)
      obtain ⟨W3, hW3⟩ : ∃ W, W = W2.setCell ⟨y, 2, Option.none⟩ (.int .i64 fj) := ⟨_, rfl⟩
      rw [← hW3] at hY3 k3
      rw [← hW3]
      have hZ3 := hZ2.keeps k3 (fun f => hyz f.symm)
      clear hW3
      go_wp2_with (first | (refine wpList_load_msg rfl (.tmp 3) rfl y rfl [.int .i64 kind, .bool fc, .int .i64 fj, .bool true, .int .i64 h.client, .int .i64 h.op, .int .i64 round, .int .i64 h.k0, .int .i64 h.k1, .int .i64 h.k2, .int .i64 h.k3, .int .i64 s1, .int .i64 s2, .int .i64 h1, .int .i64 h2, .slice A zn cap, .int .i64 c0, .int .i64 c1, .int .i64 c2, .string nm, .int .i64 c3, .int .i64 c4, .int .i64 c5, .int .i64 c6, .int .i64 c7, .int .i64 up, .slice E en ec, .slice L ln lc, .slice D dn dc, .bool more] hY3 rfl ?_) | (refine wpList_store_msg rfl (.tmp 4) (.tmp 60) rfl z [.int .i64 kind, .bool fc, .int .i64 fj, .bool true, .int .i64 h.client, .int .i64 h.op, .int .i64 round, .int .i64 h.k0, .int .i64 h.k1, .int .i64 h.k2, .int .i64 h.k3, .int .i64 s1, .int .i64 s2, .int .i64 h1, .int .i64 h2, .slice A zn cap, .int .i64 c0, .int .i64 c1, .int .i64 c2, .string nm, .int .i64 c3, .int .i64 c4, .int .i64 c5, .int .i64 c6, .int .i64 c7, .int .i64 up, .slice E en ec, .slice L ln lc, .slice D dn dc, .bool more] _ rfl rfl hZ3 rfl rfl (by simp [Value.oneCell']) ?_))
      refine bodyPost_ret (results_cell_row rfl _ _ z _ _ (0, 0) _ rfl (hZ3.setRow [.int .i64 kind, .bool fc, .int .i64 fj, .bool true, .int .i64 h.client, .int .i64 h.op, .int .i64 round, .int .i64 h.k0, .int .i64 h.k1, .int .i64 h.k2, .int .i64 h.k3, .int .i64 s1, .int .i64 s2, .int .i64 h1, .int .i64 h2, .slice A zn cap, .int .i64 c0, .int .i64 c1, .int .i64 c2, .string nm, .int .i64 c3, .int .i64 c4, .int .i64 c5, .int .i64 c6, .int .i64 c7, .int .i64 up, .slice E en ec, .slice L ln lc, .slice D dn dc, .bool more]).raw Try.underlying66 rfl (sizeMsg rfl)) rfl ⟨by rw [← HJ.out], (kw2.andThen k3 (fun i hi e => by simp only [One] at e; omega)).andThen ((Keeps.refl (One z) _).setRow _ _ (fun _ => rfl)) (fun i hi e => by simp only [One] at e; omega)⟩
end Go.Proofs.Ytcihfjfbcfgidaa
