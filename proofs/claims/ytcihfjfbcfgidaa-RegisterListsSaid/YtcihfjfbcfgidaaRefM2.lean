/- The document's machine: New, need, fresh, told, end. -/
import Derived.Test.YtcihfjfbcfgidaaRefM
import Derived.Deep.DeepCutAuto
namespace Go.Proofs.Ytcihfjfbcfgidaa
open Go.RowKit Go.Maps Go.Proofs.YtcihfjfbcfgidaaW.PrintLast
set_option linter.unusedVariables false

def RNewEnd (base : Nat) (h : Hd) (round : Int) (w : World) (e : Ending) (w' : World) : Prop :=
  ∃ r Z W, e = .returned (.pointer (some ⟨r, 0, Option.none⟩)) ∧ RMach w' base Z W r h round .fresh ∧ (∀ b, Z b → w.heap.size ≤ b) ∧ Keeps None w w'
set_option maxRecDepth 100000 in
set_option maxHeartbeats 1600000 in
theorem refnew_any (h : Hd) (A : Option Addr) (n cap : Nat) (l : List Int) (round size : Int) (B : Option Addr) (m cap' : Nat) (zs : List Int) (base : Nat) (w : World) (hA : Nums .i64 w A l) (hn : l.length = n) (hr : n ≤ 1000) (hB : Nums .u8 w B zs) (hm : zs.length = m) (hz : m ≤ MB)
    (hbase : base ≤ w.heap.size) (hBb : ∀ b o, B = some ⟨b, o, Option.none⟩ → 0 < zs.length → b < base) (hg : h.grp = uniqF l) (hw : h.wr = true → h.blk = zs) (hs : h.wr = false → h.size = sizeF size) (ok : HdOk h) :
    Calls Try.prog 40 #[.bool h.wr, .int .i64 h.client, .int .i64 h.op, .agg #[.int .i64 h.k0, .int .i64 h.k1, .int .i64 h.k2, .int .i64 h.k3], .slice A n cap, .int .i64 round, .int .i64 size, .slice B m cap'] w (RNewEnd base h round w) := by
  obtain ⟨W1, hW1⟩ : ∃ W, W = w.alloc (.cells #[.int .i64 h.k0, .int .i64 h.k1, .int .i64 h.k2, .int .i64 h.k3] 51) := ⟨_, rfl⟩
  have kW1 : Keeps None w W1 := by rw [hW1]; exact (Keeps.refl _ _).alloc _
  have hK1 : Blk W1 w.heap.size 51 [.int .i64 h.k0, .int .i64 h.k1, .int .i64 h.k2, .int .i64 h.k3] := by rw [hW1]; exact Blk.new _ _ _
  have k0 := hK1.cell 0 _ rfl
  have k1 := hK1.cell 1 _ rfl
  have k2 := hK1.cell 2 _ rfl
  have k3 := hK1.cell 3 _ rfl
  have hA1 := hA.grew kW1
  have hs1 := kW1.size
  have HG := Lib.hid hg
  have HW := Lib.hid hw
  have HS := Lib.hid hs
  clear hg hw hs
  go_enter Try.func40, Try.ntmps40
  go_wp2_with fail
  rw [← hW1]
  refine start_ (ds := []) (S := (fun w' => Keeps None W1 w')) #[false, false, false, false, false, false, false, false, false, false, false, false] (by kernel_rfl) rfl rfl ((Keeps.refl _ _).drew) (fun hS0 => ?_)
  refine pure_ (i := 0) (N := some 18) (v := .bool h.wr) #[true, false, false, false, false, false, false, false, false, false, false, false] rfl rfl (by kernel_rfl) (fun _ _ _ h => h) (Or.inl ⟨wanted_none rfl, fun w => by rfl⟩) rfl ?_
  try simp only [Act.put, List.setIfInBounds_toArray, List.set_cons_zero, List.set_cons_succ]
  refine pure_ (i := 1) (N := some 19) (v := .int .i64 h.client) #[true, true, false, false, false, false, false, false, false, false, false, false] rfl rfl (by kernel_rfl) (fun _ _ _ h => h) (Or.inl ⟨wanted_none rfl, fun w => by rfl⟩) rfl ?_
  try simp only [Act.put, List.setIfInBounds_toArray, List.set_cons_zero, List.set_cons_succ]
  refine pure_ (i := 2) (N := some 20) (v := .int .i64 h.op) #[true, true, true, false, false, false, false, false, false, false, false, false] rfl rfl (by kernel_rfl) (fun _ _ _ h => h) (Or.inl ⟨wanted_none rfl, fun w => by rfl⟩) rfl ?_
  try simp only [Act.put, List.setIfInBounds_toArray, List.set_cons_zero, List.set_cons_succ]
  refine take_ (i := 3) (N := some 21) (v := .agg #[.int .i64 h.k0, .int .i64 h.k1, .int .i64 h.k2, .int .i64 h.k3]) #[true, true, true, true, false, false, false, false, false, false, false, false] rfl rfl (by kernel_rfl) (fun _ _ _ h => h) (Or.inl ⟨wanted_none rfl, by intro w' hSw; have q0 := hSw.cell k0 id; have q1 := hSw.cell k1 id; have q2 := hSw.cell k2 id; have q3 := hSw.cell k3 id; go_simp⟩) hS0 rfl ?_
  try simp only [Act.put, List.setIfInBounds_toArray, List.set_cons_zero, List.set_cons_succ]
  refine pure_ (i := 4) (N := some 22) (v := .slice A n cap) #[true, true, true, true, true, false, false, false, false, false, false, false] rfl rfl (by kernel_rfl) (fun _ _ _ h => h) (Or.inl ⟨wanted_none rfl, fun w => by rfl⟩) rfl ?_
  try simp only [Act.put, List.setIfInBounds_toArray, List.set_cons_zero, List.set_cons_succ]
  refine pure_ (i := 6) (N := some 24) (v := .int .i64 round) #[true, true, true, true, true, false, true, false, false, false, false, false] rfl rfl (by kernel_rfl) (fun _ _ _ h => h) (Or.inl ⟨wanted_none rfl, fun w => by rfl⟩) rfl ?_
  try simp only [Act.put, List.setIfInBounds_toArray, List.set_cons_zero, List.set_cons_succ]
  refine pure_ (i := 7) (N := some 25) (v := .int .i64 size) #[true, true, true, true, true, false, true, true, false, false, false, false] rfl rfl (by kernel_rfl) (fun _ _ _ h => h) (Or.inl ⟨wanted_none rfl, fun w => by rfl⟩) rfl ?_
  try simp only [Act.put, List.setIfInBounds_toArray, List.set_cons_zero, List.set_cons_succ]
  refine pure_ (i := 8) (N := some 26) (v := .slice B m cap') #[true, true, true, true, true, false, true, true, true, false, false, false] rfl rfl (by kernel_rfl) (fun _ _ _ h => h) (Or.inl ⟨wanted_none rfl, fun w => by rfl⟩) rfl ?_
  try simp only [Act.put, List.setIfInBounds_toArray, List.set_cons_zero, List.set_cons_succ]
  refine one_ (i := 5) (oi := ({ dst := some 23, op := Op.call { callee := Callee.value (Operand.func 60), args := #[Operand.tmp 22], argTypes := #[52] }, type := 52, pos := "ref.go:65", after := #[{ on := 4, ground := Ground.data }], guard := Option.none } : Oper)) (N := some 23) #[true, true, true, true, true, true, true, true, true, false, false, false] rfl rfl (by kernel_rfl) (by decide) ?_
  intro KK hKK
  refine goes_ Try.func60 (by kernel_rfl) rfl #[.slice A n cap] (wanted_none rfl) rfl rfl (by simp [Act.eval]) ?_
  refine (refunlike_any A n cap l _ (hA1.grew hS0) hn (by omega)).mono ?_
  rintro e wU ⟨vg, rfl, hR, hkU⟩
  obtain ⟨Ag, cg, rfl⟩ := hR.slice
  refine ⟨_, rfl, hKK.out _ _ (hS0.trans hkU) (fun hS1 => ?_)⟩
  try simp only [Act.put, List.setIfInBounds_toArray, List.set_cons_zero, List.set_cons_succ]
  refine pure_ (i := 9) (N := some 27) (v := .agg #[.bool h.wr, .int .i64 h.client, .int .i64 h.op, .int .i64 h.k0, .int .i64 h.k1, .int .i64 h.k2, .int .i64 h.k3, .slice Ag (uniqF l).length cg, .int .i64 round, .int .i64 size, .slice B m cap', .int .i64 0, .slice Option.none 0 0, .slice Option.none 0 0, .int .i64 0, .int .i64 0, .int .i64 0]) #[true, true, true, true, true, true, true, true, true, true, false, false] rfl rfl (by kernel_rfl) (fun _ _ _ h => h) (Or.inl ⟨wanted_none rfl, fun w => by go_simp⟩) rfl ?_
  try simp only [Act.put, List.setIfInBounds_toArray, List.set_cons_zero, List.set_cons_succ]
  have hR' := hR
  refine one_ (i := 10) (oi := ({ dst := some 28, op := Op.box 86 (Operand.tmp 27), type := 73, pos := "ref.go:65", after := #[{ on := 9, ground := Ground.data }], guard := Option.none } : Oper)) (N := some 28) #[true, true, true, true, true, true, true, true, true, true, true, false] rfl rfl (by kernel_rfl) (by decide) ?_
  intro KK hKK
  obtain ⟨r, hr⟩ : ∃ x, x = wU.heap.size := ⟨_, rfl⟩
  obtain ⟨W2, hW2⟩ : ∃ x, x = wU.alloc (.cells #[.bool h.wr, .int .i64 h.client, .int .i64 h.op, .int .i64 h.k0, .int .i64 h.k1, .int .i64 h.k2, .int .i64 h.k3, .slice Ag (uniqF l).length cg, .int .i64 round, .int .i64 size, .slice B m cap', .int .i64 0, .slice Option.none 0 0, .slice Option.none 0 0, .int .i64 0, .int .i64 0, .int .i64 0] 86) := ⟨_, rfl⟩
  have kB : Keeps None wU W2 := by rw [hW2]; exact (Keeps.refl _ _).alloc _
  have hM : Blk W2 r 86 [.bool h.wr, .int .i64 h.client, .int .i64 h.op, .int .i64 h.k0, .int .i64 h.k1, .int .i64 h.k2, .int .i64 h.k3, .slice Ag (uniqF l).length cg, .int .i64 round, .int .i64 size, .slice B m cap', .int .i64 0, .slice Option.none 0 0, .slice Option.none 0 0, .int .i64 0, .int .i64 0, .int .i64 0] := by rw [hW2, hr]; exact Blk.new _ _ _
  have hR := hR.grew kB
  have hgr : ∀ b, (Value.slice Ag (uniqF l).length cg).ownBlock = some b → b ≠ r ∧ W1.heap.size ≤ b := fun b e => ⟨by have := (hR'.lt b e).2; omega, by have := (hR'.lt b e).1; have := hS0.size; omega⟩
  refine value_ (wanted_none rfl) rfl (w1 := W2) (v := .pointer (some ⟨r, 0, Option.none⟩)) (by rw [hW2, hr]; go_simp) (hKK.out _ _ (hS1.trans kB) (fun hS2 => ?_))
  try simp only [Act.put, List.setIfInBounds_toArray, List.set_cons_zero, List.set_cons_succ]
  refine pure_ (i := 11) (N := some 17) (v := .pointer (some ⟨r, 0, Option.none⟩)) #[true, true, true, true, true, true, true, true, true, true, true, true] rfl rfl (by kernel_rfl) (fun _ _ _ h => h) (Or.inl ⟨wanted_none rfl, fun w => by rfl⟩) rfl ?_
  try simp only [Act.put, List.setIfInBounds_toArray, List.set_cons_zero, List.set_cons_succ]
  refine done_ (by kernel_rfl) ?_
  have hkr : Keeps None w W2 := kW1.trans hS2
  have hrl : W1.heap.size ≤ r := by have := hkU.size; have : W1.drew.heap.size = W1.heap.size := rfl; omega
  clear k0 k1 k2 k3 hK1 hKK hR' hr kB hkU hS0 hS1 hW2 hW1
  have FIN : ∀ (W3 : World) (x : Int), Keeps (One r) W2 W3 → Blk W3 r 86 (rcells h x (.slice Ag (uniqF l).length cg) round (.slice B m cap') 0 (.slice Option.none 0 0) (.slice Option.none 0 0) 0 0 0) → x = sizeF size → RNewEnd base h round w (.returned (.pointer (some ⟨r, 0, Option.none⟩))) W3 := by
    intro W3 x hk hb hx
    have hkw : Keeps None w W3 := hkr.andThen hk (fun i hi e => by simp only [One] at e; omega)
    have hR3 := hR.keeps hk (fun b e f => (hgr b e).1 f)
    have hZ : ∀ b, (b = r ∨ (Value.slice Ag (uniqF l).length cg).ownBlock = some b) → W1.heap.size ≤ b ∧ b < W3.heap.size := fun b e => by
      rcases e with rfl | e
      · exact ⟨hrl, hb.lt⟩
      · exact ⟨(hgr b e).2, (hR3.lt b e).2⟩
    refine ⟨r, fun b => b = r ∨ (Value.slice Ag (uniqF l).length cg).ownBlock = some b, fun b => b = r, rfl, ⟨⟨_, x, _, 0, _, _, 0, 0, 0, hb, ?_, fun b e => ⟨.inr e, (hgr b e).1⟩, fun e => by rw [hx, HS.out e], ⟨rfl, fun e => ?_⟩, ⟨_, _, _, rfl⟩, ⟨_, _, _, rfl⟩, ⟨_, _, _, rfl⟩⟩, rfl, fun b e => .inl e, fun b e => ⟨by have := (hZ b e).1; omega, (hZ b e).2⟩, ok⟩, fun b e => by have := (hZ b e).1; omega, hkw⟩
    · rw [HG.out]; exact hR3.down (by have : W1.drew.heap.size = W1.heap.size := rfl; omega)
    · rw [HW.out e]
      exact ⟨B, cap', by rw [hm], hB.grew hkw, fun b o eb h0 => ⟨.inl (hBb b o eb h0), by have := hBb b o eb h0; intro f; have : b = r := f; omega⟩, by omega⟩
  have f9 := hM.free 9
  have m9 := hM.cell 9 _ rfl
  by_cases h1 : size < 0
  · have e9 : (0 : Int) = sizeF size := by unfold sizeF; rw [if_pos h1]
    have H9 := Lib.hid e9
    clear e9
    go_wp2_with fail
    go_ret
    exact FIN _ 0 ((Keeps.refl (One r) W2).setCell ⟨r, 9, Option.none⟩ (.int .i64 0) (fun _ => rfl)) (hM.set 9 (.int .i64 0)) H9.out
  · by_cases h2 : 4096 < size
    · have e9 : (4096 : Int) = sizeF size := by unfold sizeF; rw [if_neg h1, if_pos h2]
      have H9 := Lib.hid e9
      clear e9
      go_wp2_with fail
      go_ret
      exact FIN _ 4096 ((Keeps.refl (One r) W2).setCell ⟨r, 9, Option.none⟩ (.int .i64 4096) (fun _ => rfl)) (hM.set 9 (.int .i64 4096)) H9.out
    · have e9 : size = sizeF size := by unfold sizeF; rw [if_neg h1, if_neg h2]
      have H9 := Lib.hid e9
      clear e9
      go_wp2_with fail
      go_ret
      exact FIN _ size (Keeps.refl _ _) hM H9.out
end Go.Proofs.Ytcihfjfbcfgidaa
