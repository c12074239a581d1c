/- RegisterBook's walk. -/
import Derived.Test.YtcihfjfbcfgidaaBook7More
import Derived.Deep.OwnRows
import Derived.Test.YtcihfjfbcfgidaaToldPlain
import Derived.Test.YtcihfjfbcfgidaaHead
import Derived.Deep.DeepCutAuto
import Derived.Deep.CutBlock
import Derived.Handy
namespace Go.Proofs.Ytcihfjfbcfgidaa
open Go.RowKit Go.Maps Go.Proofs.YtcihfjfbcfgidaaW.PrintLast

def sel {α : Type} (a b c : α) (q : Nat) : α := if q = 0 then a else if q = 1 then b else c

set_option maxRecDepth 100000 in
set_option maxHeartbeats 0 in
theorem book_law (A : Option Addr) (cap : Nat) (zs : List Int) (A' : Option Addr) (cap' : Nat) (ys : List Int) (w : World) (hA : Nums .u8 w A zs) (hr : zs.length ≤ 140737488351232) (hcap : A = Option.none → cap = 0) (hA' : Nums .u8 w A' ys) (hr' : ys.length ≤ 140737488351232) (hcap' : A' = Option.none → cap' = 0) :
    Calls Try.prog 5 #[.slice A zs.length cap, .slice A' ys.length cap'] w fun e w' => e = .returned (.bool true) ∧ Keeps None w w' := by
  obtain ⟨i0, hi, hz0, hz1, hz2⟩ := info_parts Try.infoU8
  obtain ⟨i1, hj0, hy0, hy1, hy2⟩ := info_parts Try.infoBs
  obtain ⟨W1, hW1⟩ : ∃ W, W = (w.alloc (.cells #[.int .i64 1, .int .i64 3, .int .i64 1, .int .i64 0] 51)).alloc (.cells #[.int .i64 1, .int .i64 2, .int .i64 3, .int .i64 4, .int .i64 5] 3) := ⟨_, rfl⟩
  have hkey1 : Blk W1 w.heap.size 51 [.int .i64 1, .int .i64 3, .int .i64 1, .int .i64 0] := by rw [hW1]; exact (Blk.new w _ _).alloc _
  have k1 : Keeps None w W1 := by rw [hW1]; exact ((Keeps.refl None w).alloc _).alloc _
  have hN1 : Nums .i64 W1 (some ⟨w.heap.size + 1, 0, Option.none⟩) [1, 2, 3, 4, 5] := by
    have := (Blk.new (w.alloc (.cells #[.int .i64 1, .int .i64 3, .int .i64 1, .int .i64 0] 51)) 3 [.int .i64 1, .int .i64 2, .int .i64 3, .int .i64 4, .int .i64 5]).nums 0 [1, 2, 3, 4, 5] rfl
    rw [World.size_alloc] at this
    rw [hW1]
    exact this
  have hs1 := k1.size
  go_enter Try.func5, Try.ntmps5
  go_upto_region 3 with (fail)
  rw [← hW1]
  clear hW1
  have c0 := hkey1.cell 0 _ rfl
  have c1 := hkey1.cell 1 _ rfl
  have c2 := hkey1.cell 2 _ rfl
  have c3 := hkey1.cell 3 _ rfl
  go_wp2_with fail
  refine (write_mach 3 1 1 3 1 0 7 _ 5 5 [1, 2, 3, 4, 5] A zs.length cap zs W1 hN1 rfl (by omega) (by decide) (hA.grew k1) rfl hr).mono ?_
  rintro e W2 ⟨g0, X0, rfl, hM0, k12⟩
  rw [show uniqF [1, 2, 3, 4, 5] = [1, 2, 3, 4, 5] from by decide] at hM0
  have hkey2 := hkey1.grew k12
  have hN2 := hN1.grew k12
  have hs2 := k12.size
  clear c0 c1 c2 c3
  have c0 := hkey2.cell 0 _ rfl
  have c1 := hkey2.cell 1 _ rfl
  have c2 := hkey2.cell 2 _ rfl
  have c3 := hkey2.cell 3 _ rfl
  go_wp2_with fail
  refine (readm_mach 3 1 1 3 1 0 7 4 _ 5 5 [1, 2, 3, 4, 5] W2 hN2 rfl (by omega) (by decide)).mono ?_
  rintro e W3 ⟨g1, X1, rfl, hM1, k23⟩
  rw [show uniqF [1, 2, 3, 4, 5] = [1, 2, 3, 4, 5] from by decide, show sizeF 4 = 4 from rfl] at hM1
  have hkey3 := hkey2.grew k23
  have hN3 := hN2.grew k23
  have hs3 := k23.size
  clear c0 c1 c2 c3
  have c0 := hkey3.cell 0 _ rfl
  have c1 := hkey3.cell 1 _ rfl
  have c2 := hkey3.cell 2 _ rfl
  have c3 := hkey3.cell 3 _ rfl
  go_wp2_with fail
  refine (readm_mach 3 1 1 3 1 0 7 4 _ 5 5 [1, 2, 3, 4, 5] W3 hN3 rfl (by omega) (by decide)).mono ?_
  rintro e W4 ⟨g2, X2, rfl, hM2, k34⟩
  rw [show uniqF [1, 2, 3, 4, 5] = [1, 2, 3, 4, 5] from by decide, show sizeF 4 = 4 from rfl] at hM2
  have hs4 := k34.size
  clear c0 c1 c2 c3 hkey1 hkey2 hkey3 hN1 hN2 hN3
  go_upto_region 9 with (fail)
  have hMB := Blk.new W4 37 [.iface 104 (.pointer (some ⟨g0, 0, Option.none⟩)), .iface 104 (.pointer (some ⟨g1, 0, Option.none⟩)), .iface 104 (.pointer (some ⟨g2, 0, Option.none⟩))]
  have k45 := (Keeps.refl None W4).alloc (.cells #[.iface 104 (.pointer (some ⟨g0, 0, Option.none⟩)), .iface 104 (.pointer (some ⟨g1, 0, Option.none⟩)), .iface 104 (.pointer (some ⟨g2, 0, Option.none⟩))] 37)
  obtain ⟨bm, hbm⟩ : ∃ x, x = W4.heap.size := ⟨_, rfl⟩
  obtain ⟨W5, hW5⟩ : ∃ W, W = W4.alloc (.cells #[.iface 104 (.pointer (some ⟨g0, 0, Option.none⟩)), .iface 104 (.pointer (some ⟨g1, 0, Option.none⟩)), .iface 104 (.pointer (some ⟨g2, 0, Option.none⟩))] 37) := ⟨_, rfl⟩
  have hMB' : Blk W5 bm 37 [.iface 104 (.pointer (some ⟨g0, 0, Option.none⟩)), .iface 104 (.pointer (some ⟨g1, 0, Option.none⟩)), .iface 104 (.pointer (some ⟨g2, 0, Option.none⟩))] := by rw [hW5, hbm]; exact hMB
  rw [← hW5] at k45
  rw [← hW5, ← hbm]
  have hL0 : ∀ b, (X0 b ∨ b = g0) → W1.heap.size ≤ b ∧ b < W2.heap.size := fun b hb => by
    rcases hb with hb | rfl
    · exact hM0.X b hb
    · exact ⟨hM0.g.2, hM0.lt⟩
  have hL1 : ∀ b, (X1 b ∨ b = g1) → W2.heap.size ≤ b ∧ b < W3.heap.size := fun b hb => by
    rcases hb with hb | rfl
    · exact hM1.X b hb
    · exact ⟨hM1.g.2, hM1.lt⟩
  have hL2 : ∀ b, (X2 b ∨ b = g2) → W3.heap.size ≤ b ∧ b < W4.heap.size := fun b hb => by
    rcases hb with hb | rfl
    · exact hM2.X b hb
    · exact ⟨hM2.g.2, hM2.lt⟩
  have hbl := hMB'.lt
  have hB0 : B7 w W5 bm (hdB zs) (sel g0 g1 g2) (sel X0 X1 X2) (fun _ => (7, .fresh)) [] (.slice Option.none 0 0) := by
    refine ⟨fun q hq => ?_, fun q hq => ?_, fun q r hq hr hqr b h1 h2 => ?_, fun q hq b h1 => ?_, ⟨by omega, hbl⟩, Al.none _ _, fun q hq b _ => ⟨fun ⟨i, v, zs, e, _⟩ => by simp at e, fun e => by simp [Value.ownBlock] at e⟩, ⟨fun ⟨i, v, zs, e, _⟩ => by simp at e, fun e => by simp [Value.ownBlock] at e⟩, (((k1.trans k12).trans k23).trans k34).trans k45⟩
    · obtain rfl | rfl | rfl : q = 0 ∨ q = 1 ∨ q = 2 := by omega
      · exact hMB'.cell 0 _ rfl
      · exact hMB'.cell 1 _ rfl
      · exact hMB'.cell 2 _ rfl
    · obtain rfl | rfl | rfl : q = 0 ∨ q = 1 ∨ q = 2 := by omega
      · exact (hM0.down hs1).grew ((k23.trans k34).trans k45)
      · exact (hM1.down (by omega)).grew (k34.trans k45)
      · exact (hM2.down (by omega)).grew k45
    · obtain rfl | rfl | rfl : q = 0 ∨ q = 1 ∨ q = 2 := by omega
      all_goals obtain rfl | rfl | rfl : r = 0 ∨ r = 1 ∨ r = 2 := by omega
      all_goals first
        | exact hqr rfl
        | (have a1 := hL0 b h1; have a2 := hL1 b h2; omega)
        | (have a1 := hL0 b h1; have a2 := hL2 b h2; omega)
        | (have a1 := hL1 b h1; have a2 := hL0 b h2; omega)
        | (have a1 := hL1 b h1; have a2 := hL2 b h2; omega)
        | (have a1 := hL2 b h1; have a2 := hL0 b h2; omega)
        | (have a1 := hL2 b h1; have a2 := hL1 b h2; omega)
    · obtain rfl | rfl | rfl : q = 0 ∨ q = 1 ∨ q = 2 := by omega
      · have := hL0 b h1; omega
      · have := hL1 b h1; omega
      · have := hL2 b h1; omega
  clear hW5 hMB hMB' hbm hL0 hL1 hL2 hM0 hM1 hM2 k12 k23 k34 k45 k1 hs1 hs2 hs3 hs4 hbl
  go_wp2_with fail
  go_loopw [11, 12] (fun al i wr => ∃ (q : Nat) (X : Nat → Nat → Prop) (ph : Nat → Int × Ph) (rs : Lot), q ≤ 3 ∧ i = .int .i64 (q : Int) ∧ rs.length ≤ 15 * q ∧ B7 w wr bm (hdB zs) (sel g0 g1 g2) X ph rs al ∧ (∀ r, r < q → ph r = ((pB zs ys r 3).1, (pB zs ys r 3).2.1)) ∧ (∀ r, q ≤ r → ph r = (7, .fresh))) (fun _ i _ => 3 - (intOf i).toNat)
  case atStart => exact ⟨0, _, _, [], by omega, rfl, by simp, hB0, fun r h => by omega, fun _ _ => rfl⟩
  case round =>
    clear hB0
    obtain ⟨q, X, ph, rs, hq3, rfl, hrl, hB, hp1, hp2⟩ := hrel
    have HP1 := Lib.hid hp1
    have HP2 := Lib.hid hp2
    clear hp1 hp2
    by_cases hql : q < 3
    · have hMq := hB.mach q hql
      rw [HP2.out q (Nat.le_refl _)] at hMq
      have hcq := hB.cell q hql
      obtain ⟨gq, hgq⟩ : ∃ x, x = sel g0 g1 g2 q := ⟨_, rfl⟩
      rw [← hgq] at hMq hcq
      have HGQ := Lib.hid hgq
      clear hgq
      go_wp2_with fail
      refine (begin_any gq w.heap.size (X q) (hdB zs q) 7 .fresh wr hMq).mono ?_
      rw [begin_pB zs ys q hql, HGQ.out]
      rintro e w2 hs
      obtain ⟨X', B, u, rfl, hO, hBw, hXB, hB2, -⟩ := hB.step hql hs
      have hT2 := hB.told hql hO hBw hXB
      obtain ⟨Al', cl, rfl⟩ := hO.slice
      rw [show lnO (pB zs ys q 0).2.2 = 5 from rfl]
      have hpu : ∀ r, r ≠ q → updN ph q ((pB zs ys q 0).1, (pB zs ys q 0).2.1) r = ph r := fun r h => updN_off _ _ _ h
      have hpq : updN ph q ((pB zs ys q 0).1, (pB zs ys q 0).2.1) q = ((pB zs ys q 0).1, (pB zs ys q 0).2.1) := updN_at _ _ _
      rw [← HGQ.out]
      have HPU := Lib.hid (And.intro hpu hpq)
      clear hpu hpq hs hO hBw hXB hB hMq hcq
      have hqd : decide ((q : Int) < 3) = true := decide_eq_true (by omega)
      go_wp2_with fail
      clear hqd
      go_loopw [13, 14] (fun l i wr => ∃ (k : Nat) (X : Nat → Nat → Prop) (ph' : Nat → Int × Ph) (B : Nat) (Al : Option Addr) (cl : Nat), k ≤ 3 ∧ i = .int .i64 ((k : Int) + 1) ∧ l = .slice Al (lnO (pB zs ys q k).2.2) cl ∧ B7 w wr bm (hdB zs) (sel g0 g1 g2) X ph' rs u11 ∧ Tl wr B bm (hdB zs q) (sel g0 g1 g2) X rs l (pB zs ys q k).2.2 ∧ Hid (∀ r, r ≠ q → ph' r = ph r) ∧ Hid (ph' q = ((pB zs ys q k).1, (pB zs ys q k).2.1))) (fun _ i _ => 4 - (intOf i).toNat)
      case atStart => exact ⟨0, _, _, B, Al', cl, by omega, rfl, rfl, hB2, hT2, Lib.hid HPU.out.1, Lib.hid HPU.out.2⟩
      case round =>
        clear hB2 hT2 HPU
        obtain ⟨k, X3, ph3, B3, Al3, cl3, hk3, rfl, rfl, hB3, hT3, hu3, hq3'⟩ := hrel
        by_cases hlt : k < 3
        · have hk4 : (k : Int) + 1 ≤ 3 := by omega
          have hwf : (Lit.int .i64 ((k : Int) + 1)).wf = true := by
            obtain h | h | h : k = 0 ∨ k = 1 ∨ k = 2 := by omega
            all_goals subst h; rfl
          obtain ⟨nl, enl⟩ : ∃ nl, nl = lnO (pB zs ys q k).2.2 := ⟨_, rfl⟩
          rw [← enl]
          by_cases hq2 : q = 2
          · obtain ⟨ta, tb⟩ := test_eq (show (q : Int) = 2 by omega)
            have HQ2 := Lib.hid hq2
            clear hq2
            go_upto_region 22 with (fail)
            clear ta tb
            obtain ⟨W, hW⟩ : ∃ W, W = wr.alloc (.cells #[.int .i64 0, .int .i64 0] 23) := ⟨_, rfl⟩
            rw [← hW]
            have kW : Keeps None wr W := by rw [hW]; exact (Keeps.refl _ _).alloc _
            have hS := Blk.new wr 23 [.int .i64 0, .int .i64 0]
            rw [← hW] at hS
            have s0 := hS.cell 0 _ rfl
            have s1 := hS.cell 1 _ rfl
            have hAW := hA'.grew (hB3.keep.trans kW)
            have hBW := hB3.grew kW
            clear hW hS kW hB3 hT3
            go_cut [16] (fun x wx => ∃ mb Av cv, x = .pointer (some ⟨mb, 0, Option.none⟩) ∧ Blk wx mb 66 (msgL 11 false ((k : Int) + 1) true 3 1 7 1 3 1 0 0 0 (.slice Av ys.length cv)) ∧ W.heap.size ≤ mb ∧ Row .u8 5 wx W.heap.size (.slice Av ys.length cv) ys ∧ (∀ b, (Value.slice Av ys.length cv).ownBlock = some b → b ≠ mb) ∧ Keeps None W wx)
            case first =>
              refine start_ (ds := []) (S := (fun w' => Keeps None W w')) #[false, false, false, false, false, false, false, false] (by kernel_rfl) rfl rfl ((Keeps.refl _ _).drew) (fun hS0 => ?_)
              refine pure_ (i := 0) (N := some 75) (v := .int .i64 ((k : Int) + 1)) #[true, false, false, false, false, false, false, false] rfl rfl (by kernel_rfl) (fun _ _ _ h => h) (Or.inl ⟨wanted_none rfl, fun w => by rfl⟩) rfl ?_
              try simp only [Act.put, List.setIfInBounds_toArray, List.set_cons_zero, List.set_cons_succ]
              refine take_ (i := 1) (N := some 76) (v := .agg #[.int .i64 0, .int .i64 0]) #[true, true, false, false, false, false, false, false] rfl rfl (by kernel_rfl) (fun _ _ _ h => h) (Or.inl ⟨wanted_none rfl, by intro w' hSw; have q0 := hSw.cell s0 id; have q1 := hSw.cell s1 id; go_simp⟩) hS0 rfl ?_
              try simp only [Act.put, List.setIfInBounds_toArray, List.set_cons_zero, List.set_cons_succ]
              refine pure_ (i := 3) (N := some 78) (v := .slice A' ys.length cap') #[true, true, false, true, false, false, false, false] rfl rfl (by kernel_rfl) (fun _ _ _ h => h) (Or.inl ⟨wanted_none rfl, fun w => by rfl⟩) rfl ?_
              try simp only [Act.put, List.setIfInBounds_toArray, List.set_cons_zero, List.set_cons_succ]
              refine two_ (i := 2) (j := 6) (oi := ({ dst := some 77, op := Op.buildSlice 24 0 #[], type := 24, pos := "own.go:46", after := #[], guard := Option.none } : Oper)) (oj := ({ dst := some 16, op := Op.alloc 66, type := 0, pos := "own.go:46", after := #[], guard := Option.none } : Oper)) (Ni := some 77) (Nj := some 16) #[true, true, true, true, false, false, false, false] #[true, true, false, true, false, false, true, false] rfl rfl rfl rfl (by kernel_rfl) (by decide) (by decide) ?_ ?_
              · intro KK hKK
                obtain ⟨EB, hEB⟩ : ∃ x, x = W.drew.heap.size := ⟨_, rfl⟩
                obtain ⟨WE, hWE⟩ : ∃ x, x = W.drew.alloc (.cells #[] 5) := ⟨_, rfl⟩
                have kE : Keeps None W.drew WE := by rw [hWE]; exact (Keeps.refl _ _).alloc _
                have hE0 := Blk.new W.drew 5 []
                rw [← hEB] at hE0
                have hE : Row .u8 5 WE W.heap.size (.slice (some ⟨EB, 0, Option.none⟩) 0 0) [] := by rw [hWE]; exact Row.of_blk (zs := []) hE0 (by have := hS0.size; omega) (by unfold maxLen; simp)
                have hElt : EB < WE.heap.size := (hE.lt EB rfl).2
                refine value_ (wanted_none rfl) rfl (w1 := WE) (v := .slice (some ⟨EB, 0, Option.none⟩) 0 0) (by rw [hWE, hEB]; go_simp) (hKK.out _ _ (hS0.trans kE) (fun hS1 => ?_))
                try simp only [Act.put, List.setIfInBounds_toArray, List.set_cons_zero, List.set_cons_succ]
                refine two_ (i := 4) (j := 6) (oi := ({ dst := some 79, op := Op.call { callee := Callee.builtin Builtin.append, args := #[Operand.tmp 77, Operand.tmp 78], argTypes := #[24, 24] }, type := 24, pos := "own.go:46", after := #[{ on := 2, ground := Ground.data }, { on := 3, ground := Ground.data }], guard := Option.none } : Oper)) (oj := ({ dst := some 16, op := Op.alloc 66, type := 0, pos := "own.go:46", after := #[], guard := Option.none } : Oper)) (Ni := some 79) (Nj := some 16) #[true, true, true, true, true, false, false, false] #[true, true, true, true, false, false, true, false] rfl rfl rfl rfl (by kernel_rfl) (by decide) (by decide) ?_ ?_
                · intro KK hKK
                  refine step_append_row _ (wanted_none rfl) rfl (.tmp 77) (.tmp 78) 24 rfl W.heap.size 5 i0 (.int .u8 0) 1 1 Try.underlying24 hi hz0 hz1 hz2 rfl (by decide) (.slice (some ⟨EB, 0, Option.none⟩) 0 0) 0 [] rfl hE.raw A' ys.length cap' (ys.map (Value.int .u8)) rfl (by simp) hcap' (hAW.grew hS1).src (ints_oneCell _ ys) (by unfold maxLen; omega) (by omega) (by have := hS1.size; omega) ?_
                  intro v' wA hown hkA hloc
                  have hR : Row .u8 5 wA W.heap.size v' ([] ++ ys) := Row.of_append rfl rfl hown
                  have hEs := (hE.lt EB rfl).1
                  have hEs2 := (hE.lt EB rfl).2
                  obtain ⟨Av, cv, ev⟩ := hR.slice
                  obtain rfl : v' = .slice Av ys.length cv := ev.trans (by simp)
                  simp only [List.nil_append] at hR
                  refine hKK.out _ _ (hS1.andThen hkA (fun i hi e => by have := OwnB.is e; omega)) (fun hS2 => ?_)
                  try simp only [Act.put, List.setIfInBounds_toArray, List.set_cons_zero, List.set_cons_succ]
                  refine two_ (i := 5) (j := 6) (oi := ({ dst := some 80, op := Op.call { callee := Callee.value (Operand.func 19), args := #[Operand.tmp 75, Operand.const (Value.int IntKind.i64 7), Operand.tmp 76, Operand.tmp 79], argTypes := #[3, 3, 23, 24] }, type := 66, pos := "own.go:46", after := #[{ on := 0, ground := Ground.data }, { on := 1, ground := Ground.data }, { on := 4, ground := Ground.data }, { on := 4, ground := Ground.chain }], guard := Option.none } : Oper)) (oj := ({ dst := some 16, op := Op.alloc 66, type := 0, pos := "own.go:46", after := #[], guard := Option.none } : Oper)) (Ni := some 80) (Nj := some 16) #[true, true, true, true, true, true, false, false] #[true, true, true, true, true, false, true, false] rfl rfl rfl rfl (by kernel_rfl) (by decide) (by decide) ?_ ?_
                  · intro KK hKK
                    refine goes_ Try.func19 (by kernel_rfl) rfl #[.int .i64 ((k : Int) + 1), .int .i64 7, .agg #[.int .i64 0, .int .i64 0], .slice Av ys.length cv] (wanted_none rfl) rfl rfl (by simp [Act.eval]) ?_
                    refine (value_any ((k : Int) + 1) 7 0 0 Av ys.length cv _).mono ?_
                    rintro e wV ⟨rfl, hkV⟩
                    have hR := hR.grew hkV
                    refine ⟨_, rfl, hKK.out _ _ (hS2.trans hkV) (fun hS3 => ?_)⟩
                    try simp only [Act.put, List.setIfInBounds_toArray, List.set_cons_zero, List.set_cons_succ]
                    refine one_ (i := 6) (oi := ({ dst := some 16, op := Op.alloc 66, type := 0, pos := "own.go:46", after := #[], guard := Option.none } : Oper)) (N := some 16) #[true, true, true, true, true, true, true, false] rfl rfl (by kernel_rfl) (by decide) ?_
                    intro KK hKK
                    obtain ⟨mb, hmb⟩ : ∃ x, x = wV.heap.size := ⟨_, rfl⟩
                    obtain ⟨WM, hWM⟩ : ∃ x, x = wV.alloc (.cells (msgL 0 false 0 false 0 0 0 0 0 0 0 0 0 (.slice Option.none 0 0)).toArray 66) := ⟨_, rfl⟩
                    have kM : Keeps None wV WM := by rw [hWM]; exact (Keeps.refl _ _).alloc _
                    have hM : Blk WM mb 66 (msgL 0 false 0 false 0 0 0 0 0 0 0 0 0 (.slice Option.none 0 0)) := by rw [hWM, hmb]; exact Blk.new _ _ _
                    have hMge : W.heap.size ≤ mb := by have := hS3.size; omega
                    have hMlt := hM.lt
                    have hvm : ∀ b, (Value.slice Av ys.length cv).ownBlock = some b → b ≠ mb := fun b e => by have := (hR.lt b e).2; omega
                    have hR := hR.grew kM
                    refine value_ (wanted_none rfl) rfl (w1 := WM) (v := .pointer (some ⟨mb, 0, Option.none⟩)) (by rw [hWM, hmb]; exact exec_alloc_msg rfl) (hKK.out _ _ (hS3.trans kM) (fun hS4 => ?_))
                    try simp only [Act.put, List.setIfInBounds_toArray, List.set_cons_zero, List.set_cons_succ]
                    refine one_ (i := 7) (oi := ({ dst := Option.none, op := Op.store 66 (Operand.tmp 16) (Operand.tmp 80), type := 0, pos := "own.go:46", after := #[{ on := 6, ground := Ground.data }, { on := 5, ground := Ground.data }, { on := 5, ground := Ground.chain }, { on := 0, ground := Ground.phase }, { on := 1, ground := Ground.phase }, { on := 2, ground := Ground.phase }, { on := 3, ground := Ground.phase }, { on := 4, ground := Ground.phase }, { on := 5, ground := Ground.phase }, { on := 6, ground := Ground.phase }], guard := Option.none } : Oper)) (N := Option.none) #[true, true, true, true, true, true, true, true] rfl rfl (by kernel_rfl) (by decide) ?_
                    intro KK hKK
                    refine skip_ (wanted_none rfl) rfl (w1 := WM.setRow mb (msgL 11 false ((k : Int) + 1) true 3 1 7 1 3 1 0 0 0 (.slice Av ys.length cv)).toArray) (exec_store_msg (.tmp 16) (.tmp 80) rfl mb rfl (msgL 11 false ((k : Int) + 1) true 3 1 7 1 3 1 0 0 0 (.slice Av ys.length cv)) (msgL 0 false 0 false 0 0 0 0 0 0 0 0 0 (.slice Option.none 0 0)) rfl hM rfl rfl (by simp [msgL, Value.oneCell'])) (hKK.out _ _ (hS4.andThen ((Keeps.refl (One mb) _).setRow _ _ (fun _ => rfl)) (fun i hi e => by simp only [One] at e; omega)) (fun hS5 => ?_))
                    try simp only [Act.put, List.setIfInBounds_toArray, List.set_cons_zero, List.set_cons_succ]
                    refine done_ (by kernel_rfl) ?_
                    go_wp2_with fail
                    go_meet
                    exact ⟨mb, Av, cv, rfl, hM.setRow _, hMge, hR.keeps ((Keeps.refl (One mb) _).setRow _ _ (fun _ => rfl)) (fun b e f => hvm b e f), hvm, hS5⟩
                  · intro KK hKK
                    obtain ⟨mb, hmb⟩ : ∃ x, x = wA.heap.size := ⟨_, rfl⟩
                    obtain ⟨WM, hWM⟩ : ∃ x, x = wA.alloc (.cells (msgL 0 false 0 false 0 0 0 0 0 0 0 0 0 (.slice Option.none 0 0)).toArray 66) := ⟨_, rfl⟩
                    have kM : Keeps None wA WM := by rw [hWM]; exact (Keeps.refl _ _).alloc _
                    have hM : Blk WM mb 66 (msgL 0 false 0 false 0 0 0 0 0 0 0 0 0 (.slice Option.none 0 0)) := by rw [hWM, hmb]; exact Blk.new _ _ _
                    have hMge : W.heap.size ≤ mb := by have := hS2.size; omega
                    have hMlt := hM.lt
                    have hvm : ∀ b, (Value.slice Av ys.length cv).ownBlock = some b → b ≠ mb := fun b e => by have := (hR.lt b e).2; omega
                    have hR := hR.grew kM
                    refine value_ (wanted_none rfl) rfl (w1 := WM) (v := .pointer (some ⟨mb, 0, Option.none⟩)) (by rw [hWM, hmb]; exact exec_alloc_msg rfl) (hKK.out _ _ (hS2.trans kM) (fun hS6 => ?_))
                    try simp only [Act.put, List.setIfInBounds_toArray, List.set_cons_zero, List.set_cons_succ]
                    refine one_ (i := 5) (oi := ({ dst := some 80, op := Op.call { callee := Callee.value (Operand.func 19), args := #[Operand.tmp 75, Operand.const (Value.int IntKind.i64 7), Operand.tmp 76, Operand.tmp 79], argTypes := #[3, 3, 23, 24] }, type := 66, pos := "own.go:46", after := #[{ on := 0, ground := Ground.data }, { on := 1, ground := Ground.data }, { on := 4, ground := Ground.data }, { on := 4, ground := Ground.chain }], guard := Option.none } : Oper)) (N := some 80) #[true, true, true, true, true, true, true, false] rfl rfl (by kernel_rfl) (by decide) ?_
                    intro KK hKK
                    refine goes_ Try.func19 (by kernel_rfl) rfl #[.int .i64 ((k : Int) + 1), .int .i64 7, .agg #[.int .i64 0, .int .i64 0], .slice Av ys.length cv] (wanted_none rfl) rfl rfl (by simp [Act.eval]) ?_
                    refine (value_any ((k : Int) + 1) 7 0 0 Av ys.length cv _).mono ?_
                    rintro e wV ⟨rfl, hkV⟩
                    have hR := hR.grew hkV
                    have hM := hM.grew hkV
                    refine ⟨_, rfl, hKK.out _ _ (hS6.trans hkV) (fun hS7 => ?_)⟩
                    try simp only [Act.put, List.setIfInBounds_toArray, List.set_cons_zero, List.set_cons_succ]
                    refine one_ (i := 7) (oi := ({ dst := Option.none, op := Op.store 66 (Operand.tmp 16) (Operand.tmp 80), type := 0, pos := "own.go:46", after := #[{ on := 6, ground := Ground.data }, { on := 5, ground := Ground.data }, { on := 5, ground := Ground.chain }, { on := 0, ground := Ground.phase }, { on := 1, ground := Ground.phase }, { on := 2, ground := Ground.phase }, { on := 3, ground := Ground.phase }, { on := 4, ground := Ground.phase }, { on := 5, ground := Ground.phase }, { on := 6, ground := Ground.phase }], guard := Option.none } : Oper)) (N := Option.none) #[true, true, true, true, true, true, true, true] rfl rfl (by kernel_rfl) (by decide) ?_
                    intro KK hKK
                    refine skip_ (wanted_none rfl) rfl (w1 := wV.setRow mb (msgL 11 false ((k : Int) + 1) true 3 1 7 1 3 1 0 0 0 (.slice Av ys.length cv)).toArray) (exec_store_msg (.tmp 16) (.tmp 80) rfl mb rfl (msgL 11 false ((k : Int) + 1) true 3 1 7 1 3 1 0 0 0 (.slice Av ys.length cv)) (msgL 0 false 0 false 0 0 0 0 0 0 0 0 0 (.slice Option.none 0 0)) rfl hM rfl rfl (by simp [msgL, Value.oneCell'])) (hKK.out _ _ (hS7.andThen ((Keeps.refl (One mb) _).setRow _ _ (fun _ => rfl)) (fun i hi e => by simp only [One] at e; omega)) (fun hS8 => ?_))
                    try simp only [Act.put, List.setIfInBounds_toArray, List.set_cons_zero, List.set_cons_succ]
                    refine done_ (by kernel_rfl) ?_
                    go_wp2_with fail
                    go_meet
                    exact ⟨mb, Av, cv, rfl, hM.setRow _, hMge, hR.keeps ((Keeps.refl (One mb) _).setRow _ _ (fun _ => rfl)) (fun b e f => hvm b e f), hvm, hS8⟩
                · intro KK hKK
                  obtain ⟨mb, hmb⟩ : ∃ x, x = WE.heap.size := ⟨_, rfl⟩
                  obtain ⟨WM, hWM⟩ : ∃ x, x = WE.alloc (.cells (msgL 0 false 0 false 0 0 0 0 0 0 0 0 0 (.slice Option.none 0 0)).toArray 66) := ⟨_, rfl⟩
                  have kM : Keeps None WE WM := by rw [hWM]; exact (Keeps.refl _ _).alloc _
                  have hM : Blk WM mb 66 (msgL 0 false 0 false 0 0 0 0 0 0 0 0 0 (.slice Option.none 0 0)) := by rw [hWM, hmb]; exact Blk.new _ _ _
                  have hMge : W.heap.size ≤ mb := by have := hS1.size; omega
                  have hMlt := hM.lt
                  have hE := hE.grew kM
                  have hME : EB ≠ mb := by omega
                  refine value_ (wanted_none rfl) rfl (w1 := WM) (v := .pointer (some ⟨mb, 0, Option.none⟩)) (by rw [hWM, hmb]; exact exec_alloc_msg rfl) (hKK.out _ _ (hS1.trans kM) (fun hS9 => ?_))
                  try simp only [Act.put, List.setIfInBounds_toArray, List.set_cons_zero, List.set_cons_succ]
                  refine one_ (i := 4) (oi := ({ dst := some 79, op := Op.call { callee := Callee.builtin Builtin.append, args := #[Operand.tmp 77, Operand.tmp 78], argTypes := #[24, 24] }, type := 24, pos := "own.go:46", after := #[{ on := 2, ground := Ground.data }, { on := 3, ground := Ground.data }], guard := Option.none } : Oper)) (N := some 79) #[true, true, true, true, true, false, true, false] rfl rfl (by kernel_rfl) (by decide) ?_
                  intro KK hKK
                  refine step_append_row _ (wanted_none rfl) rfl (.tmp 77) (.tmp 78) 24 rfl W.heap.size 5 i0 (.int .u8 0) 1 1 Try.underlying24 hi hz0 hz1 hz2 rfl (by decide) (.slice (some ⟨EB, 0, Option.none⟩) 0 0) 0 [] rfl hE.raw A' ys.length cap' (ys.map (Value.int .u8)) rfl (by simp) hcap' (hAW.grew hS9).src (ints_oneCell _ ys) (by unfold maxLen; omega) (by omega) (by have := hS9.size; omega) ?_
                  intro v' wA hown hkA hloc
                  have hR : Row .u8 5 wA W.heap.size v' ([] ++ ys) := Row.of_append rfl rfl hown
                  have hEs := (hE.lt EB rfl).1
                  have hEs2 := (hE.lt EB rfl).2
                  have hvm : ∀ b, v'.ownBlock = some b → b ≠ mb := fun b e => hloc.elim (fun h => by rw [h] at e; cases e; exact hME) (fun h => by rw [h] at e; have := hM.lt; have := Option.some.inj e; omega)
                  have hM := hM.keeps hkA (fun e => hME (OwnB.is e).symm)
                  obtain ⟨Av, cv, ev⟩ := hR.slice
                  obtain rfl : v' = .slice Av ys.length cv := ev.trans (by simp)
                  simp only [List.nil_append] at hR
                  refine hKK.out _ _ (hS9.andThen hkA (fun i hi e => by have := OwnB.is e; omega)) (fun hS10 => ?_)
                  try simp only [Act.put, List.setIfInBounds_toArray, List.set_cons_zero, List.set_cons_succ]
                  refine one_ (i := 5) (oi := ({ dst := some 80, op := Op.call { callee := Callee.value (Operand.func 19), args := #[Operand.tmp 75, Operand.const (Value.int IntKind.i64 7), Operand.tmp 76, Operand.tmp 79], argTypes := #[3, 3, 23, 24] }, type := 66, pos := "own.go:46", after := #[{ on := 0, ground := Ground.data }, { on := 1, ground := Ground.data }, { on := 4, ground := Ground.data }, { on := 4, ground := Ground.chain }], guard := Option.none } : Oper)) (N := some 80) #[true, true, true, true, true, true, true, false] rfl rfl (by kernel_rfl) (by decide) ?_
                  intro KK hKK
                  refine goes_ Try.func19 (by kernel_rfl) rfl #[.int .i64 ((k : Int) + 1), .int .i64 7, .agg #[.int .i64 0, .int .i64 0], .slice Av ys.length cv] (wanted_none rfl) rfl rfl (by simp [Act.eval]) ?_
                  refine (value_any ((k : Int) + 1) 7 0 0 Av ys.length cv _).mono ?_
                  rintro e wV ⟨rfl, hkV⟩
                  have hR := hR.grew hkV
                  have hM := hM.grew hkV
                  refine ⟨_, rfl, hKK.out _ _ (hS10.trans hkV) (fun hS11 => ?_)⟩
                  try simp only [Act.put, List.setIfInBounds_toArray, List.set_cons_zero, List.set_cons_succ]
                  refine one_ (i := 7) (oi := ({ dst := Option.none, op := Op.store 66 (Operand.tmp 16) (Operand.tmp 80), type := 0, pos := "own.go:46", after := #[{ on := 6, ground := Ground.data }, { on := 5, ground := Ground.data }, { on := 5, ground := Ground.chain }, { on := 0, ground := Ground.phase }, { on := 1, ground := Ground.phase }, { on := 2, ground := Ground.phase }, { on := 3, ground := Ground.phase }, { on := 4, ground := Ground.phase }, { on := 5, ground := Ground.phase }, { on := 6, ground := Ground.phase }], guard := Option.none } : Oper)) (N := Option.none) #[true, true, true, true, true, true, true, true] rfl rfl (by kernel_rfl) (by decide) ?_
                  intro KK hKK
                  refine skip_ (wanted_none rfl) rfl (w1 := wV.setRow mb (msgL 11 false ((k : Int) + 1) true 3 1 7 1 3 1 0 0 0 (.slice Av ys.length cv)).toArray) (exec_store_msg (.tmp 16) (.tmp 80) rfl mb rfl (msgL 11 false ((k : Int) + 1) true 3 1 7 1 3 1 0 0 0 (.slice Av ys.length cv)) (msgL 0 false 0 false 0 0 0 0 0 0 0 0 0 (.slice Option.none 0 0)) rfl hM rfl rfl (by simp [msgL, Value.oneCell'])) (hKK.out _ _ (hS11.andThen ((Keeps.refl (One mb) _).setRow _ _ (fun _ => rfl)) (fun i hi e => by simp only [One] at e; omega)) (fun hS12 => ?_))
                  try simp only [Act.put, List.setIfInBounds_toArray, List.set_cons_zero, List.set_cons_succ]
                  refine done_ (by kernel_rfl) ?_
                  go_wp2_with fail
                  go_meet
                  exact ⟨mb, Av, cv, rfl, hM.setRow _, hMge, hR.keeps ((Keeps.refl (One mb) _).setRow _ _ (fun _ => rfl)) (fun b e f => hvm b e f), hvm, hS12⟩
              · intro KK hKK
                obtain ⟨mb, hmb⟩ : ∃ x, x = W.drew.heap.size := ⟨_, rfl⟩
                obtain ⟨WM, hWM⟩ : ∃ x, x = W.drew.alloc (.cells (msgL 0 false 0 false 0 0 0 0 0 0 0 0 0 (.slice Option.none 0 0)).toArray 66) := ⟨_, rfl⟩
                have kM : Keeps None W.drew WM := by rw [hWM]; exact (Keeps.refl _ _).alloc _
                have hM : Blk WM mb 66 (msgL 0 false 0 false 0 0 0 0 0 0 0 0 0 (.slice Option.none 0 0)) := by rw [hWM, hmb]; exact Blk.new _ _ _
                have hMge : W.heap.size ≤ mb := by have := hS0.size; omega
                have hMlt := hM.lt
                refine value_ (wanted_none rfl) rfl (w1 := WM) (v := .pointer (some ⟨mb, 0, Option.none⟩)) (by rw [hWM, hmb]; exact exec_alloc_msg rfl) (hKK.out _ _ (hS0.trans kM) (fun hS13 => ?_))
                try simp only [Act.put, List.setIfInBounds_toArray, List.set_cons_zero, List.set_cons_succ]
                refine one_ (i := 2) (oi := ({ dst := some 77, op := Op.buildSlice 24 0 #[], type := 24, pos := "own.go:46", after := #[], guard := Option.none } : Oper)) (N := some 77) #[true, true, true, true, false, false, true, false] rfl rfl (by kernel_rfl) (by decide) ?_
                intro KK hKK
                obtain ⟨EB, hEB⟩ : ∃ x, x = WM.heap.size := ⟨_, rfl⟩
                obtain ⟨WE, hWE⟩ : ∃ x, x = WM.alloc (.cells #[] 5) := ⟨_, rfl⟩
                have kE : Keeps None WM WE := by rw [hWE]; exact (Keeps.refl _ _).alloc _
                have hE0 := Blk.new WM 5 []
                rw [← hEB] at hE0
                have hE : Row .u8 5 WE W.heap.size (.slice (some ⟨EB, 0, Option.none⟩) 0 0) [] := by rw [hWE]; exact Row.of_blk (zs := []) hE0 (by have := hS13.size; omega) (by unfold maxLen; simp)
                have hElt : EB < WE.heap.size := (hE.lt EB rfl).2
                have hM := hM.grew kE
                have hME : EB ≠ mb := by have := hMlt; omega
                refine value_ (wanted_none rfl) rfl (w1 := WE) (v := .slice (some ⟨EB, 0, Option.none⟩) 0 0) (by rw [hWE, hEB]; go_simp) (hKK.out _ _ (hS13.trans kE) (fun hS14 => ?_))
                try simp only [Act.put, List.setIfInBounds_toArray, List.set_cons_zero, List.set_cons_succ]
                refine one_ (i := 4) (oi := ({ dst := some 79, op := Op.call { callee := Callee.builtin Builtin.append, args := #[Operand.tmp 77, Operand.tmp 78], argTypes := #[24, 24] }, type := 24, pos := "own.go:46", after := #[{ on := 2, ground := Ground.data }, { on := 3, ground := Ground.data }], guard := Option.none } : Oper)) (N := some 79) #[true, true, true, true, true, false, true, false] rfl rfl (by kernel_rfl) (by decide) ?_
                intro KK hKK
                refine step_append_row _ (wanted_none rfl) rfl (.tmp 77) (.tmp 78) 24 rfl W.heap.size 5 i0 (.int .u8 0) 1 1 Try.underlying24 hi hz0 hz1 hz2 rfl (by decide) (.slice (some ⟨EB, 0, Option.none⟩) 0 0) 0 [] rfl hE.raw A' ys.length cap' (ys.map (Value.int .u8)) rfl (by simp) hcap' (hAW.grew hS14).src (ints_oneCell _ ys) (by unfold maxLen; omega) (by omega) (by have := hS14.size; omega) ?_
                intro v' wA hown hkA hloc
                have hR : Row .u8 5 wA W.heap.size v' ([] ++ ys) := Row.of_append rfl rfl hown
                have hEs := (hE.lt EB rfl).1
                have hEs2 := (hE.lt EB rfl).2
                have hvm : ∀ b, v'.ownBlock = some b → b ≠ mb := fun b e => hloc.elim (fun h => by rw [h] at e; cases e; exact hME) (fun h => by rw [h] at e; have := hM.lt; have := Option.some.inj e; omega)
                have hM := hM.keeps hkA (fun e => hME (OwnB.is e).symm)
                obtain ⟨Av, cv, ev⟩ := hR.slice
                obtain rfl : v' = .slice Av ys.length cv := ev.trans (by simp)
                simp only [List.nil_append] at hR
                refine hKK.out _ _ (hS14.andThen hkA (fun i hi e => by have := OwnB.is e; omega)) (fun hS15 => ?_)
                try simp only [Act.put, List.setIfInBounds_toArray, List.set_cons_zero, List.set_cons_succ]
                refine one_ (i := 5) (oi := ({ dst := some 80, op := Op.call { callee := Callee.value (Operand.func 19), args := #[Operand.tmp 75, Operand.const (Value.int IntKind.i64 7), Operand.tmp 76, Operand.tmp 79], argTypes := #[3, 3, 23, 24] }, type := 66, pos := "own.go:46", after := #[{ on := 0, ground := Ground.data }, { on := 1, ground := Ground.data }, { on := 4, ground := Ground.data }, { on := 4, ground := Ground.chain }], guard := Option.none } : Oper)) (N := some 80) #[true, true, true, true, true, true, true, false] rfl rfl (by kernel_rfl) (by decide) ?_
                intro KK hKK
                refine goes_ Try.func19 (by kernel_rfl) rfl #[.int .i64 ((k : Int) + 1), .int .i64 7, .agg #[.int .i64 0, .int .i64 0], .slice Av ys.length cv] (wanted_none rfl) rfl rfl (by simp [Act.eval]) ?_
                refine (value_any ((k : Int) + 1) 7 0 0 Av ys.length cv _).mono ?_
                rintro e wV ⟨rfl, hkV⟩
                have hR := hR.grew hkV
                have hM := hM.grew hkV
                refine ⟨_, rfl, hKK.out _ _ (hS15.trans hkV) (fun hS16 => ?_)⟩
                try simp only [Act.put, List.setIfInBounds_toArray, List.set_cons_zero, List.set_cons_succ]
                refine one_ (i := 7) (oi := ({ dst := Option.none, op := Op.store 66 (Operand.tmp 16) (Operand.tmp 80), type := 0, pos := "own.go:46", after := #[{ on := 6, ground := Ground.data }, { on := 5, ground := Ground.data }, { on := 5, ground := Ground.chain }, { on := 0, ground := Ground.phase }, { on := 1, ground := Ground.phase }, { on := 2, ground := Ground.phase }, { on := 3, ground := Ground.phase }, { on := 4, ground := Ground.phase }, { on := 5, ground := Ground.phase }, { on := 6, ground := Ground.phase }], guard := Option.none } : Oper)) (N := Option.none) #[true, true, true, true, true, true, true, true] rfl rfl (by kernel_rfl) (by decide) ?_
                intro KK hKK
                refine skip_ (wanted_none rfl) rfl (w1 := wV.setRow mb (msgL 11 false ((k : Int) + 1) true 3 1 7 1 3 1 0 0 0 (.slice Av ys.length cv)).toArray) (exec_store_msg (.tmp 16) (.tmp 80) rfl mb rfl (msgL 11 false ((k : Int) + 1) true 3 1 7 1 3 1 0 0 0 (.slice Av ys.length cv)) (msgL 0 false 0 false 0 0 0 0 0 0 0 0 0 (.slice Option.none 0 0)) rfl hM rfl rfl (by simp [msgL, Value.oneCell'])) (hKK.out _ _ (hS16.andThen ((Keeps.refl (One mb) _).setRow _ _ (fun _ => rfl)) (fun i hi e => by simp only [One] at e; omega)) (fun hS17 => ?_))
                try simp only [Act.put, List.setIfInBounds_toArray, List.set_cons_zero, List.set_cons_succ]
                refine done_ (by kernel_rfl) ?_
                go_wp2_with fail
                go_meet
                exact ⟨mb, Av, cv, rfl, hM.setRow _, hMge, hR.keeps ((Keeps.refl (One mb) _).setRow _ _ (fun _ => rfl)) (fun b e f => hvm b e f), hvm, hS17⟩
            case rest =>
              obtain ⟨mb, Av, cv, rfl, hM, hMge, hR, hvm, hkx⟩ := hcut
              have hBx := hBW.grew hkx
              have hPQ : takeF (hdB zs q) (ph3 q).1 (ph3 q).2 11 ((k : Int) + 1) (0, 0) ys (fitsF (hdB zs q) (ph3 q).1 false true 3 1 7 1 3 1 0) = pB zs ys q (k + 1) := by
                have := take_pB zs ys q hql k hlt
                rw [hq3'.out]
                rwa [show stB q ((k : Int) + 1) = (0, 0) from by unfold stB; rw [if_pos HQ2.out]] at this
              have hMq := hBx.mach q hql
              have hcq := hBx.cell q hql
              rw [← HGQ.out] at hMq hcq
              clear s0 s1
              have hkd : Keeps None wc wc.drew := (Keeps.refl None wc).drew
              go_upto_region 23 with (fail)
              refine wp_region_still_tail 5 (by kernel_rfl) (by kernel_rfl) ?_
              simp only [List.take_succ_cons, List.take_zero, List.drop_succ_cons, List.drop_zero]
              still_step
              still_step
              still_step
              still_step
              refine still_load_msg rfl (.tmp 16) rfl mb rfl (msgL 11 false ((k : Int) + 1) true 3 1 7 1 3 1 0 0 0 (.slice Av ys.length cv)) (hM.grew hkd) rfl ?_
              refine wpStill_nil ?_
              change wpList _ _ _ _ _ wc.drew
              simp only [Act.put, List.setIfInBounds_toArray, List.set_cons_zero, List.set_cons_succ, msgL]
              have hMd := hM.grew hkd
              have hRd' := hR.grew hkd
              have hBd := hBx.grew hkd
              have hMqd := hMq.grew hkd
              obtain ⟨wd, hwd⟩ : ∃ x, x = wc.drew := ⟨_, rfl⟩
              rw [← hwd] at hMd hRd' hBd hMqd ⊢
              have hWl := Lib.hid (fun b (hb : X3 q b ∨ b = sel g0 g1 g2 q) => (hBW.lt hql hb).2)
              clear hwd hkd hM hR hBx hMq hcq
              go_wp2_with fail
              refine (take_any gq w.heap.size (X3 q) (hdB zs q) (ph3 q).1 (ph3 q).2 11 false ((k : Int) + 1) true 3 1 7 1 3 1 0 0 0 0 0 Av cv ys 0 0 0 ⟨#[]⟩ 0 0 0 0 0 0 Option.none 0 0 Option.none 0 0 Option.none 0 0 false wd hMqd (Nums.row hRd').1 hr' hwf).mono ?_
              rw [hPQ, HGQ.out]
              rintro e w4 hs
              obtain ⟨X4, B4, u4, rfl, hO4, hB4w, hXB4, hB4, hk4', hn4⟩ := hBd.step hql hs
              have hT4 := hBd.told hql hO4 hB4w hXB4
              obtain ⟨A4, c4, rfl⟩ := hO4.slice
              rw [← HGQ.out]
              have hR4 := hRd'.keeps hk4' (fun b e f => by have := (hRd'.lt b e).1; have := hWl.out b f; omega)
              have hM4m := hMd.keeps hk4' (fun f => by have := hWl.out mb f; omega)
              have hvlt := fun b (e : (Value.slice Av ys.length cv).ownBlock = some b) => hRd'.lt b e
              have hoffX : ∀ r, r < 3 → ∀ b, (updN X3 q X4 r b ∨ b = sel g0 g1 g2 r) → ¬ OwnB (.slice Av ys.length cv) b := fun r hr3 b hb f => by
                have hv := hvlt b f
                by_cases hrq : r = q
                · subst hrq
                  rw [updN_at] at hb
                  rcases hb with hb | hb
                  · rcases hn4 b hb with h | h
                    · have := (hBW.lt hr3 (.inl h)).2; omega
                    · omega
                  · have := (hBW.lt hr3 (.inr hb)).2; omega
                · rw [updN_off _ _ _ hrq] at hb
                  have := (hBW.lt hr3 hb).2; omega
              have hoffM : ∀ b, OwnM rs b → ¬ OwnB (.slice Av ys.length cv) b := fun b hb f => by
                have := (hBW.all.manyLt hb).2; have := hvlt b f; omega
              have hoffA : ∀ b, u11.ownBlock = some b → ¬ OwnB (.slice Av ys.length cv) b := fun b hb f => by
                have := (World.ownsRow.lt hBW.all.all b hb).2; have := hvlt b f; omega
              have hoffB : ¬ OwnB (.slice Av ys.length cv) bm := fun f => by have := hBW.bml.2; have := hvlt bm f; omega
              have hgeW := hBW.keep.size
              have hoffT : ∀ b, B4 ≤ b → ¬ OwnB (.slice Av ys.length cv) b := fun b hb f => by have := hvlt b f; omega
              obtain ⟨ln', eln⟩ : ∃ n, n = lnO (pB zs ys q (k + 1)).2.2 := ⟨_, rfl⟩
              rw [← eln]
              have HEL := Lib.hid eln
              have HFT := Lib.hid (show Tl w4 B4 bm (hdB zs q) (sel g0 g1 g2) (updN X3 q X4) rs (.slice A4 ln' c4) (pB zs ys q (k + 1)).2.2 from eln ▸ hT4)
              have HB4 := Lib.hid hB4
              clear eln hT4 hO4 hB4 hXB4 hk4' hMqd hBd hs hn4 hRd' hMd hPQ
              go_wp2_with fail
              go_loopw [17] (fun i wr => ∃ (j : Nat) (xs : List Int), j ≤ ys.length ∧ i = .int .i64 (j : Int) ∧ xs.length = ys.length ∧ Row .u8 5 wr W.heap.size (.slice Av ys.length cv) xs ∧ Blk wr mb 66 (msgL 11 false ((k : Int) + 1) true 3 1 7 1 3 1 0 0 0 (.slice Av ys.length cv)) ∧ Keeps (OwnB (.slice Av ys.length cv)) w4 wr) (fun i _ => ys.length - (intOf i).toNat)
              case atStart => exact ⟨0, ys, Nat.zero_le _, rfl, rfl, hR4, hM4m, Keeps.refl _ _⟩
              case round =>
                clear hR4 hM4m
                obtain ⟨j, xs, hj, rfl, hyl, hRj, hMj, hkj⟩ := hrel
                have m15 := hMj.cell 15 _ rfl
                by_cases hjl : j < ys.length
                · obtain ⟨q', c', e2, -⟩ := hRj.pos (by omega)
                  rw [hyl] at e2
                  cases e2
                  obtain ⟨x, b', o', e3, hx, -⟩ := (Nums.row hRj).1.get j (by omega)
                  cases e3
                  rw [Nat.zero_add] at hx
                  have hf := hRj.free j
                  go_wp2_with fail
                  go_still_tail 10, (by kernel_rfl)
                  change wpList _ _ _ _ _ wr.drew
                  obtain ⟨wq, hwq⟩ : ∃ wq, wq = wr.drew := ⟨_, rfl⟩
                  have kd : Keeps None wr wq := by rw [hwq]; exact (Keeps.refl _ _).drew
                  rw [← hwq]
                  have hRq := hRj.grew kd
                  have hMq := hMj.grew kd
                  have hkq := hkj.trans kd.of_none
                  clear hwq hRj hMj hkj hx hf m15 kd
                  have hf := hRq.free j
                  obtain ⟨z, hz⟩ := hRq.has j (by omega)
                  go_wp2
                  go_roundw
                  case rel => exact ⟨j + 1, _, by omega, by go_num, by rw [List.length_set]; exact hyl, hRq.store hyl j _, hMq.keeps ((Keeps.refl (One q') _).setCell _ _ (fun _ => rfl)) (fun e => hvm q' rfl e.symm), hkq.setCell _ _ (fun _ => rfl)⟩
                  case measure => simp [intOf]; omega
                · obtain rfl : j = ys.length := by omega
                  go_wp2_with fail
                  go_roundw
                  case rel =>
                    refine ⟨k + 1, updN X3 q X4, updN ph3 q ((pB zs ys q (k + 1)).1, (pB zs ys q (k + 1)).2.1), B4, A4, c4, by omega, by go_num, by rw [HEL.out], HB4.out.keeps hkj hoffX hoffB hoffM hoffA (fun b f _ => ?_), HFT.out.keeps hkj hoffT, Lib.hid (fun r hrq => ?_), Lib.hid (updN_at _ _ _)⟩
                    · have := hvlt b f; omega
                    · rw [updN_off _ _ _ hrq]; exact hu3.out r hrq
                  case measure => simp [intOf]; omega
          · obtain ⟨ta, tb⟩ := test_ne (show ¬ (q : Int) = 2 by omega)
            have HQ2 := Lib.hid hq2
            clear hq2
            go_upto_region 22 with (fail)
            clear ta tb
            obtain ⟨W, hW⟩ : ∃ W, W = wr.alloc (.cells #[.int .i64 ((k : Int) + 1), .int .i64 2] 23) := ⟨_, rfl⟩
            rw [← hW]
            have kW : Keeps None wr W := by rw [hW]; exact (Keeps.refl _ _).alloc _
            have hS := Blk.new wr 23 [.int .i64 ((k : Int) + 1), .int .i64 2]
            rw [← hW] at hS
            have s0 := hS.cell 0 _ rfl
            have s1 := hS.cell 1 _ rfl
            have hAW := hA'.grew (hB3.keep.trans kW)
            have hBW := hB3.grew kW
            clear hW hS kW hB3 hT3
            go_cut [16] (fun x wx => ∃ mb Av cv, x = .pointer (some ⟨mb, 0, Option.none⟩) ∧ Blk wx mb 66 (msgL 11 false ((k : Int) + 1) true 3 1 7 1 3 1 0 ((k : Int) + 1) 2 (.slice Av ys.length cv)) ∧ W.heap.size ≤ mb ∧ Row .u8 5 wx W.heap.size (.slice Av ys.length cv) ys ∧ (∀ b, (Value.slice Av ys.length cv).ownBlock = some b → b ≠ mb) ∧ Keeps None W wx)
            case first =>
              refine start_ (ds := []) (S := (fun w' => Keeps None W w')) #[false, false, false, false, false, false, false, false] (by kernel_rfl) rfl rfl ((Keeps.refl _ _).drew) (fun hS0 => ?_)
              refine pure_ (i := 0) (N := some 75) (v := .int .i64 ((k : Int) + 1)) #[true, false, false, false, false, false, false, false] rfl rfl (by kernel_rfl) (fun _ _ _ h => h) (Or.inl ⟨wanted_none rfl, fun w => by rfl⟩) rfl ?_
              try simp only [Act.put, List.setIfInBounds_toArray, List.set_cons_zero, List.set_cons_succ]
              refine take_ (i := 1) (N := some 76) (v := .agg #[.int .i64 ((k : Int) + 1), .int .i64 2]) #[true, true, false, false, false, false, false, false] rfl rfl (by kernel_rfl) (fun _ _ _ h => h) (Or.inl ⟨wanted_none rfl, by intro w' hSw; have q0 := hSw.cell s0 id; have q1 := hSw.cell s1 id; go_simp⟩) hS0 rfl ?_
              try simp only [Act.put, List.setIfInBounds_toArray, List.set_cons_zero, List.set_cons_succ]
              refine pure_ (i := 3) (N := some 78) (v := .slice A' ys.length cap') #[true, true, false, true, false, false, false, false] rfl rfl (by kernel_rfl) (fun _ _ _ h => h) (Or.inl ⟨wanted_none rfl, fun w => by rfl⟩) rfl ?_
              try simp only [Act.put, List.setIfInBounds_toArray, List.set_cons_zero, List.set_cons_succ]
              refine two_ (i := 2) (j := 6) (oi := ({ dst := some 77, op := Op.buildSlice 24 0 #[], type := 24, pos := "own.go:46", after := #[], guard := Option.none } : Oper)) (oj := ({ dst := some 16, op := Op.alloc 66, type := 0, pos := "own.go:46", after := #[], guard := Option.none } : Oper)) (Ni := some 77) (Nj := some 16) #[true, true, true, true, false, false, false, false] #[true, true, false, true, false, false, true, false] rfl rfl rfl rfl (by kernel_rfl) (by decide) (by decide) ?_ ?_
              · intro KK hKK
                obtain ⟨EB, hEB⟩ : ∃ x, x = W.drew.heap.size := ⟨_, rfl⟩
                obtain ⟨WE, hWE⟩ : ∃ x, x = W.drew.alloc (.cells #[] 5) := ⟨_, rfl⟩
                have kE : Keeps None W.drew WE := by rw [hWE]; exact (Keeps.refl _ _).alloc _
                have hE0 := Blk.new W.drew 5 []
                rw [← hEB] at hE0
                have hE : Row .u8 5 WE W.heap.size (.slice (some ⟨EB, 0, Option.none⟩) 0 0) [] := by rw [hWE]; exact Row.of_blk (zs := []) hE0 (by have := hS0.size; omega) (by unfold maxLen; simp)
                have hElt : EB < WE.heap.size := (hE.lt EB rfl).2
                refine value_ (wanted_none rfl) rfl (w1 := WE) (v := .slice (some ⟨EB, 0, Option.none⟩) 0 0) (by rw [hWE, hEB]; go_simp) (hKK.out _ _ (hS0.trans kE) (fun hS1 => ?_))
                try simp only [Act.put, List.setIfInBounds_toArray, List.set_cons_zero, List.set_cons_succ]
                refine two_ (i := 4) (j := 6) (oi := ({ dst := some 79, op := Op.call { callee := Callee.builtin Builtin.append, args := #[Operand.tmp 77, Operand.tmp 78], argTypes := #[24, 24] }, type := 24, pos := "own.go:46", after := #[{ on := 2, ground := Ground.data }, { on := 3, ground := Ground.data }], guard := Option.none } : Oper)) (oj := ({ dst := some 16, op := Op.alloc 66, type := 0, pos := "own.go:46", after := #[], guard := Option.none } : Oper)) (Ni := some 79) (Nj := some 16) #[true, true, true, true, true, false, false, false] #[true, true, true, true, false, false, true, false] rfl rfl rfl rfl (by kernel_rfl) (by decide) (by decide) ?_ ?_
                · intro KK hKK
                  refine step_append_row _ (wanted_none rfl) rfl (.tmp 77) (.tmp 78) 24 rfl W.heap.size 5 i0 (.int .u8 0) 1 1 Try.underlying24 hi hz0 hz1 hz2 rfl (by decide) (.slice (some ⟨EB, 0, Option.none⟩) 0 0) 0 [] rfl hE.raw A' ys.length cap' (ys.map (Value.int .u8)) rfl (by simp) hcap' (hAW.grew hS1).src (ints_oneCell _ ys) (by unfold maxLen; omega) (by omega) (by have := hS1.size; omega) ?_
                  intro v' wA hown hkA hloc
                  have hR : Row .u8 5 wA W.heap.size v' ([] ++ ys) := Row.of_append rfl rfl hown
                  have hEs := (hE.lt EB rfl).1
                  have hEs2 := (hE.lt EB rfl).2
                  obtain ⟨Av, cv, ev⟩ := hR.slice
                  obtain rfl : v' = .slice Av ys.length cv := ev.trans (by simp)
                  simp only [List.nil_append] at hR
                  refine hKK.out _ _ (hS1.andThen hkA (fun i hi e => by have := OwnB.is e; omega)) (fun hS2 => ?_)
                  try simp only [Act.put, List.setIfInBounds_toArray, List.set_cons_zero, List.set_cons_succ]
                  refine two_ (i := 5) (j := 6) (oi := ({ dst := some 80, op := Op.call { callee := Callee.value (Operand.func 19), args := #[Operand.tmp 75, Operand.const (Value.int IntKind.i64 7), Operand.tmp 76, Operand.tmp 79], argTypes := #[3, 3, 23, 24] }, type := 66, pos := "own.go:46", after := #[{ on := 0, ground := Ground.data }, { on := 1, ground := Ground.data }, { on := 4, ground := Ground.data }, { on := 4, ground := Ground.chain }], guard := Option.none } : Oper)) (oj := ({ dst := some 16, op := Op.alloc 66, type := 0, pos := "own.go:46", after := #[], guard := Option.none } : Oper)) (Ni := some 80) (Nj := some 16) #[true, true, true, true, true, true, false, false] #[true, true, true, true, true, false, true, false] rfl rfl rfl rfl (by kernel_rfl) (by decide) (by decide) ?_ ?_
                  · intro KK hKK
                    refine goes_ Try.func19 (by kernel_rfl) rfl #[.int .i64 ((k : Int) + 1), .int .i64 7, .agg #[.int .i64 ((k : Int) + 1), .int .i64 2], .slice Av ys.length cv] (wanted_none rfl) rfl rfl (by simp [Act.eval]) ?_
                    refine (value_any ((k : Int) + 1) 7 ((k : Int) + 1) 2 Av ys.length cv _).mono ?_
                    rintro e wV ⟨rfl, hkV⟩
                    have hR := hR.grew hkV
                    refine ⟨_, rfl, hKK.out _ _ (hS2.trans hkV) (fun hS3 => ?_)⟩
                    try simp only [Act.put, List.setIfInBounds_toArray, List.set_cons_zero, List.set_cons_succ]
                    refine one_ (i := 6) (oi := ({ dst := some 16, op := Op.alloc 66, type := 0, pos := "own.go:46", after := #[], guard := Option.none } : Oper)) (N := some 16) #[true, true, true, true, true, true, true, false] rfl rfl (by kernel_rfl) (by decide) ?_
                    intro KK hKK
                    obtain ⟨mb, hmb⟩ : ∃ x, x = wV.heap.size := ⟨_, rfl⟩
                    obtain ⟨WM, hWM⟩ : ∃ x, x = wV.alloc (.cells (msgL 0 false 0 false 0 0 0 0 0 0 0 0 0 (.slice Option.none 0 0)).toArray 66) := ⟨_, rfl⟩
                    have kM : Keeps None wV WM := by rw [hWM]; exact (Keeps.refl _ _).alloc _
                    have hM : Blk WM mb 66 (msgL 0 false 0 false 0 0 0 0 0 0 0 0 0 (.slice Option.none 0 0)) := by rw [hWM, hmb]; exact Blk.new _ _ _
                    have hMge : W.heap.size ≤ mb := by have := hS3.size; omega
                    have hMlt := hM.lt
                    have hvm : ∀ b, (Value.slice Av ys.length cv).ownBlock = some b → b ≠ mb := fun b e => by have := (hR.lt b e).2; omega
                    have hR := hR.grew kM
                    refine value_ (wanted_none rfl) rfl (w1 := WM) (v := .pointer (some ⟨mb, 0, Option.none⟩)) (by rw [hWM, hmb]; exact exec_alloc_msg rfl) (hKK.out _ _ (hS3.trans kM) (fun hS4 => ?_))
                    try simp only [Act.put, List.setIfInBounds_toArray, List.set_cons_zero, List.set_cons_succ]
                    refine one_ (i := 7) (oi := ({ dst := Option.none, op := Op.store 66 (Operand.tmp 16) (Operand.tmp 80), type := 0, pos := "own.go:46", after := #[{ on := 6, ground := Ground.data }, { on := 5, ground := Ground.data }, { on := 5, ground := Ground.chain }, { on := 0, ground := Ground.phase }, { on := 1, ground := Ground.phase }, { on := 2, ground := Ground.phase }, { on := 3, ground := Ground.phase }, { on := 4, ground := Ground.phase }, { on := 5, ground := Ground.phase }, { on := 6, ground := Ground.phase }], guard := Option.none } : Oper)) (N := Option.none) #[true, true, true, true, true, true, true, true] rfl rfl (by kernel_rfl) (by decide) ?_
                    intro KK hKK
                    refine skip_ (wanted_none rfl) rfl (w1 := WM.setRow mb (msgL 11 false ((k : Int) + 1) true 3 1 7 1 3 1 0 ((k : Int) + 1) 2 (.slice Av ys.length cv)).toArray) (exec_store_msg (.tmp 16) (.tmp 80) rfl mb rfl (msgL 11 false ((k : Int) + 1) true 3 1 7 1 3 1 0 ((k : Int) + 1) 2 (.slice Av ys.length cv)) (msgL 0 false 0 false 0 0 0 0 0 0 0 0 0 (.slice Option.none 0 0)) rfl hM rfl rfl (by simp [msgL, Value.oneCell'])) (hKK.out _ _ (hS4.andThen ((Keeps.refl (One mb) _).setRow _ _ (fun _ => rfl)) (fun i hi e => by simp only [One] at e; omega)) (fun hS5 => ?_))
                    try simp only [Act.put, List.setIfInBounds_toArray, List.set_cons_zero, List.set_cons_succ]
                    refine done_ (by kernel_rfl) ?_
                    go_wp2_with fail
                    go_meet
                    exact ⟨mb, Av, cv, rfl, hM.setRow _, hMge, hR.keeps ((Keeps.refl (One mb) _).setRow _ _ (fun _ => rfl)) (fun b e f => hvm b e f), hvm, hS5⟩
                  · intro KK hKK
                    obtain ⟨mb, hmb⟩ : ∃ x, x = wA.heap.size := ⟨_, rfl⟩
                    obtain ⟨WM, hWM⟩ : ∃ x, x = wA.alloc (.cells (msgL 0 false 0 false 0 0 0 0 0 0 0 0 0 (.slice Option.none 0 0)).toArray 66) := ⟨_, rfl⟩
                    have kM : Keeps None wA WM := by rw [hWM]; exact (Keeps.refl _ _).alloc _
                    have hM : Blk WM mb 66 (msgL 0 false 0 false 0 0 0 0 0 0 0 0 0 (.slice Option.none 0 0)) := by rw [hWM, hmb]; exact Blk.new _ _ _
                    have hMge : W.heap.size ≤ mb := by have := hS2.size; omega
                    have hMlt := hM.lt
                    have hvm : ∀ b, (Value.slice Av ys.length cv).ownBlock = some b → b ≠ mb := fun b e => by have := (hR.lt b e).2; omega
                    have hR := hR.grew kM
                    refine value_ (wanted_none rfl) rfl (w1 := WM) (v := .pointer (some ⟨mb, 0, Option.none⟩)) (by rw [hWM, hmb]; exact exec_alloc_msg rfl) (hKK.out _ _ (hS2.trans kM) (fun hS6 => ?_))
                    try simp only [Act.put, List.setIfInBounds_toArray, List.set_cons_zero, List.set_cons_succ]
                    refine one_ (i := 5) (oi := ({ dst := some 80, op := Op.call { callee := Callee.value (Operand.func 19), args := #[Operand.tmp 75, Operand.const (Value.int IntKind.i64 7), Operand.tmp 76, Operand.tmp 79], argTypes := #[3, 3, 23, 24] }, type := 66, pos := "own.go:46", after := #[{ on := 0, ground := Ground.data }, { on := 1, ground := Ground.data }, { on := 4, ground := Ground.data }, { on := 4, ground := Ground.chain }], guard := Option.none } : Oper)) (N := some 80) #[true, true, true, true, true, true, true, false] rfl rfl (by kernel_rfl) (by decide) ?_
                    intro KK hKK
                    refine goes_ Try.func19 (by kernel_rfl) rfl #[.int .i64 ((k : Int) + 1), .int .i64 7, .agg #[.int .i64 ((k : Int) + 1), .int .i64 2], .slice Av ys.length cv] (wanted_none rfl) rfl rfl (by simp [Act.eval]) ?_
                    refine (value_any ((k : Int) + 1) 7 ((k : Int) + 1) 2 Av ys.length cv _).mono ?_
                    rintro e wV ⟨rfl, hkV⟩
                    have hR := hR.grew hkV
                    have hM := hM.grew hkV
                    refine ⟨_, rfl, hKK.out _ _ (hS6.trans hkV) (fun hS7 => ?_)⟩
                    try simp only [Act.put, List.setIfInBounds_toArray, List.set_cons_zero, List.set_cons_succ]
                    refine one_ (i := 7) (oi := ({ dst := Option.none, op := Op.store 66 (Operand.tmp 16) (Operand.tmp 80), type := 0, pos := "own.go:46", after := #[{ on := 6, ground := Ground.data }, { on := 5, ground := Ground.data }, { on := 5, ground := Ground.chain }, { on := 0, ground := Ground.phase }, { on := 1, ground := Ground.phase }, { on := 2, ground := Ground.phase }, { on := 3, ground := Ground.phase }, { on := 4, ground := Ground.phase }, { on := 5, ground := Ground.phase }, { on := 6, ground := Ground.phase }], guard := Option.none } : Oper)) (N := Option.none) #[true, true, true, true, true, true, true, true] rfl rfl (by kernel_rfl) (by decide) ?_
                    intro KK hKK
                    refine skip_ (wanted_none rfl) rfl (w1 := wV.setRow mb (msgL 11 false ((k : Int) + 1) true 3 1 7 1 3 1 0 ((k : Int) + 1) 2 (.slice Av ys.length cv)).toArray) (exec_store_msg (.tmp 16) (.tmp 80) rfl mb rfl (msgL 11 false ((k : Int) + 1) true 3 1 7 1 3 1 0 ((k : Int) + 1) 2 (.slice Av ys.length cv)) (msgL 0 false 0 false 0 0 0 0 0 0 0 0 0 (.slice Option.none 0 0)) rfl hM rfl rfl (by simp [msgL, Value.oneCell'])) (hKK.out _ _ (hS7.andThen ((Keeps.refl (One mb) _).setRow _ _ (fun _ => rfl)) (fun i hi e => by simp only [One] at e; omega)) (fun hS8 => ?_))
                    try simp only [Act.put, List.setIfInBounds_toArray, List.set_cons_zero, List.set_cons_succ]
                    refine done_ (by kernel_rfl) ?_
                    go_wp2_with fail
                    go_meet
                    exact ⟨mb, Av, cv, rfl, hM.setRow _, hMge, hR.keeps ((Keeps.refl (One mb) _).setRow _ _ (fun _ => rfl)) (fun b e f => hvm b e f), hvm, hS8⟩
                · intro KK hKK
                  obtain ⟨mb, hmb⟩ : ∃ x, x = WE.heap.size := ⟨_, rfl⟩
                  obtain ⟨WM, hWM⟩ : ∃ x, x = WE.alloc (.cells (msgL 0 false 0 false 0 0 0 0 0 0 0 0 0 (.slice Option.none 0 0)).toArray 66) := ⟨_, rfl⟩
                  have kM : Keeps None WE WM := by rw [hWM]; exact (Keeps.refl _ _).alloc _
                  have hM : Blk WM mb 66 (msgL 0 false 0 false 0 0 0 0 0 0 0 0 0 (.slice Option.none 0 0)) := by rw [hWM, hmb]; exact Blk.new _ _ _
                  have hMge : W.heap.size ≤ mb := by have := hS1.size; omega
                  have hMlt := hM.lt
                  have hE := hE.grew kM
                  have hME : EB ≠ mb := by omega
                  refine value_ (wanted_none rfl) rfl (w1 := WM) (v := .pointer (some ⟨mb, 0, Option.none⟩)) (by rw [hWM, hmb]; exact exec_alloc_msg rfl) (hKK.out _ _ (hS1.trans kM) (fun hS9 => ?_))
                  try simp only [Act.put, List.setIfInBounds_toArray, List.set_cons_zero, List.set_cons_succ]
                  refine one_ (i := 4) (oi := ({ dst := some 79, op := Op.call { callee := Callee.builtin Builtin.append, args := #[Operand.tmp 77, Operand.tmp 78], argTypes := #[24, 24] }, type := 24, pos := "own.go:46", after := #[{ on := 2, ground := Ground.data }, { on := 3, ground := Ground.data }], guard := Option.none } : Oper)) (N := some 79) #[true, true, true, true, true, false, true, false] rfl rfl (by kernel_rfl) (by decide) ?_
                  intro KK hKK
                  refine step_append_row _ (wanted_none rfl) rfl (.tmp 77) (.tmp 78) 24 rfl W.heap.size 5 i0 (.int .u8 0) 1 1 Try.underlying24 hi hz0 hz1 hz2 rfl (by decide) (.slice (some ⟨EB, 0, Option.none⟩) 0 0) 0 [] rfl hE.raw A' ys.length cap' (ys.map (Value.int .u8)) rfl (by simp) hcap' (hAW.grew hS9).src (ints_oneCell _ ys) (by unfold maxLen; omega) (by omega) (by have := hS9.size; omega) ?_
                  intro v' wA hown hkA hloc
                  have hR : Row .u8 5 wA W.heap.size v' ([] ++ ys) := Row.of_append rfl rfl hown
                  have hEs := (hE.lt EB rfl).1
                  have hEs2 := (hE.lt EB rfl).2
                  have hvm : ∀ b, v'.ownBlock = some b → b ≠ mb := fun b e => hloc.elim (fun h => by rw [h] at e; cases e; exact hME) (fun h => by rw [h] at e; have := hM.lt; have := Option.some.inj e; omega)
                  have hM := hM.keeps hkA (fun e => hME (OwnB.is e).symm)
                  obtain ⟨Av, cv, ev⟩ := hR.slice
                  obtain rfl : v' = .slice Av ys.length cv := ev.trans (by simp)
                  simp only [List.nil_append] at hR
                  refine hKK.out _ _ (hS9.andThen hkA (fun i hi e => by have := OwnB.is e; omega)) (fun hS10 => ?_)
                  try simp only [Act.put, List.setIfInBounds_toArray, List.set_cons_zero, List.set_cons_succ]
                  refine one_ (i := 5) (oi := ({ dst := some 80, op := Op.call { callee := Callee.value (Operand.func 19), args := #[Operand.tmp 75, Operand.const (Value.int IntKind.i64 7), Operand.tmp 76, Operand.tmp 79], argTypes := #[3, 3, 23, 24] }, type := 66, pos := "own.go:46", after := #[{ on := 0, ground := Ground.data }, { on := 1, ground := Ground.data }, { on := 4, ground := Ground.data }, { on := 4, ground := Ground.chain }], guard := Option.none } : Oper)) (N := some 80) #[true, true, true, true, true, true, true, false] rfl rfl (by kernel_rfl) (by decide) ?_
                  intro KK hKK
                  refine goes_ Try.func19 (by kernel_rfl) rfl #[.int .i64 ((k : Int) + 1), .int .i64 7, .agg #[.int .i64 ((k : Int) + 1), .int .i64 2], .slice Av ys.length cv] (wanted_none rfl) rfl rfl (by simp [Act.eval]) ?_
                  refine (value_any ((k : Int) + 1) 7 ((k : Int) + 1) 2 Av ys.length cv _).mono ?_
                  rintro e wV ⟨rfl, hkV⟩
                  have hR := hR.grew hkV
                  have hM := hM.grew hkV
                  refine ⟨_, rfl, hKK.out _ _ (hS10.trans hkV) (fun hS11 => ?_)⟩
                  try simp only [Act.put, List.setIfInBounds_toArray, List.set_cons_zero, List.set_cons_succ]
                  refine one_ (i := 7) (oi := ({ dst := Option.none, op := Op.store 66 (Operand.tmp 16) (Operand.tmp 80), type := 0, pos := "own.go:46", after := #[{ on := 6, ground := Ground.data }, { on := 5, ground := Ground.data }, { on := 5, ground := Ground.chain }, { on := 0, ground := Ground.phase }, { on := 1, ground := Ground.phase }, { on := 2, ground := Ground.phase }, { on := 3, ground := Ground.phase }, { on := 4, ground := Ground.phase }, { on := 5, ground := Ground.phase }, { on := 6, ground := Ground.phase }], guard := Option.none } : Oper)) (N := Option.none) #[true, true, true, true, true, true, true, true] rfl rfl (by kernel_rfl) (by decide) ?_
                  intro KK hKK
                  refine skip_ (wanted_none rfl) rfl (w1 := wV.setRow mb (msgL 11 false ((k : Int) + 1) true 3 1 7 1 3 1 0 ((k : Int) + 1) 2 (.slice Av ys.length cv)).toArray) (exec_store_msg (.tmp 16) (.tmp 80) rfl mb rfl (msgL 11 false ((k : Int) + 1) true 3 1 7 1 3 1 0 ((k : Int) + 1) 2 (.slice Av ys.length cv)) (msgL 0 false 0 false 0 0 0 0 0 0 0 0 0 (.slice Option.none 0 0)) rfl hM rfl rfl (by simp [msgL, Value.oneCell'])) (hKK.out _ _ (hS11.andThen ((Keeps.refl (One mb) _).setRow _ _ (fun _ => rfl)) (fun i hi e => by simp only [One] at e; omega)) (fun hS12 => ?_))
                  try simp only [Act.put, List.setIfInBounds_toArray, List.set_cons_zero, List.set_cons_succ]
                  refine done_ (by kernel_rfl) ?_
                  go_wp2_with fail
                  go_meet
                  exact ⟨mb, Av, cv, rfl, hM.setRow _, hMge, hR.keeps ((Keeps.refl (One mb) _).setRow _ _ (fun _ => rfl)) (fun b e f => hvm b e f), hvm, hS12⟩
              · intro KK hKK
                obtain ⟨mb, hmb⟩ : ∃ x, x = W.drew.heap.size := ⟨_, rfl⟩
                obtain ⟨WM, hWM⟩ : ∃ x, x = W.drew.alloc (.cells (msgL 0 false 0 false 0 0 0 0 0 0 0 0 0 (.slice Option.none 0 0)).toArray 66) := ⟨_, rfl⟩
                have kM : Keeps None W.drew WM := by rw [hWM]; exact (Keeps.refl _ _).alloc _
                have hM : Blk WM mb 66 (msgL 0 false 0 false 0 0 0 0 0 0 0 0 0 (.slice Option.none 0 0)) := by rw [hWM, hmb]; exact Blk.new _ _ _
                have hMge : W.heap.size ≤ mb := by have := hS0.size; omega
                have hMlt := hM.lt
                refine value_ (wanted_none rfl) rfl (w1 := WM) (v := .pointer (some ⟨mb, 0, Option.none⟩)) (by rw [hWM, hmb]; exact exec_alloc_msg rfl) (hKK.out _ _ (hS0.trans kM) (fun hS13 => ?_))
                try simp only [Act.put, List.setIfInBounds_toArray, List.set_cons_zero, List.set_cons_succ]
                refine one_ (i := 2) (oi := ({ dst := some 77, op := Op.buildSlice 24 0 #[], type := 24, pos := "own.go:46", after := #[], guard := Option.none } : Oper)) (N := some 77) #[true, true, true, true, false, false, true, false] rfl rfl (by kernel_rfl) (by decide) ?_
                intro KK hKK
                obtain ⟨EB, hEB⟩ : ∃ x, x = WM.heap.size := ⟨_, rfl⟩
                obtain ⟨WE, hWE⟩ : ∃ x, x = WM.alloc (.cells #[] 5) := ⟨_, rfl⟩
                have kE : Keeps None WM WE := by rw [hWE]; exact (Keeps.refl _ _).alloc _
                have hE0 := Blk.new WM 5 []
                rw [← hEB] at hE0
                have hE : Row .u8 5 WE W.heap.size (.slice (some ⟨EB, 0, Option.none⟩) 0 0) [] := by rw [hWE]; exact Row.of_blk (zs := []) hE0 (by have := hS13.size; omega) (by unfold maxLen; simp)
                have hElt : EB < WE.heap.size := (hE.lt EB rfl).2
                have hM := hM.grew kE
                have hME : EB ≠ mb := by have := hMlt; omega
                refine value_ (wanted_none rfl) rfl (w1 := WE) (v := .slice (some ⟨EB, 0, Option.none⟩) 0 0) (by rw [hWE, hEB]; go_simp) (hKK.out _ _ (hS13.trans kE) (fun hS14 => ?_))
                try simp only [Act.put, List.setIfInBounds_toArray, List.set_cons_zero, List.set_cons_succ]
                refine one_ (i := 4) (oi := ({ dst := some 79, op := Op.call { callee := Callee.builtin Builtin.append, args := #[Operand.tmp 77, Operand.tmp 78], argTypes := #[24, 24] }, type := 24, pos := "own.go:46", after := #[{ on := 2, ground := Ground.data }, { on := 3, ground := Ground.data }], guard := Option.none } : Oper)) (N := some 79) #[true, true, true, true, true, false, true, false] rfl rfl (by kernel_rfl) (by decide) ?_
                intro KK hKK
                refine step_append_row _ (wanted_none rfl) rfl (.tmp 77) (.tmp 78) 24 rfl W.heap.size 5 i0 (.int .u8 0) 1 1 Try.underlying24 hi hz0 hz1 hz2 rfl (by decide) (.slice (some ⟨EB, 0, Option.none⟩) 0 0) 0 [] rfl hE.raw A' ys.length cap' (ys.map (Value.int .u8)) rfl (by simp) hcap' (hAW.grew hS14).src (ints_oneCell _ ys) (by unfold maxLen; omega) (by omega) (by have := hS14.size; omega) ?_
                intro v' wA hown hkA hloc
                have hR : Row .u8 5 wA W.heap.size v' ([] ++ ys) := Row.of_append rfl rfl hown
                have hEs := (hE.lt EB rfl).1
                have hEs2 := (hE.lt EB rfl).2
                have hvm : ∀ b, v'.ownBlock = some b → b ≠ mb := fun b e => hloc.elim (fun h => by rw [h] at e; cases e; exact hME) (fun h => by rw [h] at e; have := hM.lt; have := Option.some.inj e; omega)
                have hM := hM.keeps hkA (fun e => hME (OwnB.is e).symm)
                obtain ⟨Av, cv, ev⟩ := hR.slice
                obtain rfl : v' = .slice Av ys.length cv := ev.trans (by simp)
                simp only [List.nil_append] at hR
                refine hKK.out _ _ (hS14.andThen hkA (fun i hi e => by have := OwnB.is e; omega)) (fun hS15 => ?_)
                try simp only [Act.put, List.setIfInBounds_toArray, List.set_cons_zero, List.set_cons_succ]
                refine one_ (i := 5) (oi := ({ dst := some 80, op := Op.call { callee := Callee.value (Operand.func 19), args := #[Operand.tmp 75, Operand.const (Value.int IntKind.i64 7), Operand.tmp 76, Operand.tmp 79], argTypes := #[3, 3, 23, 24] }, type := 66, pos := "own.go:46", after := #[{ on := 0, ground := Ground.data }, { on := 1, ground := Ground.data }, { on := 4, ground := Ground.data }, { on := 4, ground := Ground.chain }], guard := Option.none } : Oper)) (N := some 80) #[true, true, true, true, true, true, true, false] rfl rfl (by kernel_rfl) (by decide) ?_
                intro KK hKK
                refine goes_ Try.func19 (by kernel_rfl) rfl #[.int .i64 ((k : Int) + 1), .int .i64 7, .agg #[.int .i64 ((k : Int) + 1), .int .i64 2], .slice Av ys.length cv] (wanted_none rfl) rfl rfl (by simp [Act.eval]) ?_
                refine (value_any ((k : Int) + 1) 7 ((k : Int) + 1) 2 Av ys.length cv _).mono ?_
                rintro e wV ⟨rfl, hkV⟩
                have hR := hR.grew hkV
                have hM := hM.grew hkV
                refine ⟨_, rfl, hKK.out _ _ (hS15.trans hkV) (fun hS16 => ?_)⟩
                try simp only [Act.put, List.setIfInBounds_toArray, List.set_cons_zero, List.set_cons_succ]
                refine one_ (i := 7) (oi := ({ dst := Option.none, op := Op.store 66 (Operand.tmp 16) (Operand.tmp 80), type := 0, pos := "own.go:46", after := #[{ on := 6, ground := Ground.data }, { on := 5, ground := Ground.data }, { on := 5, ground := Ground.chain }, { on := 0, ground := Ground.phase }, { on := 1, ground := Ground.phase }, { on := 2, ground := Ground.phase }, { on := 3, ground := Ground.phase }, { on := 4, ground := Ground.phase }, { on := 5, ground := Ground.phase }, { on := 6, ground := Ground.phase }], guard := Option.none } : Oper)) (N := Option.none) #[true, true, true, true, true, true, true, true] rfl rfl (by kernel_rfl) (by decide) ?_
                intro KK hKK
                refine skip_ (wanted_none rfl) rfl (w1 := wV.setRow mb (msgL 11 false ((k : Int) + 1) true 3 1 7 1 3 1 0 ((k : Int) + 1) 2 (.slice Av ys.length cv)).toArray) (exec_store_msg (.tmp 16) (.tmp 80) rfl mb rfl (msgL 11 false ((k : Int) + 1) true 3 1 7 1 3 1 0 ((k : Int) + 1) 2 (.slice Av ys.length cv)) (msgL 0 false 0 false 0 0 0 0 0 0 0 0 0 (.slice Option.none 0 0)) rfl hM rfl rfl (by simp [msgL, Value.oneCell'])) (hKK.out _ _ (hS16.andThen ((Keeps.refl (One mb) _).setRow _ _ (fun _ => rfl)) (fun i hi e => by simp only [One] at e; omega)) (fun hS17 => ?_))
                try simp only [Act.put, List.setIfInBounds_toArray, List.set_cons_zero, List.set_cons_succ]
                refine done_ (by kernel_rfl) ?_
                go_wp2_with fail
                go_meet
                exact ⟨mb, Av, cv, rfl, hM.setRow _, hMge, hR.keeps ((Keeps.refl (One mb) _).setRow _ _ (fun _ => rfl)) (fun b e f => hvm b e f), hvm, hS17⟩
            case rest =>
              obtain ⟨mb, Av, cv, rfl, hM, hMge, hR, hvm, hkx⟩ := hcut
              have hBx := hBW.grew hkx
              have hPQ : takeF (hdB zs q) (ph3 q).1 (ph3 q).2 11 ((k : Int) + 1) ((k : Int) + 1, 2) ys (fitsF (hdB zs q) (ph3 q).1 false true 3 1 7 1 3 1 0) = pB zs ys q (k + 1) := by
                have := take_pB zs ys q hql k hlt
                rw [hq3'.out]
                rwa [show stB q ((k : Int) + 1) = ((k : Int) + 1, 2) from by unfold stB; rw [if_neg HQ2.out]] at this
              have hMq := hBx.mach q hql
              have hcq := hBx.cell q hql
              rw [← HGQ.out] at hMq hcq
              clear s0 s1
              have hkd : Keeps None wc wc.drew := (Keeps.refl None wc).drew
              go_upto_region 23 with (fail)
              refine wp_region_still_tail 5 (by kernel_rfl) (by kernel_rfl) ?_
              simp only [List.take_succ_cons, List.take_zero, List.drop_succ_cons, List.drop_zero]
              still_step
              still_step
              still_step
              still_step
              refine still_load_msg rfl (.tmp 16) rfl mb rfl (msgL 11 false ((k : Int) + 1) true 3 1 7 1 3 1 0 ((k : Int) + 1) 2 (.slice Av ys.length cv)) (hM.grew hkd) rfl ?_
              refine wpStill_nil ?_
              change wpList _ _ _ _ _ wc.drew
              simp only [Act.put, List.setIfInBounds_toArray, List.set_cons_zero, List.set_cons_succ, msgL]
              have hMd := hM.grew hkd
              have hRd' := hR.grew hkd
              have hBd := hBx.grew hkd
              have hMqd := hMq.grew hkd
              obtain ⟨wd, hwd⟩ : ∃ x, x = wc.drew := ⟨_, rfl⟩
              rw [← hwd] at hMd hRd' hBd hMqd ⊢
              have hWl := Lib.hid (fun b (hb : X3 q b ∨ b = sel g0 g1 g2 q) => (hBW.lt hql hb).2)
              clear hwd hkd hM hR hBx hMq hcq
              go_wp2_with fail
              refine (take_any gq w.heap.size (X3 q) (hdB zs q) (ph3 q).1 (ph3 q).2 11 false ((k : Int) + 1) true 3 1 7 1 3 1 0 ((k : Int) + 1) 2 0 0 Av cv ys 0 0 0 ⟨#[]⟩ 0 0 0 0 0 0 Option.none 0 0 Option.none 0 0 Option.none 0 0 false wd hMqd (Nums.row hRd').1 hr' hwf).mono ?_
              rw [hPQ, HGQ.out]
              rintro e w4 hs
              obtain ⟨X4, B4, u4, rfl, hO4, hB4w, hXB4, hB4, hk4', hn4⟩ := hBd.step hql hs
              have hT4 := hBd.told hql hO4 hB4w hXB4
              obtain ⟨A4, c4, rfl⟩ := hO4.slice
              rw [← HGQ.out]
              have hR4 := hRd'.keeps hk4' (fun b e f => by have := (hRd'.lt b e).1; have := hWl.out b f; omega)
              have hM4m := hMd.keeps hk4' (fun f => by have := hWl.out mb f; omega)
              have hvlt := fun b (e : (Value.slice Av ys.length cv).ownBlock = some b) => hRd'.lt b e
              have hoffX : ∀ r, r < 3 → ∀ b, (updN X3 q X4 r b ∨ b = sel g0 g1 g2 r) → ¬ OwnB (.slice Av ys.length cv) b := fun r hr3 b hb f => by
                have hv := hvlt b f
                by_cases hrq : r = q
                · subst hrq
                  rw [updN_at] at hb
                  rcases hb with hb | hb
                  · rcases hn4 b hb with h | h
                    · have := (hBW.lt hr3 (.inl h)).2; omega
                    · omega
                  · have := (hBW.lt hr3 (.inr hb)).2; omega
                · rw [updN_off _ _ _ hrq] at hb
                  have := (hBW.lt hr3 hb).2; omega
              have hoffM : ∀ b, OwnM rs b → ¬ OwnB (.slice Av ys.length cv) b := fun b hb f => by
                have := (hBW.all.manyLt hb).2; have := hvlt b f; omega
              have hoffA : ∀ b, u11.ownBlock = some b → ¬ OwnB (.slice Av ys.length cv) b := fun b hb f => by
                have := (World.ownsRow.lt hBW.all.all b hb).2; have := hvlt b f; omega
              have hoffB : ¬ OwnB (.slice Av ys.length cv) bm := fun f => by have := hBW.bml.2; have := hvlt bm f; omega
              have hgeW := hBW.keep.size
              have hoffT : ∀ b, B4 ≤ b → ¬ OwnB (.slice Av ys.length cv) b := fun b hb f => by have := hvlt b f; omega
              obtain ⟨ln', eln⟩ : ∃ n, n = lnO (pB zs ys q (k + 1)).2.2 := ⟨_, rfl⟩
              rw [← eln]
              have HEL := Lib.hid eln
              have HFT := Lib.hid (show Tl w4 B4 bm (hdB zs q) (sel g0 g1 g2) (updN X3 q X4) rs (.slice A4 ln' c4) (pB zs ys q (k + 1)).2.2 from eln ▸ hT4)
              have HB4 := Lib.hid hB4
              clear eln hT4 hO4 hB4 hXB4 hk4' hMqd hBd hs hn4 hRd' hMd hPQ
              go_wp2_with fail
              go_loopw [17] (fun i wr => ∃ (j : Nat) (xs : List Int), j ≤ ys.length ∧ i = .int .i64 (j : Int) ∧ xs.length = ys.length ∧ Row .u8 5 wr W.heap.size (.slice Av ys.length cv) xs ∧ Blk wr mb 66 (msgL 11 false ((k : Int) + 1) true 3 1 7 1 3 1 0 ((k : Int) + 1) 2 (.slice Av ys.length cv)) ∧ Keeps (OwnB (.slice Av ys.length cv)) w4 wr) (fun i _ => ys.length - (intOf i).toNat)
              case atStart => exact ⟨0, ys, Nat.zero_le _, rfl, rfl, hR4, hM4m, Keeps.refl _ _⟩
              case round =>
                clear hR4 hM4m
                obtain ⟨j, xs, hj, rfl, hyl, hRj, hMj, hkj⟩ := hrel
                have m15 := hMj.cell 15 _ rfl
                by_cases hjl : j < ys.length
                · obtain ⟨q', c', e2, -⟩ := hRj.pos (by omega)
                  rw [hyl] at e2
                  cases e2
                  obtain ⟨x, b', o', e3, hx, -⟩ := (Nums.row hRj).1.get j (by omega)
                  cases e3
                  rw [Nat.zero_add] at hx
                  have hf := hRj.free j
                  go_wp2_with fail
                  go_still_tail 10, (by kernel_rfl)
                  change wpList _ _ _ _ _ wr.drew
                  obtain ⟨wq, hwq⟩ : ∃ wq, wq = wr.drew := ⟨_, rfl⟩
                  have kd : Keeps None wr wq := by rw [hwq]; exact (Keeps.refl _ _).drew
                  rw [← hwq]
                  have hRq := hRj.grew kd
                  have hMq := hMj.grew kd
                  have hkq := hkj.trans kd.of_none
                  clear hwq hRj hMj hkj hx hf m15 kd
                  have hf := hRq.free j
                  obtain ⟨z, hz⟩ := hRq.has j (by omega)
                  go_wp2
                  go_roundw
                  case rel => exact ⟨j + 1, _, by omega, by go_num, by rw [List.length_set]; exact hyl, hRq.store hyl j _, hMq.keeps ((Keeps.refl (One q') _).setCell _ _ (fun _ => rfl)) (fun e => hvm q' rfl e.symm), hkq.setCell _ _ (fun _ => rfl)⟩
                  case measure => simp [intOf]; omega
                · obtain rfl : j = ys.length := by omega
                  go_wp2_with fail
                  go_roundw
                  case rel =>
                    refine ⟨k + 1, updN X3 q X4, updN ph3 q ((pB zs ys q (k + 1)).1, (pB zs ys q (k + 1)).2.1), B4, A4, c4, by omega, by go_num, by rw [HEL.out], HB4.out.keeps hkj hoffX hoffB hoffM hoffA (fun b f _ => ?_), HFT.out.keeps hkj hoffT, Lib.hid (fun r hrq => ?_), Lib.hid (updN_at _ _ _)⟩
                    · have := hvlt b f; omega
                    · rw [updN_off _ _ _ hrq]; exact hu3.out r hrq
                  case measure => simp [intOf]; omega
        · obtain rfl : k = 3 := by omega
          clear hlt hk3
          have hln := len_pB zs ys q hql
          have hzl := zs_pB zs ys q hql _ hr hr'
          obtain ⟨A5, c5, ds, e5, hd5, hDv, hR5, hU5⟩ := hT3.out.dvs
          obtain ⟨rfl, -, rfl⟩ := Value.slice.inj e5
          clear e5
          obtain ⟨nl, enl⟩ : ∃ nl, nl = lnO (pB zs ys q 3).2.2 := ⟨_, rfl⟩
          rw [← enl] at hln hd5 ⊢
          have hnl5 : nl ≤ 5 := by rw [hln]; split <;> omega
          have HRC := Lib.hid (rows_cell hR5)
          have HLN := Lib.hid hln
          have HD5 := Lib.hid hd5
          clear hln hd5 enl
          have hge := hB3.bml.1
          have hwk := hB3.keep.size
          by_cases hq2 : q = 2
          case' pos =>
            obtain ⟨ta, tb⟩ := test_eq (show (q : Int) = 2 by omega)
            obtain ⟨tc, td⟩ := test_eq (show (nl : Int) = 0 by rw [HLN.out, if_pos hq2]; rfl)
            have te : decide ((q : Int) < 2) = false := decide_eq_false (by omega)
            have HQ2 := Lib.hid hq2
            clear hq2
            go_upto_region 30 with (fail)
          case' neg =>
            obtain ⟨ta, tb⟩ := test_ne (show ¬ (q : Int) = 2 by omega)
            obtain ⟨tc, td⟩ := test_eq (show (nl : Int) = 5 by rw [HLN.out, if_neg hq2]; rfl)
            have te : decide ((q : Int) < 2) = true := decide_eq_true (by omega)
            have HQ2 := Lib.hid hq2
            clear hq2
            go_upto_region 30 with (fail)
          all_goals
            clear ta tb tc td te HQ2
            go_wp2_with fail
            refine (blocks_any Al3 nl cl3 ds wr hDv HD5.out (by omega)).mono ?_
            rintro e w1 ⟨al1, rfl, hown1, hk1⟩
            obtain ⟨Ab, cb, rfl⟩ := owns_open hown1
            have hB4 := hB3.grew hk1
            have h1s := hk1.size
            have HO1 := Lib.hid hown1
            clear hown1
            go_upto_region 31 with (at_builtin; refine wpList_append_row _ rfl (.tmp 120) (.tmp 122) 35 rfl w.heap.size 24 i1 (.slice Option.none 0 0) 1 24 Try.underlying35 hj0 hy0 hy1 hy2 rfl (by decide) u11 rs.length _ rfl hB4.all.all Ab nl cb ds rfl (by rw [HD5.out, Nat.mul_one]) (owns_nil HO1.out) (owns_src HO1.out HD5.out) HRC.out (by unfold maxLen; omega) (by omega) (by omega) ?_; intro al' w2 hown hk2 hloc)
            have hB5 := hB4.more (B := B3) (fun d hd => (hR5 d hd).grew hk1) hU5 (by have := hT3.m; omega) hT3.x hT3.r hT3.m hzl (by rw [HD5.out]; exact hown) hk2 hloc
            have hrl2 : (rs ++ ds.map fun d => (d, zsO (pB zs ys q 3).2.2)).length ≤ 15 * q + 5 := by rw [List.length_append, List.length_map, HD5.out]; omega
            obtain ⟨rs2, hrs2⟩ : ∃ x, x = rs ++ ds.map fun d => (d, zsO (pB zs ys q 3).2.2) := ⟨_, rfl⟩
            rw [← hrs2] at hB5 hrl2
            have hu5 := hu3
            have hq5 := hq3'
            clear hrs2 hown hk2 hloc hB4 hB3 hT3 hDv hR5 hU5 hk1 hrl HO1 HRC HD5 HLN hnl5 hge hwk h1s hu3 hq3'
            go_wp2_with fail
            go_loopw [11, 13, 18] (fun al l t wr => ∃ (n : Nat) (X : Nat → Nat → Prop) (ph' : Nat → Int × Ph) (rs : Lot), n ≤ 2 ∧ t = .int .i64 (n : Int) ∧ rs.length ≤ 15 * q + 5 + 5 * n ∧ B7 w wr bm (hdB zs) (sel g0 g1 g2) X ph' rs al ∧ Hid (∀ r, r ≠ q → ph' r = ph r) ∧ Hid (ph' q = ((pB zs ys q 3).1, (pB zs ys q 3).2.1))) (fun _ _ t _ => 2 - (intOf t).toNat)
            case atStart => exact ⟨0, X3, ph3, rs2, by omega, rfl, by omega, hB5, hu5, hq5⟩
            case round =>
              clear hB5 hu5 hq5 hrl2
              obtain ⟨n, X6, ph6, rs6, hn2, rfl, hrl, hB6, hu6, hq6⟩ := hrel
              by_cases hnl : n < 2
              · have hMq := hB6.mach q hql
                rw [hq6.out] at hMq
                have hcq := hB6.cell q hql
                rw [← HGQ.out] at hMq hcq
                go_wp2_with fail
                refine (tick_any gq w.heap.size (X6 q) (hdB zs q) (pB zs ys q 3).1 (pB zs ys q 3).2.1 wr hMq).mono ?_
                rw [tick_pB zs ys q hql, HGQ.out]
                rintro e w7 hs
                obtain ⟨X7, B7', u7', rfl, hO7, hB7w, hXB7, hB7, -⟩ := hB6.step hql hs
                have hT7 := hB6.told hql hO7 hB7w hXB7
                obtain ⟨A7, c7, ds7, e7, hd7, hDv7, hR7, hU7⟩ := hT7.out.dvs
                subst e7
                have hln := len_pB zs ys q hql
                obtain ⟨nl, enl⟩ : ∃ nl, nl = lnO (pB zs ys q 3).2.2 := ⟨_, rfl⟩
                rw [← enl] at hln hd7 ⊢
                have hnl5 : nl ≤ 5 := by rw [hln]; split <;> omega
                have HRC := Lib.hid (rows_cell hR7)
                have HD7 := Lib.hid hd7
                have hwk := hB7.keep.size
                have hge := hB7.bml.1
                have HU7 := Lib.hid (show ∀ r, r ≠ q → updN ph6 q ((pB zs ys q 3).1, (pB zs ys q 3).2.1) r = ph r from fun r h => by rw [updN_off _ _ _ h]; exact hu6.out r h)
                have HQ7 := Lib.hid (show updN ph6 q ((pB zs ys q 3).1, (pB zs ys q 3).2.1) q = ((pB zs ys q 3).1, (pB zs ys q 3).2.1) from updN_at _ _ _)
                rw [← HGQ.out]
                clear hln hd7 enl hs hO7 hB7w hXB7 hB6 hMq hcq hu6 hq6
                go_wp2_with fail
                refine (blocks_any A7 nl c7 ds7 w7 hDv7 HD7.out (by omega)).mono ?_
                rintro e w8 ⟨al8, rfl, hown8, hk8⟩
                obtain ⟨Ab8, cb8, rfl⟩ := owns_open hown8
                have hB8 := hB7.grew hk8
                have h8s := hk8.size
                have HO8 := Lib.hid hown8
                clear hown8
                go_wp2_with (at_builtin; refine wpList_append_row _ rfl (.tmp 133) (.tmp 135) 35 rfl w.heap.size 24 i1 (.slice Option.none 0 0) 1 24 Try.underlying35 hj0 hy0 hy1 hy2 rfl (by decide) _ rs6.length _ rfl hB8.all.all Ab8 nl cb8 ds7 rfl (by rw [HD7.out, Nat.mul_one]) (owns_nil HO8.out) (owns_src HO8.out HD7.out) HRC.out (by unfold maxLen; omega) (by omega) (by omega) ?_; intro al9 w9 hown9 hk9 hloc9)
                have hB9 := hB8.more (B := B7') (fun d hd => (hR7 d hd).grew hk8) hU7 (by have := hT7.m; omega) hT7.x hT7.r hT7.m hzl (by rw [HD7.out]; exact hown9) hk9 hloc9
                have hrl9 : (rs6 ++ ds7.map fun d => (d, zsO (pB zs ys q 3).2.2)).length ≤ 15 * q + 5 + 5 * (n + 1) := by rw [List.length_append, List.length_map, HD7.out]; omega
                clear hown9 hk9 hloc9 hB8 hB7 hT7 hDv7 hR7 hU7 hk8 HO8 HRC HD7
                go_roundw
                case rel => exact ⟨n + 1, _, _, _, by omega, by go_num, hrl9, hB9, HU7, HQ7⟩
                case measure => simp [intOf]; omega
              · obtain rfl : n = 2 := by omega
                go_wp2_with fail
                go_roundw
                case rel =>
                  refine ⟨q + 1, X6, ph6, rs6, by omega, by go_num, by omega, hB6, fun r hr3 => ?_, fun r hr3 => ?_⟩
                  · by_cases hrq : r = q
                    · subst hrq; exact hq6.out
                    · rw [hu6.out r hrq]; exact HP1.out r (by omega)
                  · rw [hu6.out r (by omega)]; exact HP2.out r (by omega)
                case measure => simp [intOf]; omega
    · obtain rfl : q = 3 := by omega
      rw [show ((3 : Nat) : Int) = 3 from rfl]
      clear hql hq3
      have HE0 := Lib.hid (show ph 0 = (8, .laying [] (4, 3) zs) from HP1.out 0 (by omega))
      have HE1 := Lib.hid (show ph 1 = (8, .laying [] (3, 2) ys) from HP1.out 1 (by omega))
      have HE2 := Lib.hid (show ph 2 = (7, .ended 0 (0, 0) [0, 0, 0, 0]) from HP1.out 2 (by omega))
      clear HP1 HP2
      go_wp2_with fail
      go_loopw [11, 19] (fun al t wr => ∃ (n : Nat) (rs : Lot), n ≤ 3 ∧ t = .int .i64 (n : Int) ∧ rs.length ≤ 45 + n ∧ B7 w wr bm (hdB zs) (sel g0 g1 g2) X ph rs al) (fun _ t _ => 3 - (intOf t).toNat)
      case atStart => exact ⟨0, rs, by omega, rfl, by omega, hB⟩
      case round =>
        clear hB hrl rs
        obtain ⟨n, rs, hn, rfl, hrl, hB⟩ := hrel
        by_cases hnl : n < 3
        · have hM2 : Mach wr w.heap.size (X 2) g2 hRd 7 (.ended 0 (0, 0) [0, 0, 0, 0]) := by
            have := hB.mach 2 (by omega)
            rw [HE2.out] at this
            exact this
          have hws := hB.keep.size
          go_upto_region 39 with (fail)
          go_wp2_with fail
          refine (mach_done g2 w.heap.size (X 2) hRd 7 (.ended 0 (0, 0) [0, 0, 0, 0]) wr hM2).mono ?_
          rintro e w2 ⟨u, rfl, hU, hk2⟩
          have hU' : Row .u8 5 w2 wr.heap.size u [0, 0, 0, 0] := hU
          clear hU
          obtain ⟨Au, cu, eu⟩ := hU'.slice
          obtain rfl : u = .slice Au 4 cu := eu
          simp only [doneV, resCells]
          go_upto_region 40 with (fail)
          have hXn := Blk.new w2 46 [.int .i64 0, .string ⟨#[]⟩, .int .i64 0, .int .i64 0, .int .i64 0, .slice Option.none 0 0, .slice Au 4 cu, .int .i64 0, .int .i64 0, .int .i64 0, .int .i64 0]
          have kX := (Keeps.refl None w2).alloc (.cells #[.int .i64 0, .string ⟨#[]⟩, .int .i64 0, .int .i64 0, .int .i64 0, .slice Option.none 0 0, .slice Au 4 cu, .int .i64 0, .int .i64 0, .int .i64 0, .int .i64 0] 46)
          obtain ⟨xb, hxb⟩ : ∃ x, x = w2.heap.size := ⟨_, rfl⟩
          obtain ⟨Wx, hWx⟩ : ∃ W, W = w2.alloc (.cells #[.int .i64 0, .string ⟨#[]⟩, .int .i64 0, .int .i64 0, .int .i64 0, .slice Option.none 0 0, .slice Au 4 cu, .int .i64 0, .int .i64 0, .int .i64 0, .int .i64 0] 46) := ⟨_, rfl⟩
          have hXx : Blk Wx xb 46 [.int .i64 0, .string ⟨#[]⟩, .int .i64 0, .int .i64 0, .int .i64 0, .slice Option.none 0 0, .slice Au 4 cu, .int .i64 0, .int .i64 0, .int .i64 0, .int .i64 0] := by rw [hWx, hxb]; exact hXn
          rw [← hWx] at kX
          rw [← hWx, ← hxb]
          clear hWx hXn hxb hM2
          have hkx := hk2.trans kX
          have hxs := hkx.size
          have hBx := hB.grew hkx
          have hUx := hU'.grew kX
          have x6 := hXx.cell 6 _ rfl
          have HLT := Lib.hid (show (∀ q, q < 3 → ∀ b, (X q b ∨ b = sel g0 g1 g2 q) → b < wr.heap.size) ∧ (∀ b, OwnM rs b → b < wr.heap.size) ∧ bm < wr.heap.size from ⟨fun q hq b hb => (hB.lt hq hb).2, fun b hb => (hB.all.manyLt hb).2, hB.bml.2⟩)
          clear hU' kX hk2 hB
          go_wp2_with (at_builtin; refine wpList_append_row _ rfl (.tmp 154) (.tmp 157) 35 rfl w.heap.size 24 i1 (.slice Option.none 0 0) 1 24 Try.underlying35 hj0 hy0 hy1 hy2 rfl (by decide) _ rs.length _ rfl (owns_grew hBx.all.all ((Keeps.refl None _).alloc _)) (some ⟨Wx.heap.size, 0, Option.none⟩) 1 1 [Value.slice Au 4 cu] rfl rfl (fun e => by cases e) (src_new _ 24 _ _ rfl) (by intro u hu; simp at hu; subst hu; rfl) (by unfold maxLen; omega) (by omega) (by simp; omega) ?_; intro al' wh hown hkh hloch)
          have kA : Keeps None Wx (Wx.alloc (.cells #[Value.slice Au 4 cu] 24)) := (Keeps.refl None Wx).alloc _
          have hB2 := (hBx.grew kA).more (B := wr.heap.size) (ds := [Value.slice Au 4 cu]) (zs := [0, 0, 0, 0]) (fun d hd => by rw [List.mem_singleton.1 hd]; exact hUx.grew kA) (List.pairwise_singleton _ _) hws HLT.out.1 HLT.out.2.1 HLT.out.2.2 (by simp) hown hkh hloch
          clear hown hkh hloch hBx hUx kA x6 hXx
          go_roundw
          case rel => exact ⟨n + 1, _, by omega, by go_num, by simp; omega, hB2⟩
          case measure => simp [intOf]; omega
        · obtain rfl : n = 3 := by omega
          clear hnl hn
          have hM0 : Mach wr w.heap.size (X 0) g0 (hdB zs 0) (pB zs ys 0 3).1 (pB zs ys 0 3).2.1 := by
            have := hB.mach 0 (by omega)
            rw [HE0.out] at this
            exact this
          go_wp2_with fail
          refine (tick_any g0 w.heap.size (X 0) (hdB zs 0) (pB zs ys 0 3).1 (pB zs ys 0 3).2.1 wr hM0).mono ?_
          rw [tick_pB zs ys 0 (by omega)]
          rintro e w2 hs
          obtain ⟨X2', B2, u2, rfl, hO2, hB2w, hXB2, hB2, hk2, -⟩ := hB.step (q := 0) (by omega) hs
          have hT2 := hB.told (q := 0) (by omega) hO2 hB2w hXB2
          have hM1 : Mach w2 w.heap.size (updN X 0 X2' 1) g1 (hdB zs 1) (pB zs ys 1 3).1 (pB zs ys 1 3).2.1 := by
            have := hB2.mach 1 (by omega)
            rw [updN_off ph _ _ (by omega : (1 : Nat) ≠ 0), HE1.out] at this
            exact this
          clear hs hO2 hB2w hXB2 hM0 hB hk2
          obtain ⟨A2, c2, e2⟩ := hT2.out.slice
          obtain rfl : u2 = .slice A2 5 c2 := e2
          go_wp2_with fail
          refine (tick_any g1 w.heap.size (updN X 0 X2' 1) (hdB zs 1) (pB zs ys 1 3).1 (pB zs ys 1 3).2.1 w2 hM1).mono ?_
          rw [tick_pB zs ys 1 (by omega)]
          rintro e w3 hs
          obtain ⟨X3', B3, u3, rfl, hO3, hB3w, hXB3, hB3, hk3, -⟩ := hB2.step (q := 1) (by omega) hs
          have hT3 := hB2.told (q := 1) (by omega) hO3 hB3w hXB3
          have hT2' := hT2.out.keeps hk3 (fun b hb f => by have := hT2.x 1 (by omega) b f; omega)
          have hr2 := hT2.r
          obtain ⟨A3, c3, e3⟩ := hT3.out.slice
          obtain rfl : u3 = .slice A3 5 c3 := e3
          clear hs hO3 hB3w hXB3 hM1 hB2 hk3 hT2
          obtain ⟨Aa, ca, eal⟩ := owns_open hB3.all.all
          subst eal
          have HRL := Lib.hid (show ∀ b, OwnM rs b → w.heap.size ≤ b ∧ b < w3.heap.size from fun b hb => hB3.all.manyLt hb)
          have hws := hB3.keep.size
          go_wp2_with fail
          refine (grown_any Aa rs.length ca rs w.heap.size w3 hB3.all.lies hB3.all.many rfl (by omega) hB3.all.short hws).mono ?_
          rintro e W4 ⟨rfl, hkg⟩
          have hK4 : Keeps None w W4 := hB3.keep.andThen hkg (fun b hb e => by have := (HRL.out b e).1; omega)
          have hP0 : Mach W4 w.heap.size (updN (updN X 0 X2') 1 X3' 0) g0 (hdB zs 0) (pB zs ys 0 3).1 (pB zs ys 0 3).2.1 := by
            have := (hB3.mach 0 (by omega)).keeps hkg (fun b hb => (hB3.offR 0 (by omega) b (.inl hb)).1) (hB3.offR 0 (by omega) _ (.inr rfl)).1
            rw [updN_off (updN ph 0 _) _ _ (by omega : (0 : Nat) ≠ 1), updN_at] at this
            exact this
          have hP2 : Mach W4 w.heap.size (updN (updN X 0 X2') 1 X3' 2) g2 hRd 7 (.ended 0 (0, 0) [0, 0, 0, 0]) := by
            have := (hB3.mach 2 (by omega)).keeps hkg (fun b hb => (hB3.offR 2 (by omega) b (.inl hb)).1) (hB3.offR 2 (by omega) _ (.inr rfl)).1
            rw [updN_off (updN ph 0 _) _ _ (by omega : (2 : Nat) ≠ 1), updN_off ph _ _ (by omega : (2 : Nat) ≠ 0), HE2.out] at this
            exact this
          obtain ⟨Y0, hY0⟩ : ∃ Y, Y = updN (updN X 0 X2') 1 X3' 0 := ⟨_, rfl⟩
          obtain ⟨Y2, hY2⟩ : ∃ Y, Y = updN (updN X 0 X2') 1 X3' 2 := ⟨_, rfl⟩
          rw [← hY0] at hP0
          rw [← hY2] at hP2
          obtain ⟨A2', c2', ds2, e2, hd2, hDv2, hR2, -⟩ := (hT2'.keeps hkg (fun b hb f => by have := hr2 b f; omega)).dvs
          obtain ⟨rfl, -, rfl⟩ := Value.slice.inj e2
          obtain ⟨A3', c3', ds3, e3, hd3, hDv3, hR3, -⟩ := (hT3.out.keeps hkg (fun b hb f => by have := hT3.r b f; omega)).dvs
          obtain ⟨rfl, -, rfl⟩ := Value.slice.inj e3
          have hd2 : ds2.length = 5 := hd2
          have hd3 : ds3.length = 5 := hd3
          have hR2 : ∀ d ∈ ds2, Row .u8 5 W4 B2 d zs := hR2
          have hR3 : ∀ d ∈ ds3, Row .u8 5 W4 B3 d ys := hR3
          have HD2 := Lib.hid hd2
          have HD3 := Lib.hid hd3
          clear hd2 hd3 hY0 hY2 hT2' hT3 hB3 hkg HRL hr2 HE0 HE1 HE2
          have hA4 := hA.grew hK4
          have hA4' := hA'.grew hK4
          go_wp2_with fail
          go_loopw [24] (fun t wr => ∃ (n : Nat), n ≤ 5 ∧ t = .int .i64 (n : Int) ∧ Keeps None W4 wr) (fun t _ => 5 - (intOf t).toNat)
          case atStart => exact ⟨0, by omega, rfl, Keeps.refl _ _⟩
          case round =>
            obtain ⟨n, hn, rfl, hK⟩ := hrel
            by_cases hnl : n < 5
            · obtain ⟨ua, hua⟩ : ∃ u, ds2[n]? = some u := ⟨_, List.getElem?_eq_getElem (by have := HD2.out; omega)⟩
              obtain ⟨ub, hub⟩ : ∃ u, ds3[n]? = some u := ⟨_, List.getElem?_eq_getElem (by have := HD3.out; omega)⟩
              obtain ⟨ba, rfl, hca, Aua, nua, cua, rfl⟩ := (hDv2.grew hK) n _ hua
              obtain ⟨bb, rfl, hcb, Aub, nub, cub, rfl⟩ := (hDv3.grew hK) n _ hub
              obtain ⟨na, la, -⟩ := Nums.row ((hR2 _ (List.mem_of_getElem? hua)).grew hK)
              obtain ⟨nb, lb, -⟩ := Nums.row ((hR3 _ (List.mem_of_getElem? hub)).grew hK)
              subst la lb
              clear hua hub
              go_wp2_with fail
              refine (same_any Aua zs.length cua zs A zs.length cap zs wr na rfl (hA4.grew hK) rfl hr).mono ?_
              rintro e w5 ⟨rfl, hk5⟩
              have hk5 := hk5.keeps None
              rw [SameB_self7]
              have hcb5 := hk5.cell hcb id
              have hnb5 := nb.grew hk5
              clear hcb hca
              go_wp2_with fail
              refine (same_any Aub ys.length cub ys A' ys.length cap' ys w5 hnb5 rfl ((hA4'.grew hK).grew hk5) rfl hr').mono ?_
              rintro e w6 ⟨rfl, hk6⟩
              have hk6 := hk6.keeps None
              rw [SameB_self7]
              go_wp2_with fail
              go_roundw
              case rel => exact ⟨n + 1, by omega, by go_num, (hK.trans hk5).trans hk6⟩
              case measure => simp [intOf]; omega
            · obtain rfl : n = 5 := by omega
              have hQ0 := hP0.grew hK
              have hQ2 := hP2.grew hK
              go_upto_region 52 with (fail)
              go_wp2_with fail
              refine (mach_done g2 w.heap.size Y2 hRd 7 (.ended 0 (0, 0) [0, 0, 0, 0]) wr hQ2).mono ?_
              rintro e w5 ⟨u, rfl, hU, hk5⟩
              have hU' : Row .u8 5 w5 wr.heap.size u [0, 0, 0, 0] := hU
              clear hU
              obtain ⟨Au, cu, eu⟩ := hU'.slice
              obtain rfl : u = .slice Au 4 cu := eu
              simp only [doneV, resCells]
              go_upto_region 53 with (fail)
              have hXn := Blk.new w5 46 [.int .i64 0, .string ⟨#[]⟩, .int .i64 0, .int .i64 0, .int .i64 0, .slice Option.none 0 0, .slice Au 4 cu, .int .i64 0, .int .i64 0, .int .i64 0, .int .i64 0]
              have kX := (Keeps.refl None w5).alloc (.cells #[.int .i64 0, .string ⟨#[]⟩, .int .i64 0, .int .i64 0, .int .i64 0, .slice Option.none 0 0, .slice Au 4 cu, .int .i64 0, .int .i64 0, .int .i64 0, .int .i64 0] 46)
              obtain ⟨xb, hxb⟩ : ∃ x, x = w5.heap.size := ⟨_, rfl⟩
              obtain ⟨Wx, hWx⟩ : ∃ W, W = w5.alloc (.cells #[.int .i64 0, .string ⟨#[]⟩, .int .i64 0, .int .i64 0, .int .i64 0, .slice Option.none 0 0, .slice Au 4 cu, .int .i64 0, .int .i64 0, .int .i64 0, .int .i64 0] 46) := ⟨_, rfl⟩
              have hXx : Blk Wx xb 46 [.int .i64 0, .string ⟨#[]⟩, .int .i64 0, .int .i64 0, .int .i64 0, .slice Option.none 0 0, .slice Au 4 cu, .int .i64 0, .int .i64 0, .int .i64 0, .int .i64 0] := by rw [hWx, hxb]; exact hXn
              rw [← hWx] at kX
              rw [← hWx, ← hxb]
              have hxg : wr.heap.size ≤ xb := by rw [hxb]; exact hk5.size
              clear hWx hXn hxb
              have hkx := hk5.trans kX
              have hUx := hU'.grew kX
              have hR0 := hQ0.grew hkx
              have HL0 := Lib.hid (show ∀ b, (Y0 b ∨ b = g0) → w.heap.size ≤ b ∧ b < wr.heap.size from fun b hb => by
                rcases hb with hb | rfl
                · exact hQ0.X b hb
                · exact ⟨hQ0.g.2, hQ0.lt⟩)
              have hKx := (hK4.trans hK).trans hkx
              clear hU' kX hk5 hQ0 hQ2 hkx
              go_wp2_with fail
              refine (tick_any g0 w.heap.size Y0 (hdB zs 0) (pB zs ys 0 3).1 (pB zs ys 0 3).2.1 Wx hR0).mono ?_
              rw [tick_pB zs ys 0 (by omega)]
              rintro e w6 hs
              obtain ⟨Y6, B6, u6, rfl, -, hO6, -, -, -, hB6, hk6⟩ := hs
              obtain ⟨A6, c6, ds6, e6, hd6, hDv6, hR6, -⟩ := hO6.dvs
              obtain rfl : u6 = .slice A6 5 c6 := e6
              have hd6 : ds6.length = 5 := hd6
              have hR6 : ∀ d ∈ ds6, Row .u8 5 w6 B6 d zs := hR6
              have hX6 := hXx.keeps hk6 (fun f => by have := HL0.out _ f; omega)
              have hU6 := hUx.keeps hk6 (fun b e f => by have := HL0.out _ f; have := (hUx.lt b e).1; omega)
              have hK6 : Keeps None w w6 := hKx.andThen hk6 (fun b hb f => by have := (HL0.out b f).1; omega)
              obtain ⟨ua, hua⟩ : ∃ u, ds6[0]? = some u := ⟨_, List.getElem?_eq_getElem (by omega)⟩
              obtain ⟨ba, rfl, hca, Aua, nua, cua, rfl⟩ := hDv6 0 _ hua
              obtain ⟨na, la, -⟩ := Nums.row (hR6 _ (List.mem_of_getElem? hua))
              subst la
              have hca : w6.cell? ⟨ba, 15, Option.none⟩ = some (.slice Aua zs.length cua) := hca
              have x6 := hX6.cell 6 _ rfl
              have n6 := (Nums.row hU6).1
              have hmk : ∀ w : World, (Instr.makeSlice 24 (.int .i64 4) (.int .i64 4)).run Try.prog w = .ok (.slice (some ⟨w.heap.size, 0, Option.none⟩) 4 4) (w.alloc (.cells #[.int .u8 0, .int .u8 0, .int .u8 0, .int .u8 0] 5)) := fun w => by
                have h := run_make_row' 24 5 (.int .u8 0) 1 Try.underlying24 Try.infoU8 rfl .i64 .i64 4 (by omega) (by omega) w
                rw [show ((4 : Nat) : Int) = 4 from rfl, show madeCells #[Value.int .u8 0] 4 = #[.int .u8 0, .int .u8 0, .int .u8 0, .int .u8 0] from Array.ext' (by rw [zeros_u8]; rfl)] at h
                exact h
              have HA6 := Lib.hid (hA.grew hK6)
              have HNA := Lib.hid na
              have HN6 := Lib.hid n6
              have HMK := Lib.hid hmk
              clear na n6 hua hd6 hDv6 hR6 hO6 hk6 hX6 hU6 hXx hUx hR0 hKx hB6 hmk
              go_wp2_with fail
              refine start_ (ds := []) (S := (fun w' => Keeps None w6 w')) #[false, false, false, false, false, false, false, false, false, false, false, false, false, false, false, false, false, false] (by kernel_rfl) rfl rfl ((Keeps.refl _ _).drew) (fun hS0 => ?_)
              refine pure_ (i := 0) (N := some 205) (v := .pointer (some ⟨xb, 6, Option.none⟩)) #[true, false, false, false, false, false, false, false, false, false, false, false, false, false, false, false, false, false] rfl rfl (by kernel_rfl) (fun _ _ _ h => h) (Or.inl ⟨wanted_none rfl, fun w => by go_simp⟩) rfl ?_
              try simp only [Act.put, List.setIfInBounds_toArray, List.set_cons_zero, List.set_cons_succ]
              refine take_ (i := 1) (N := some 206) (v := .slice Au 4 cu) #[true, true, false, false, false, false, false, false, false, false, false, false, false, false, false, false, false, false] rfl rfl (by kernel_rfl) (fun _ _ _ h => h) (Or.inl ⟨wanted_none rfl, by intro w' hSw; have q0 := hSw.cell x6 id; go_simp⟩) hS0 rfl ?_
              try simp only [Act.put, List.setIfInBounds_toArray, List.set_cons_zero, List.set_cons_succ]
              refine one_ (i := 2) (oi := ({ dst := some 207, op := Op.makeSlice 24 (Operand.const (Value.int IntKind.i64 4)) (Operand.const (Value.int IntKind.i64 4)), type := 24, pos := "own.go:80", after := #[], guard := Option.none } : Oper)) (N := some 207) #[true, true, true, false, false, false, false, false, false, false, false, false, false, false, false, false, false, false] rfl rfl (by kernel_rfl) (by decide) ?_
              intro KK hKK
              obtain ⟨mb, hmb⟩ : ∃ x, x = w6.drew.heap.size := ⟨_, rfl⟩
              obtain ⟨WM, hWM⟩ : ∃ x, x = w6.drew.alloc (.cells #[.int .u8 0, .int .u8 0, .int .u8 0, .int .u8 0] 5) := ⟨_, rfl⟩
              have kM : Keeps None w6.drew WM := by rw [hWM]; exact (Keeps.refl _ _).alloc _
              have hM : Nums .u8 WM (some ⟨mb, 0, Option.none⟩) [0, 0, 0, 0] := by rw [hWM, hmb]; exact (Blk.new _ 5 [.int .u8 0, .int .u8 0, .int .u8 0, .int .u8 0]).nums 0 [0, 0, 0, 0] rfl
              refine value_ (wanted_none rfl) rfl (w1 := WM) (v := .slice (some ⟨mb, 0, Option.none⟩) 4 4) (by rw [hWM, hmb]; have q := HMK.out; go_simp) (hKK.out _ _ (hS0.trans kM) (fun hS1 => ?_))
              try simp only [Act.put, List.setIfInBounds_toArray, List.set_cons_zero, List.set_cons_succ]
              refine one_ (i := 3) (oi := ({ dst := some 208, op := Op.call { callee := Callee.value (Operand.func 13), args := #[Operand.tmp 206, Operand.tmp 207], argTypes := #[24, 24] }, type := 4, pos := "own.go:80", after := #[{ on := 1, ground := Ground.data }, { on := 2, ground := Ground.data }], guard := Option.none } : Oper)) (N := some 208) #[true, true, true, true, false, false, false, false, false, false, false, false, false, false, false, false, false, false] rfl rfl (by kernel_rfl) (by decide) ?_
              intro KK hKK
              refine goes_ Try.func13 (by kernel_rfl) rfl #[.slice Au 4 cu, .slice (some ⟨mb, 0, Option.none⟩) 4 4] (wanted_none rfl) rfl rfl (by simp [Act.eval]) ?_
              refine (same_any Au 4 cu [0, 0, 0, 0] (some ⟨mb, 0, Option.none⟩) 4 4 [0, 0, 0, 0] _ (HN6.out.grew hS1) rfl hM rfl (by omega)).mono ?_
              rintro e wV ⟨rfl, hkV⟩
              have hkV := hkV.keeps None
              rw [SameB_self7]
              refine ⟨_, rfl, hKK.out _ _ (hS1.trans hkV) (fun hS2 => ?_)⟩
              try simp only [Act.put, List.setIfInBounds_toArray, List.set_cons_zero, List.set_cons_succ]
              refine pure_ (i := 4) (N := some 209) (v := .bool true) #[true, true, true, true, true, false, false, false, false, false, false, false, false, false, false, false, false, false] rfl rfl (by kernel_rfl) (fun _ _ _ h => h) (Or.inl ⟨wanted_none rfl, fun w => by rfl⟩) rfl ?_
              try simp only [Act.put, List.setIfInBounds_toArray, List.set_cons_zero, List.set_cons_succ]
              refine pure_ (i := 5) (N := some 210) (v := .slice (some ⟨ba, 0, Option.none⟩) 5 c6) #[true, true, true, true, true, true, false, false, false, false, false, false, false, false, false, false, false, false] rfl rfl (by kernel_rfl) (fun _ _ _ h => h) (Or.inl ⟨by rfl, fun w => by rfl⟩) rfl ?_
              try simp only [Act.put, List.setIfInBounds_toArray, List.set_cons_zero, List.set_cons_succ]
              refine pure_ (i := 6) (N := some 211) (v := .int .i64 5) #[true, true, true, true, true, true, true, false, false, false, false, false, false, false, false, false, false, false] rfl rfl (by kernel_rfl) (fun _ _ _ h => h) (Or.inl ⟨by rfl, fun w => by go_simp⟩) rfl ?_
              try simp only [Act.put, List.setIfInBounds_toArray, List.set_cons_zero, List.set_cons_succ]
              refine pure_ (i := 7) (N := some 212) (v := .bool true) #[true, true, true, true, true, true, true, true, false, false, false, false, false, false, false, false, false, false] rfl rfl (by kernel_rfl) (fun _ _ _ h => h) (Or.inl ⟨by rfl, fun w => by go_simp⟩) rfl ?_
              try simp only [Act.put, List.setIfInBounds_toArray, List.set_cons_zero, List.set_cons_succ]
              refine pure_ (i := 8) (N := some 213) (v := .bool true) #[true, true, true, true, true, true, true, true, true, false, false, false, false, false, false, false, false, false] rfl rfl (by kernel_rfl) (fun _ _ _ h => h) (Or.inl ⟨wanted_none rfl, fun w => by go_simp⟩) rfl ?_
              try simp only [Act.put, List.setIfInBounds_toArray, List.set_cons_zero, List.set_cons_succ]
              refine pure_ (i := 9) (N := some 214) (v := .bool true) #[true, true, true, true, true, true, true, true, true, true, false, false, false, false, false, false, false, false] rfl rfl (by kernel_rfl) (fun _ _ _ h => h) (Or.inl ⟨wanted_none rfl, fun w => by rfl⟩) rfl ?_
              try simp only [Act.put, List.setIfInBounds_toArray, List.set_cons_zero, List.set_cons_succ]
              refine pure_ (i := 10) (N := some 215) (v := .slice (some ⟨ba, 0, Option.none⟩) 5 c6) #[true, true, true, true, true, true, true, true, true, true, true, false, false, false, false, false, false, false] rfl rfl (by kernel_rfl) (fun _ _ _ h => h) (Or.inl ⟨by rfl, fun w => by rfl⟩) rfl ?_
              try simp only [Act.put, List.setIfInBounds_toArray, List.set_cons_zero, List.set_cons_succ]
              refine pure_ (i := 11) (N := some 216) (v := .pointer (some ⟨ba, 0, Option.none⟩)) #[true, true, true, true, true, true, true, true, true, true, true, true, false, false, false, false, false, false] rfl rfl (by kernel_rfl) (fun _ _ _ h => h) (Or.inl ⟨by rfl, fun w => by go_simp⟩) rfl ?_
              try simp only [Act.put, List.setIfInBounds_toArray, List.set_cons_zero, List.set_cons_succ]
              refine pure_ (i := 12) (N := some 217) (v := .pointer (some ⟨ba, 15, Option.none⟩)) #[true, true, true, true, true, true, true, true, true, true, true, true, true, false, false, false, false, false] rfl rfl (by kernel_rfl) (fun _ _ _ h => h) (Or.inl ⟨by rfl, fun w => by go_simp⟩) rfl ?_
              try simp only [Act.put, List.setIfInBounds_toArray, List.set_cons_zero, List.set_cons_succ]
              refine take_ (i := 13) (N := some 218) (v := .slice Aua zs.length cua) #[true, true, true, true, true, true, true, true, true, true, true, true, true, true, false, false, false, false] rfl rfl (by kernel_rfl) (fun _ _ _ h => h) (Or.inl ⟨by rfl, by intro w' hSw; have q0 := hSw.cell hca id; go_simp⟩) hS2 rfl ?_
              try simp only [Act.put, List.setIfInBounds_toArray, List.set_cons_zero, List.set_cons_succ]
              refine pure_ (i := 14) (N := some 219) (v := .slice A zs.length cap) #[true, true, true, true, true, true, true, true, true, true, true, true, true, true, true, false, false, false] rfl rfl (by kernel_rfl) (fun _ _ _ h => h) (Or.inl ⟨by rfl, fun w => by rfl⟩) rfl ?_
              try simp only [Act.put, List.setIfInBounds_toArray, List.set_cons_zero, List.set_cons_succ]
              refine one_ (i := 15) (oi := ({ dst := some 220, op := Op.call { callee := Callee.value (Operand.func 13), args := #[Operand.tmp 218, Operand.tmp 219], argTypes := #[24, 24] }, type := 4, pos := "own.go:80", after := #[{ on := 13, ground := Ground.data }, { on := 14, ground := Ground.data }, { on := 9, ground := Ground.chain }, { on := 9, ground := Ground.guard }], guard := some (9, true) } : Oper)) (N := some 220) #[true, true, true, true, true, true, true, true, true, true, true, true, true, true, true, true, false, false] rfl rfl (by kernel_rfl) (by decide) ?_
              intro KK hKK
              refine goes_ Try.func13 (by kernel_rfl) rfl #[.slice Aua zs.length cua, .slice A zs.length cap] (by rfl) rfl rfl (by simp [Act.eval]) ?_
              refine (same_any Aua zs.length cua zs A zs.length cap zs _ (HNA.out.grew hS2) rfl (HA6.out.grew hS2) rfl hr).mono ?_
              rintro e wX ⟨rfl, hkX⟩
              have hkX := hkX.keeps None
              rw [SameB_self7]
              refine ⟨_, rfl, hKK.out _ _ (hS2.trans hkX) (fun hS3 => ?_)⟩
              try simp only [Act.put, List.setIfInBounds_toArray, List.set_cons_zero, List.set_cons_succ]
              refine pure_ (i := 16) (N := some 221) (v := .bool true) #[true, true, true, true, true, true, true, true, true, true, true, true, true, true, true, true, true, false] rfl rfl (by kernel_rfl) (fun _ _ _ h => h) (Or.inl ⟨wanted_none rfl, fun w => by go_simp⟩) rfl ?_
              try simp only [Act.put, List.setIfInBounds_toArray, List.set_cons_zero, List.set_cons_succ]
              refine pure_ (i := 17) (N := some 4) (v := .bool true) #[true, true, true, true, true, true, true, true, true, true, true, true, true, true, true, true, true, true] rfl rfl (by kernel_rfl) (fun _ _ _ h => h) (Or.inl ⟨wanted_none rfl, fun w => by rfl⟩) rfl ?_
              try simp only [Act.put, List.setIfInBounds_toArray, List.set_cons_zero, List.set_cons_succ]
              refine done_ (by kernel_rfl) ?_
              go_wp2_with fail
              go_ret
              exact ⟨rfl, hK6.trans hS3⟩
end Go.Proofs.Ytcihfjfbcfgidaa
