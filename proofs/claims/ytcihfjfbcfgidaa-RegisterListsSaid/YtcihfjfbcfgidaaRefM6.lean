/- The document's machine: its second phase. -/
import Derived.Test.YtcihfjfbcfgidaaRefP
import Derived.Test.YtcihfjfbcfgidaaStampEq
namespace Go.Proofs.Ytcihfjfbcfgidaa
open Go.RowKit Go.Maps Go.Proofs.YtcihfjfbcfgidaaW.PrintLast
set_option linter.unusedVariables false

/-- Behind so many places: the first of the greatest so far; are all alike. -/
def Sc (h : Hd) (qs : List Ans) (k : Nat) (F : Int) (al : Bool) : Prop :=
  (ansA (h.grp.take k) qs = [] ∧ F = -1 ∧ al = true) ∨ ∃ (f : Nat) (s : Int) (q : Ans), F = (f : Int) ∧ f < h.grp.length ∧ h.grp[f]? = some s ∧ lookA qs s = some q ∧ Scan (ansA (h.grp.take k) qs) q al

set_option maxRecDepth 100000 in
set_option maxHeartbeats 6400000 in
theorem refsecond_any (base r : Nat) (Z W : Nat → Prop) (h : Hd) (rsz round : Int) (gv : Value) (B : Option Addr) (bn bc : Nat) (av vv : Value) (t1 t2 err : Int) (qs : List Ans) (w : World)
    (hB : Blk w r 86 (rcells h rsz gv round (.slice B bn bc) 1 av vv t1 t2 err)) (hG : Row .i64 3 w base gv h.grp) (hgz : ∀ b, gv.ownBlock = some b → Z b ∧ ¬ W b) (hrs : h.wr = false → rsz = h.size)
    (hArr : Arr w (Rd base Z W) W r h.grp.length av vv (h.grp.map fun s => .bool (lookA qs s).isSome) (ansF h qs)) (hdat : h.wr = true → Dat w (Rd base Z W) (.slice B bn bc) h.blk) (hr : W r) (hW : ∀ b, W b → Z b) (hZ : ∀ b, Z b → base ≤ b ∧ b < w.heap.size) (ok : HdOk h)
    (hne : ansA h.grp qs ≠ []) (hr1 : 1 ≤ round) (hr2 : round ≤ 1099511627776) :
    Calls Try.prog 51 #[.pointer (some ⟨r, 0, Option.none⟩)] w (RStep w base Z W r h (secondF h round (ansA h.grp qs)).1 (secondF h round (ansA h.grp qs)).2.1 (secondF h round (ansA h.grp qs)).2.2) := by
  obtain ⟨ab, vb, rfl, rfl, hab, hvb, nav, nar, nvr, hA, hV⟩ := id hArr
  have hgl := ok.grp
  obtain ⟨Ag, cg, rfl⟩ := hG.slice
  obtain ⟨SF, hSF⟩ : ∃ S, S = secondF h round (ansA h.grp qs) := ⟨_, rfl⟩
  rw [← hSF]
  have HSF := Lib.hid hSF
  clear hSF
  have HNE := Lib.hid hne
  have HGZ := Lib.hid hgz
  have HRS := Lib.hid hrs
  have HDAT := Lib.hid hdat
  clear hne hgz hrs hdat
  go_enter Try.func51, Try.ntmps51
  go_wp2_with fail
  go_loopw [3, 4, 5] (fun f a i wr => ∃ (k : Nat) (F : Int) (al : Bool), k ≤ h.grp.length ∧ f = .int .i64 F ∧ a = .bool al ∧ i = .int .i64 k ∧ Hid (Sc h qs k F al) ∧ Keeps None w wr) (fun _ _ i _ => h.grp.length - (intOf i).toNat)
  case atStart => exact ⟨0, -1, true, Nat.zero_le _, rfl, rfl, rfl, Lib.hid (.inl ⟨by simp [ansA], rfl, rfl⟩), Keeps.refl _ _⟩
  case round =>
    obtain ⟨k, F, al, hk, rfl, rfl, rfl, hSc, hK⟩ := hrel
    have hBr := hB.grew hK
    have m7 := hBr.cell 7 _ rfl
    have m12 := hBr.cell 12 _ rfl
    have m13 := hBr.cell 13 _ rfl
    by_cases hlt : k < h.grp.length
    · obtain ⟨x, hx⟩ : ∃ x, h.grp[k]? = some x := ⟨_, List.getElem?_eq_getElem hlt⟩
      have HT := Lib.hid (take_succ_of hx)
      have c12 : wr.cell? ⟨ab, k, Option.none⟩ = some (.bool (lookA qs x).isSome) := (hA.grew hK).cell k _ (by rw [List.getElem?_map, hx]; rfl)
      have hVr := hV.keeps hK (fun _ _ => id) id
      cases hq : lookA qs x with
      | none =>
        rw [hq] at c12
        have hSc2 : Hid (Sc h qs (k + 1) F al) := Lib.hid (by have := hSc.out; unfold Sc at this ⊢; rw [HT.out, ansA_snoc, hq]; simpa using this)
        have c12 : wr.cell? ⟨ab, k, Option.none⟩ = some (.bool false) := c12
        clear hq hx
        go_wp2_with fail
        go_roundw
        case rel => exact ⟨k + 1, F, al, by omega, rfl, rfl, by go_num, hSc2, hK⟩
        case measure => simp [intOf]; omega
      | some q =>
        rw [hq] at c12
        have c12 : wr.cell? ⟨ab, k, Option.none⟩ = some (.bool true) := c12
        have hAns : ansA (h.grp.take (k + 1)) qs = ansA (h.grp.take k) qs ++ [q] := by rw [HT.out, ansA_snoc, hq]; rfl
        obtain ⟨dv, c11, c12', c15, -⟩ := hVr.at_ k q.st q.ds hlt (by unfold ansF; rw [hx]; simp [hq])
        have HX := Lib.hid (And.intro hx (And.intro hq hAns))
        clear hq hx hAns c15 hVr
        rcases hSc.out with ⟨e1, rfl, rfl⟩ | ⟨f, s, qf, rfl, hf, hfs, hfq, hscan⟩
        · have hSc2 : Hid (Sc h qs (k + 1) (k : Int) true) := Lib.hid (.inr ⟨k, x, q, rfl, hlt, HX.out.1, HX.out.2.1, by rw [HX.out.2.2, e1]; exact Scan.one q⟩)
          clear e1 hSc
          go_upto_region 7 with (fail)
          go_quiet (fail)
          go_upto_region 9 with (fail)
          go_quiet (fail)
          go_wp2
          go_roundw
          case rel => exact ⟨k + 1, (k : Int), true, by omega, rfl, rfl, by go_num, hSc2, hK.trans ((Keeps.refl _ _).drewN _)⟩
          case measure => simp [intOf]; omega
        · obtain ⟨dvf, d11, d12, -, -⟩ := (hV.keeps hK (fun _ _ => id) id).at_ f qf.st qf.ds hf (by unfold ansF; rw [hfs]; simp [hfq])
          have HF := Lib.hid (And.intro hf (And.intro hfs (And.intro hfq hscan)))
          have hf0 : (0 : Int) ≤ f := by omega
          have hfl : ¬ ((f : Int) < 0) := by omega
          have c12 := c12
          obtain ⟨Db, hDb⟩ : ∃ D, D = decide (q.st.1 = qf.st.1 ∧ q.st.2 = qf.st.2) := ⟨_, rfl⟩
          have hneq : ∀ w, (binOp .neq 23 (.agg #[.int .i64 q.st.1, .int .i64 q.st.2]) (.agg #[.int .i64 qf.st.1, .int .i64 qf.st.2])).run Try.prog w = .ok (.bool (!Db)) w := fun w => by rw [neq_stamp, hDb]
          have HDB := Lib.hid hDb
          clear hDb hfs hfq hscan hSc
          cases hL : lessF qf.st q.st with
          | true =>
            have HLB := Lib.hid hL
            have hsl := HF.out.2.2.2.less hL
            have hSc2 : Hid (Sc h qs (k + 1) (k : Int) false) := Lib.hid (.inr ⟨k, x, q, rfl, hlt, HX.out.1, HX.out.2.1, by rw [HX.out.2.2]; exact hsl.1⟩)
            have hD0 : Db = false := by rw [HDB.out]; exact decide_eq_false (fun e => hsl.2 (Prod.ext e.1.symm e.2.symm))
            subst hD0
            clear hL hsl
            go_upto_region 7 with (fail)
            go_quiet (fail)
            go_upto_region 9 with (fail)
            obtain ⟨wq, hwq⟩ : ∃ wq, wq = wr.drewN nq := ⟨_, rfl⟩
            have hkw : Keeps None wr wq := by rw [hwq]; exact (Keeps.refl _ _).drewN _
            have hkq := hK.trans hkw
            rw [← hwq]
            have m13 := hkw.cell m13 id
            have c11 := hkw.cell c11 id
            have c12 := hkw.cell c12' id
            have d11 := hkw.cell d11 id
            have d12 := hkw.cell d12 id
            clear hwq
            refine start_ (ds := []) (S := (fun w' => Keeps None wq w')) #[false, false, false, false, false, false, false, false, false, false, false, false, false, false, false, false, false, false, false, false, false] (by kernel_rfl) rfl rfl ((Keeps.refl _ _).drew) (fun hS0 => ?_)
            refine pure_ (i := 0) (N := some 44) (v := .int .i64 (f : Int)) #[true, false, false, false, false, false, false, false, false, false, false, false, false, false, false, false, false, false, false, false, false] rfl rfl (by kernel_rfl) (fun _ _ _ h => h) (Or.inl ⟨wanted_none rfl, fun w => by rfl⟩) rfl ?_
            try simp only [Act.put, List.setIfInBounds_toArray, List.set_cons_zero, List.set_cons_succ]
            refine pure_ (i := 1) (N := some 45) (v := .bool false) #[true, true, false, false, false, false, false, false, false, false, false, false, false, false, false, false, false, false, false, false, false] rfl rfl (by kernel_rfl) (fun _ _ _ h => h) (Or.inl ⟨wanted_none rfl, fun w => by go_simp⟩) rfl ?_
            try simp only [Act.put, List.setIfInBounds_toArray, List.set_cons_zero, List.set_cons_succ]
            refine pure_ (i := 2) (N := some 46) (v := .bool false) #[true, true, true, false, false, false, false, false, false, false, false, false, false, false, false, false, false, false, false, false, false] rfl rfl (by kernel_rfl) (fun _ _ _ h => h) (Or.inl ⟨wanted_none rfl, fun w => by rfl⟩) rfl ?_
            try simp only [Act.put, List.setIfInBounds_toArray, List.set_cons_zero, List.set_cons_succ]
            refine pure_ (i := 3) (N := some 47) (v := .pointer (some ⟨r, 0, Option.none⟩)) #[true, true, true, true, false, false, false, false, false, false, false, false, false, false, false, false, false, false, false, false, false] rfl rfl (by kernel_rfl) (fun _ _ _ h => h) (Or.inl ⟨by rfl, fun w => by rfl⟩) rfl ?_
            try simp only [Act.put, List.setIfInBounds_toArray, List.set_cons_zero, List.set_cons_succ]
            refine pure_ (i := 4) (N := some 48) (v := .pointer (some ⟨r, 0, Option.none⟩)) #[true, true, true, true, true, false, false, false, false, false, false, false, false, false, false, false, false, false, false, false, false] rfl rfl (by kernel_rfl) (fun _ _ _ h => h) (Or.inl ⟨by rfl, fun w => by go_simp⟩) rfl ?_
            try simp only [Act.put, List.setIfInBounds_toArray, List.set_cons_zero, List.set_cons_succ]
            refine pure_ (i := 5) (N := some 49) (v := .pointer (some ⟨r, 13, Option.none⟩)) #[true, true, true, true, true, true, false, false, false, false, false, false, false, false, false, false, false, false, false, false, false] rfl rfl (by kernel_rfl) (fun _ _ _ h => h) (Or.inl ⟨by rfl, fun w => by go_simp⟩) rfl ?_
            try simp only [Act.put, List.setIfInBounds_toArray, List.set_cons_zero, List.set_cons_succ]
            refine take_ (i := 6) (N := some 50) (v := .slice (some ⟨vb, 0, Option.none⟩) h.grp.length h.grp.length) #[true, true, true, true, true, true, true, false, false, false, false, false, false, false, false, false, false, false, false, false, false] rfl rfl (by kernel_rfl) (fun _ _ _ h => h) (Or.inl ⟨by rfl, by intro w' hSw; have q0 := hSw.cell m13 id; go_simp⟩) hS0 rfl ?_
            try simp only [Act.put, List.setIfInBounds_toArray, List.set_cons_zero, List.set_cons_succ]
            refine pure_ (i := 7) (N := some 51) (v := .int .i64 (f : Int)) #[true, true, true, true, true, true, true, true, false, false, false, false, false, false, false, false, false, false, false, false, false] rfl rfl (by kernel_rfl) (fun _ _ _ h => h) (Or.inl ⟨by rfl, fun w => by rfl⟩) rfl ?_
            try simp only [Act.put, List.setIfInBounds_toArray, List.set_cons_zero, List.set_cons_succ]
            refine pure_ (i := 8) (N := some 52) (v := .pointer (some ⟨vb, f * 30, Option.none⟩)) #[true, true, true, true, true, true, true, true, true, false, false, false, false, false, false, false, false, false, false, false, false] rfl rfl (by kernel_rfl) (fun _ _ _ h => h) (Or.inl ⟨by rfl, fun w => by go_simp⟩) rfl ?_
            try simp only [Act.put, List.setIfInBounds_toArray, List.set_cons_zero, List.set_cons_succ]
            refine pure_ (i := 9) (N := some 53) (v := .pointer (some ⟨vb, f * 30 + 11, Option.none⟩)) #[true, true, true, true, true, true, true, true, true, true, false, false, false, false, false, false, false, false, false, false, false] rfl rfl (by kernel_rfl) (fun _ _ _ h => h) (Or.inl ⟨by rfl, fun w => by go_simp⟩) rfl ?_
            try simp only [Act.put, List.setIfInBounds_toArray, List.set_cons_zero, List.set_cons_succ]
            refine take_ (i := 10) (N := some 54) (v := .agg #[.int .i64 qf.st.1, .int .i64 qf.st.2]) #[true, true, true, true, true, true, true, true, true, true, true, false, false, false, false, false, false, false, false, false, false] rfl rfl (by kernel_rfl) (fun _ _ _ h => h) (Or.inl ⟨by rfl, by intro w' hSw; have q0 := hSw.cell d11 id; have q1 := hSw.cell d12 id; go_simp⟩) hS0 rfl ?_
            try simp only [Act.put, List.setIfInBounds_toArray, List.set_cons_zero, List.set_cons_succ]
            refine pure_ (i := 11) (N := some 55) (v := .pointer (some ⟨r, 0, Option.none⟩)) #[true, true, true, true, true, true, true, true, true, true, true, true, false, false, false, false, false, false, false, false, false] rfl rfl (by kernel_rfl) (fun _ _ _ h => h) (Or.inl ⟨by rfl, fun w => by rfl⟩) rfl ?_
            try simp only [Act.put, List.setIfInBounds_toArray, List.set_cons_zero, List.set_cons_succ]
            refine pure_ (i := 12) (N := some 56) (v := .pointer (some ⟨r, 0, Option.none⟩)) #[true, true, true, true, true, true, true, true, true, true, true, true, true, false, false, false, false, false, false, false, false] rfl rfl (by kernel_rfl) (fun _ _ _ h => h) (Or.inl ⟨by rfl, fun w => by go_simp⟩) rfl ?_
            try simp only [Act.put, List.setIfInBounds_toArray, List.set_cons_zero, List.set_cons_succ]
            refine pure_ (i := 13) (N := some 57) (v := .pointer (some ⟨r, 13, Option.none⟩)) #[true, true, true, true, true, true, true, true, true, true, true, true, true, true, false, false, false, false, false, false, false] rfl rfl (by kernel_rfl) (fun _ _ _ h => h) (Or.inl ⟨by rfl, fun w => by go_simp⟩) rfl ?_
            try simp only [Act.put, List.setIfInBounds_toArray, List.set_cons_zero, List.set_cons_succ]
            refine take_ (i := 14) (N := some 58) (v := .slice (some ⟨vb, 0, Option.none⟩) h.grp.length h.grp.length) #[true, true, true, true, true, true, true, true, true, true, true, true, true, true, true, false, false, false, false, false, false] rfl rfl (by kernel_rfl) (fun _ _ _ h => h) (Or.inl ⟨by rfl, by intro w' hSw; have q0 := hSw.cell m13 id; go_simp⟩) hS0 rfl ?_
            try simp only [Act.put, List.setIfInBounds_toArray, List.set_cons_zero, List.set_cons_succ]
            refine pure_ (i := 15) (N := some 59) (v := .int .i64 (k : Int)) #[true, true, true, true, true, true, true, true, true, true, true, true, true, true, true, true, false, false, false, false, false] rfl rfl (by kernel_rfl) (fun _ _ _ h => h) (Or.inl ⟨by rfl, fun w => by rfl⟩) rfl ?_
            try simp only [Act.put, List.setIfInBounds_toArray, List.set_cons_zero, List.set_cons_succ]
            refine pure_ (i := 16) (N := some 60) (v := .pointer (some ⟨vb, k * 30, Option.none⟩)) #[true, true, true, true, true, true, true, true, true, true, true, true, true, true, true, true, true, false, false, false, false] rfl rfl (by kernel_rfl) (fun _ _ _ h => h) (Or.inl ⟨by rfl, fun w => by go_simp⟩) rfl ?_
            try simp only [Act.put, List.setIfInBounds_toArray, List.set_cons_zero, List.set_cons_succ]
            refine pure_ (i := 17) (N := some 61) (v := .pointer (some ⟨vb, k * 30 + 11, Option.none⟩)) #[true, true, true, true, true, true, true, true, true, true, true, true, true, true, true, true, true, true, false, false, false] rfl rfl (by kernel_rfl) (fun _ _ _ h => h) (Or.inl ⟨by rfl, fun w => by go_simp⟩) rfl ?_
            try simp only [Act.put, List.setIfInBounds_toArray, List.set_cons_zero, List.set_cons_succ]
            refine take_ (i := 18) (N := some 62) (v := .agg #[.int .i64 q.st.1, .int .i64 q.st.2]) #[true, true, true, true, true, true, true, true, true, true, true, true, true, true, true, true, true, true, true, false, false] rfl rfl (by kernel_rfl) (fun _ _ _ h => h) (Or.inl ⟨by rfl, by intro w' hSw; have q0 := hSw.cell c11 id; have q1 := hSw.cell c12 id; go_simp⟩) hS0 rfl ?_
            try simp only [Act.put, List.setIfInBounds_toArray, List.set_cons_zero, List.set_cons_succ]
            refine one_ (i := 19) (oi := ({ dst := some 63, op := Op.call { callee := Callee.value (Operand.func 37), args := #[Operand.tmp 54, Operand.tmp 62], argTypes := #[23, 23] }, type := 4, pos := "ref.go:181", after := #[{ on := 10, ground := Ground.data }, { on := 18, ground := Ground.data }, { on := 2, ground := Ground.chain }, { on := 2, ground := Ground.guard }], guard := some (2, false) } : Oper)) (N := some 63) #[true, true, true, true, true, true, true, true, true, true, true, true, true, true, true, true, true, true, true, true, false] rfl rfl (by kernel_rfl) (by decide) ?_
            intro KK hKK
            refine goes_ Try.func37 (by kernel_rfl) rfl #[.agg #[.int .i64 qf.st.1, .int .i64 qf.st.2], .agg #[.int .i64 q.st.1, .int .i64 q.st.2]] (by rfl) rfl rfl (by simp [Act.eval]) ?_
            refine (refless_any qf.st.1 qf.st.2 q.st.1 q.st.2 _).mono ?_
            rintro e wL ⟨rfl, hkL⟩
            rw [HLB.out]
            refine ⟨_, rfl, hKK.out _ _ (hS0.trans hkL) (fun hS1 => ?_)⟩
            try simp only [Act.put, List.setIfInBounds_toArray, List.set_cons_zero, List.set_cons_succ]
            refine pure_ (i := 20) (N := some 64) (v := .bool true) #[true, true, true, true, true, true, true, true, true, true, true, true, true, true, true, true, true, true, true, true, true] rfl rfl (by kernel_rfl) (fun _ _ _ h => h) (Or.inl ⟨wanted_none rfl, fun w => by go_simp⟩) rfl ?_
            try simp only [Act.put, List.setIfInBounds_toArray, List.set_cons_zero, List.set_cons_succ]
            refine done_ (by kernel_rfl) ?_
            have hk9 := hkq.trans hS1
            clear hkw hkq hS0 hKK
            go_wp2_with fail
            go_roundw
            case rel => exact ⟨k + 1, (k : Int), false, by omega, rfl, rfl, by go_num, hSc2, hk9⟩
            case measure => simp [intOf]; omega
          | false =>
            have HLB := Lib.hid hL
            have hsl := HF.out.2.2.2.notLess hL
            rw [← HDB.out] at hsl
            have hSc2 : Hid (Sc h qs (k + 1) (f : Int) (al && Db)) := Lib.hid (.inr ⟨f, s, qf, rfl, HF.out.1, HF.out.2.1, HF.out.2.2.1, by rw [HX.out.2.2]; exact hsl⟩)
            clear hL hsl
            cases Db with
            | true =>
              rw [Bool.and_true] at hSc2
              go_upto_region 7 with (fail)
              go_quiet (fail)
              go_upto_region 9 with (fail)
              obtain ⟨wq, hwq⟩ : ∃ wq, wq = wr.drewN nq := ⟨_, rfl⟩
              have hkw : Keeps None wr wq := by rw [hwq]; exact (Keeps.refl _ _).drewN _
              have hkq := hK.trans hkw
              rw [← hwq]
              have m13 := hkw.cell m13 id
              have c11 := hkw.cell c11 id
              have c12 := hkw.cell c12' id
              have d11 := hkw.cell d11 id
              have d12 := hkw.cell d12 id
              clear hwq
              refine start_ (ds := []) (S := (fun w' => Keeps None wq w')) #[false, false, false, false, false, false, false, false, false, false, false, false, false, false, false, false, false, false, false, false, false] (by kernel_rfl) rfl rfl ((Keeps.refl _ _).drew) (fun hS0 => ?_)
              refine pure_ (i := 0) (N := some 44) (v := .int .i64 (f : Int)) #[true, false, false, false, false, false, false, false, false, false, false, false, false, false, false, false, false, false, false, false, false] rfl rfl (by kernel_rfl) (fun _ _ _ h => h) (Or.inl ⟨wanted_none rfl, fun w => by rfl⟩) rfl ?_
              try simp only [Act.put, List.setIfInBounds_toArray, List.set_cons_zero, List.set_cons_succ]
              refine pure_ (i := 1) (N := some 45) (v := .bool false) #[true, true, false, false, false, false, false, false, false, false, false, false, false, false, false, false, false, false, false, false, false] rfl rfl (by kernel_rfl) (fun _ _ _ h => h) (Or.inl ⟨wanted_none rfl, fun w => by go_simp⟩) rfl ?_
              try simp only [Act.put, List.setIfInBounds_toArray, List.set_cons_zero, List.set_cons_succ]
              refine pure_ (i := 2) (N := some 46) (v := .bool false) #[true, true, true, false, false, false, false, false, false, false, false, false, false, false, false, false, false, false, false, false, false] rfl rfl (by kernel_rfl) (fun _ _ _ h => h) (Or.inl ⟨wanted_none rfl, fun w => by rfl⟩) rfl ?_
              try simp only [Act.put, List.setIfInBounds_toArray, List.set_cons_zero, List.set_cons_succ]
              refine pure_ (i := 3) (N := some 47) (v := .pointer (some ⟨r, 0, Option.none⟩)) #[true, true, true, true, false, false, false, false, false, false, false, false, false, false, false, false, false, false, false, false, false] rfl rfl (by kernel_rfl) (fun _ _ _ h => h) (Or.inl ⟨by rfl, fun w => by rfl⟩) rfl ?_
              try simp only [Act.put, List.setIfInBounds_toArray, List.set_cons_zero, List.set_cons_succ]
              refine pure_ (i := 4) (N := some 48) (v := .pointer (some ⟨r, 0, Option.none⟩)) #[true, true, true, true, true, false, false, false, false, false, false, false, false, false, false, false, false, false, false, false, false] rfl rfl (by kernel_rfl) (fun _ _ _ h => h) (Or.inl ⟨by rfl, fun w => by go_simp⟩) rfl ?_
              try simp only [Act.put, List.setIfInBounds_toArray, List.set_cons_zero, List.set_cons_succ]
              refine pure_ (i := 5) (N := some 49) (v := .pointer (some ⟨r, 13, Option.none⟩)) #[true, true, true, true, true, true, false, false, false, false, false, false, false, false, false, false, false, false, false, false, false] rfl rfl (by kernel_rfl) (fun _ _ _ h => h) (Or.inl ⟨by rfl, fun w => by go_simp⟩) rfl ?_
              try simp only [Act.put, List.setIfInBounds_toArray, List.set_cons_zero, List.set_cons_succ]
              refine take_ (i := 6) (N := some 50) (v := .slice (some ⟨vb, 0, Option.none⟩) h.grp.length h.grp.length) #[true, true, true, true, true, true, true, false, false, false, false, false, false, false, false, false, false, false, false, false, false] rfl rfl (by kernel_rfl) (fun _ _ _ h => h) (Or.inl ⟨by rfl, by intro w' hSw; have q0 := hSw.cell m13 id; go_simp⟩) hS0 rfl ?_
              try simp only [Act.put, List.setIfInBounds_toArray, List.set_cons_zero, List.set_cons_succ]
              refine pure_ (i := 7) (N := some 51) (v := .int .i64 (f : Int)) #[true, true, true, true, true, true, true, true, false, false, false, false, false, false, false, false, false, false, false, false, false] rfl rfl (by kernel_rfl) (fun _ _ _ h => h) (Or.inl ⟨by rfl, fun w => by rfl⟩) rfl ?_
              try simp only [Act.put, List.setIfInBounds_toArray, List.set_cons_zero, List.set_cons_succ]
              refine pure_ (i := 8) (N := some 52) (v := .pointer (some ⟨vb, f * 30, Option.none⟩)) #[true, true, true, true, true, true, true, true, true, false, false, false, false, false, false, false, false, false, false, false, false] rfl rfl (by kernel_rfl) (fun _ _ _ h => h) (Or.inl ⟨by rfl, fun w => by go_simp⟩) rfl ?_
              try simp only [Act.put, List.setIfInBounds_toArray, List.set_cons_zero, List.set_cons_succ]
              refine pure_ (i := 9) (N := some 53) (v := .pointer (some ⟨vb, f * 30 + 11, Option.none⟩)) #[true, true, true, true, true, true, true, true, true, true, false, false, false, false, false, false, false, false, false, false, false] rfl rfl (by kernel_rfl) (fun _ _ _ h => h) (Or.inl ⟨by rfl, fun w => by go_simp⟩) rfl ?_
              try simp only [Act.put, List.setIfInBounds_toArray, List.set_cons_zero, List.set_cons_succ]
              refine take_ (i := 10) (N := some 54) (v := .agg #[.int .i64 qf.st.1, .int .i64 qf.st.2]) #[true, true, true, true, true, true, true, true, true, true, true, false, false, false, false, false, false, false, false, false, false] rfl rfl (by kernel_rfl) (fun _ _ _ h => h) (Or.inl ⟨by rfl, by intro w' hSw; have q0 := hSw.cell d11 id; have q1 := hSw.cell d12 id; go_simp⟩) hS0 rfl ?_
              try simp only [Act.put, List.setIfInBounds_toArray, List.set_cons_zero, List.set_cons_succ]
              refine pure_ (i := 11) (N := some 55) (v := .pointer (some ⟨r, 0, Option.none⟩)) #[true, true, true, true, true, true, true, true, true, true, true, true, false, false, false, false, false, false, false, false, false] rfl rfl (by kernel_rfl) (fun _ _ _ h => h) (Or.inl ⟨by rfl, fun w => by rfl⟩) rfl ?_
              try simp only [Act.put, List.setIfInBounds_toArray, List.set_cons_zero, List.set_cons_succ]
              refine pure_ (i := 12) (N := some 56) (v := .pointer (some ⟨r, 0, Option.none⟩)) #[true, true, true, true, true, true, true, true, true, true, true, true, true, false, false, false, false, false, false, false, false] rfl rfl (by kernel_rfl) (fun _ _ _ h => h) (Or.inl ⟨by rfl, fun w => by go_simp⟩) rfl ?_
              try simp only [Act.put, List.setIfInBounds_toArray, List.set_cons_zero, List.set_cons_succ]
              refine pure_ (i := 13) (N := some 57) (v := .pointer (some ⟨r, 13, Option.none⟩)) #[true, true, true, true, true, true, true, true, true, true, true, true, true, true, false, false, false, false, false, false, false] rfl rfl (by kernel_rfl) (fun _ _ _ h => h) (Or.inl ⟨by rfl, fun w => by go_simp⟩) rfl ?_
              try simp only [Act.put, List.setIfInBounds_toArray, List.set_cons_zero, List.set_cons_succ]
              refine take_ (i := 14) (N := some 58) (v := .slice (some ⟨vb, 0, Option.none⟩) h.grp.length h.grp.length) #[true, true, true, true, true, true, true, true, true, true, true, true, true, true, true, false, false, false, false, false, false] rfl rfl (by kernel_rfl) (fun _ _ _ h => h) (Or.inl ⟨by rfl, by intro w' hSw; have q0 := hSw.cell m13 id; go_simp⟩) hS0 rfl ?_
              try simp only [Act.put, List.setIfInBounds_toArray, List.set_cons_zero, List.set_cons_succ]
              refine pure_ (i := 15) (N := some 59) (v := .int .i64 (k : Int)) #[true, true, true, true, true, true, true, true, true, true, true, true, true, true, true, true, false, false, false, false, false] rfl rfl (by kernel_rfl) (fun _ _ _ h => h) (Or.inl ⟨by rfl, fun w => by rfl⟩) rfl ?_
              try simp only [Act.put, List.setIfInBounds_toArray, List.set_cons_zero, List.set_cons_succ]
              refine pure_ (i := 16) (N := some 60) (v := .pointer (some ⟨vb, k * 30, Option.none⟩)) #[true, true, true, true, true, true, true, true, true, true, true, true, true, true, true, true, true, false, false, false, false] rfl rfl (by kernel_rfl) (fun _ _ _ h => h) (Or.inl ⟨by rfl, fun w => by go_simp⟩) rfl ?_
              try simp only [Act.put, List.setIfInBounds_toArray, List.set_cons_zero, List.set_cons_succ]
              refine pure_ (i := 17) (N := some 61) (v := .pointer (some ⟨vb, k * 30 + 11, Option.none⟩)) #[true, true, true, true, true, true, true, true, true, true, true, true, true, true, true, true, true, true, false, false, false] rfl rfl (by kernel_rfl) (fun _ _ _ h => h) (Or.inl ⟨by rfl, fun w => by go_simp⟩) rfl ?_
              try simp only [Act.put, List.setIfInBounds_toArray, List.set_cons_zero, List.set_cons_succ]
              refine take_ (i := 18) (N := some 62) (v := .agg #[.int .i64 q.st.1, .int .i64 q.st.2]) #[true, true, true, true, true, true, true, true, true, true, true, true, true, true, true, true, true, true, true, false, false] rfl rfl (by kernel_rfl) (fun _ _ _ h => h) (Or.inl ⟨by rfl, by intro w' hSw; have q0 := hSw.cell c11 id; have q1 := hSw.cell c12 id; go_simp⟩) hS0 rfl ?_
              try simp only [Act.put, List.setIfInBounds_toArray, List.set_cons_zero, List.set_cons_succ]
              refine one_ (i := 19) (oi := ({ dst := some 63, op := Op.call { callee := Callee.value (Operand.func 37), args := #[Operand.tmp 54, Operand.tmp 62], argTypes := #[23, 23] }, type := 4, pos := "ref.go:181", after := #[{ on := 10, ground := Ground.data }, { on := 18, ground := Ground.data }, { on := 2, ground := Ground.chain }, { on := 2, ground := Ground.guard }], guard := some (2, false) } : Oper)) (N := some 63) #[true, true, true, true, true, true, true, true, true, true, true, true, true, true, true, true, true, true, true, true, false] rfl rfl (by kernel_rfl) (by decide) ?_
              intro KK hKK
              refine goes_ Try.func37 (by kernel_rfl) rfl #[.agg #[.int .i64 qf.st.1, .int .i64 qf.st.2], .agg #[.int .i64 q.st.1, .int .i64 q.st.2]] (by rfl) rfl rfl (by simp [Act.eval]) ?_
              refine (refless_any qf.st.1 qf.st.2 q.st.1 q.st.2 _).mono ?_
              rintro e wL ⟨rfl, hkL⟩
              rw [HLB.out]
              refine ⟨_, rfl, hKK.out _ _ (hS0.trans hkL) (fun hS1 => ?_)⟩
              try simp only [Act.put, List.setIfInBounds_toArray, List.set_cons_zero, List.set_cons_succ]
              refine pure_ (i := 20) (N := some 64) (v := .bool false) #[true, true, true, true, true, true, true, true, true, true, true, true, true, true, true, true, true, true, true, true, true] rfl rfl (by kernel_rfl) (fun _ _ _ h => h) (Or.inl ⟨wanted_none rfl, fun w => by go_simp⟩) rfl ?_
              try simp only [Act.put, List.setIfInBounds_toArray, List.set_cons_zero, List.set_cons_succ]
              refine done_ (by kernel_rfl) ?_
              have hk9 := hkq.trans hS1
              clear hkw hkq hS0 hKK
              go_wp2_with fail
              go_roundw
              case rel => exact ⟨k + 1, (f : Int), al, by omega, rfl, rfl, by go_num, hSc2, hk9⟩
              case measure => simp [intOf]; omega
            | false =>
              rw [Bool.and_false] at hSc2
              go_upto_region 7 with (fail)
              go_quiet (fail)
              go_upto_region 9 with (fail)
              obtain ⟨wq, hwq⟩ : ∃ wq, wq = wr.drewN nq := ⟨_, rfl⟩
              have hkw : Keeps None wr wq := by rw [hwq]; exact (Keeps.refl _ _).drewN _
              have hkq := hK.trans hkw
              rw [← hwq]
              have m13 := hkw.cell m13 id
              have c11 := hkw.cell c11 id
              have c12 := hkw.cell c12' id
              have d11 := hkw.cell d11 id
              have d12 := hkw.cell d12 id
              clear hwq
              refine start_ (ds := []) (S := (fun w' => Keeps None wq w')) #[false, false, false, false, false, false, false, false, false, false, false, false, false, false, false, false, false, false, false, false, false] (by kernel_rfl) rfl rfl ((Keeps.refl _ _).drew) (fun hS0 => ?_)
              refine pure_ (i := 0) (N := some 44) (v := .int .i64 (f : Int)) #[true, false, false, false, false, false, false, false, false, false, false, false, false, false, false, false, false, false, false, false, false] rfl rfl (by kernel_rfl) (fun _ _ _ h => h) (Or.inl ⟨wanted_none rfl, fun w => by rfl⟩) rfl ?_
              try simp only [Act.put, List.setIfInBounds_toArray, List.set_cons_zero, List.set_cons_succ]
              refine pure_ (i := 1) (N := some 45) (v := .bool false) #[true, true, false, false, false, false, false, false, false, false, false, false, false, false, false, false, false, false, false, false, false] rfl rfl (by kernel_rfl) (fun _ _ _ h => h) (Or.inl ⟨wanted_none rfl, fun w => by go_simp⟩) rfl ?_
              try simp only [Act.put, List.setIfInBounds_toArray, List.set_cons_zero, List.set_cons_succ]
              refine pure_ (i := 2) (N := some 46) (v := .bool false) #[true, true, true, false, false, false, false, false, false, false, false, false, false, false, false, false, false, false, false, false, false] rfl rfl (by kernel_rfl) (fun _ _ _ h => h) (Or.inl ⟨wanted_none rfl, fun w => by rfl⟩) rfl ?_
              try simp only [Act.put, List.setIfInBounds_toArray, List.set_cons_zero, List.set_cons_succ]
              refine pure_ (i := 3) (N := some 47) (v := .pointer (some ⟨r, 0, Option.none⟩)) #[true, true, true, true, false, false, false, false, false, false, false, false, false, false, false, false, false, false, false, false, false] rfl rfl (by kernel_rfl) (fun _ _ _ h => h) (Or.inl ⟨by rfl, fun w => by rfl⟩) rfl ?_
              try simp only [Act.put, List.setIfInBounds_toArray, List.set_cons_zero, List.set_cons_succ]
              refine pure_ (i := 4) (N := some 48) (v := .pointer (some ⟨r, 0, Option.none⟩)) #[true, true, true, true, true, false, false, false, false, false, false, false, false, false, false, false, false, false, false, false, false] rfl rfl (by kernel_rfl) (fun _ _ _ h => h) (Or.inl ⟨by rfl, fun w => by go_simp⟩) rfl ?_
              try simp only [Act.put, List.setIfInBounds_toArray, List.set_cons_zero, List.set_cons_succ]
              refine pure_ (i := 5) (N := some 49) (v := .pointer (some ⟨r, 13, Option.none⟩)) #[true, true, true, true, true, true, false, false, false, false, false, false, false, false, false, false, false, false, false, false, false] rfl rfl (by kernel_rfl) (fun _ _ _ h => h) (Or.inl ⟨by rfl, fun w => by go_simp⟩) rfl ?_
              try simp only [Act.put, List.setIfInBounds_toArray, List.set_cons_zero, List.set_cons_succ]
              refine take_ (i := 6) (N := some 50) (v := .slice (some ⟨vb, 0, Option.none⟩) h.grp.length h.grp.length) #[true, true, true, true, true, true, true, false, false, false, false, false, false, false, false, false, false, false, false, false, false] rfl rfl (by kernel_rfl) (fun _ _ _ h => h) (Or.inl ⟨by rfl, by intro w' hSw; have q0 := hSw.cell m13 id; go_simp⟩) hS0 rfl ?_
              try simp only [Act.put, List.setIfInBounds_toArray, List.set_cons_zero, List.set_cons_succ]
              refine pure_ (i := 7) (N := some 51) (v := .int .i64 (f : Int)) #[true, true, true, true, true, true, true, true, false, false, false, false, false, false, false, false, false, false, false, false, false] rfl rfl (by kernel_rfl) (fun _ _ _ h => h) (Or.inl ⟨by rfl, fun w => by rfl⟩) rfl ?_
              try simp only [Act.put, List.setIfInBounds_toArray, List.set_cons_zero, List.set_cons_succ]
              refine pure_ (i := 8) (N := some 52) (v := .pointer (some ⟨vb, f * 30, Option.none⟩)) #[true, true, true, true, true, true, true, true, true, false, false, false, false, false, false, false, false, false, false, false, false] rfl rfl (by kernel_rfl) (fun _ _ _ h => h) (Or.inl ⟨by rfl, fun w => by go_simp⟩) rfl ?_
              try simp only [Act.put, List.setIfInBounds_toArray, List.set_cons_zero, List.set_cons_succ]
              refine pure_ (i := 9) (N := some 53) (v := .pointer (some ⟨vb, f * 30 + 11, Option.none⟩)) #[true, true, true, true, true, true, true, true, true, true, false, false, false, false, false, false, false, false, false, false, false] rfl rfl (by kernel_rfl) (fun _ _ _ h => h) (Or.inl ⟨by rfl, fun w => by go_simp⟩) rfl ?_
              try simp only [Act.put, List.setIfInBounds_toArray, List.set_cons_zero, List.set_cons_succ]
              refine take_ (i := 10) (N := some 54) (v := .agg #[.int .i64 qf.st.1, .int .i64 qf.st.2]) #[true, true, true, true, true, true, true, true, true, true, true, false, false, false, false, false, false, false, false, false, false] rfl rfl (by kernel_rfl) (fun _ _ _ h => h) (Or.inl ⟨by rfl, by intro w' hSw; have q0 := hSw.cell d11 id; have q1 := hSw.cell d12 id; go_simp⟩) hS0 rfl ?_
              try simp only [Act.put, List.setIfInBounds_toArray, List.set_cons_zero, List.set_cons_succ]
              refine pure_ (i := 11) (N := some 55) (v := .pointer (some ⟨r, 0, Option.none⟩)) #[true, true, true, true, true, true, true, true, true, true, true, true, false, false, false, false, false, false, false, false, false] rfl rfl (by kernel_rfl) (fun _ _ _ h => h) (Or.inl ⟨by rfl, fun w => by rfl⟩) rfl ?_
              try simp only [Act.put, List.setIfInBounds_toArray, List.set_cons_zero, List.set_cons_succ]
              refine pure_ (i := 12) (N := some 56) (v := .pointer (some ⟨r, 0, Option.none⟩)) #[true, true, true, true, true, true, true, true, true, true, true, true, true, false, false, false, false, false, false, false, false] rfl rfl (by kernel_rfl) (fun _ _ _ h => h) (Or.inl ⟨by rfl, fun w => by go_simp⟩) rfl ?_
              try simp only [Act.put, List.setIfInBounds_toArray, List.set_cons_zero, List.set_cons_succ]
              refine pure_ (i := 13) (N := some 57) (v := .pointer (some ⟨r, 13, Option.none⟩)) #[true, true, true, true, true, true, true, true, true, true, true, true, true, true, false, false, false, false, false, false, false] rfl rfl (by kernel_rfl) (fun _ _ _ h => h) (Or.inl ⟨by rfl, fun w => by go_simp⟩) rfl ?_
              try simp only [Act.put, List.setIfInBounds_toArray, List.set_cons_zero, List.set_cons_succ]
              refine take_ (i := 14) (N := some 58) (v := .slice (some ⟨vb, 0, Option.none⟩) h.grp.length h.grp.length) #[true, true, true, true, true, true, true, true, true, true, true, true, true, true, true, false, false, false, false, false, false] rfl rfl (by kernel_rfl) (fun _ _ _ h => h) (Or.inl ⟨by rfl, by intro w' hSw; have q0 := hSw.cell m13 id; go_simp⟩) hS0 rfl ?_
              try simp only [Act.put, List.setIfInBounds_toArray, List.set_cons_zero, List.set_cons_succ]
              refine pure_ (i := 15) (N := some 59) (v := .int .i64 (k : Int)) #[true, true, true, true, true, true, true, true, true, true, true, true, true, true, true, true, false, false, false, false, false] rfl rfl (by kernel_rfl) (fun _ _ _ h => h) (Or.inl ⟨by rfl, fun w => by rfl⟩) rfl ?_
              try simp only [Act.put, List.setIfInBounds_toArray, List.set_cons_zero, List.set_cons_succ]
              refine pure_ (i := 16) (N := some 60) (v := .pointer (some ⟨vb, k * 30, Option.none⟩)) #[true, true, true, true, true, true, true, true, true, true, true, true, true, true, true, true, true, false, false, false, false] rfl rfl (by kernel_rfl) (fun _ _ _ h => h) (Or.inl ⟨by rfl, fun w => by go_simp⟩) rfl ?_
              try simp only [Act.put, List.setIfInBounds_toArray, List.set_cons_zero, List.set_cons_succ]
              refine pure_ (i := 17) (N := some 61) (v := .pointer (some ⟨vb, k * 30 + 11, Option.none⟩)) #[true, true, true, true, true, true, true, true, true, true, true, true, true, true, true, true, true, true, false, false, false] rfl rfl (by kernel_rfl) (fun _ _ _ h => h) (Or.inl ⟨by rfl, fun w => by go_simp⟩) rfl ?_
              try simp only [Act.put, List.setIfInBounds_toArray, List.set_cons_zero, List.set_cons_succ]
              refine take_ (i := 18) (N := some 62) (v := .agg #[.int .i64 q.st.1, .int .i64 q.st.2]) #[true, true, true, true, true, true, true, true, true, true, true, true, true, true, true, true, true, true, true, false, false] rfl rfl (by kernel_rfl) (fun _ _ _ h => h) (Or.inl ⟨by rfl, by intro w' hSw; have q0 := hSw.cell c11 id; have q1 := hSw.cell c12 id; go_simp⟩) hS0 rfl ?_
              try simp only [Act.put, List.setIfInBounds_toArray, List.set_cons_zero, List.set_cons_succ]
              refine one_ (i := 19) (oi := ({ dst := some 63, op := Op.call { callee := Callee.value (Operand.func 37), args := #[Operand.tmp 54, Operand.tmp 62], argTypes := #[23, 23] }, type := 4, pos := "ref.go:181", after := #[{ on := 10, ground := Ground.data }, { on := 18, ground := Ground.data }, { on := 2, ground := Ground.chain }, { on := 2, ground := Ground.guard }], guard := some (2, false) } : Oper)) (N := some 63) #[true, true, true, true, true, true, true, true, true, true, true, true, true, true, true, true, true, true, true, true, false] rfl rfl (by kernel_rfl) (by decide) ?_
              intro KK hKK
              refine goes_ Try.func37 (by kernel_rfl) rfl #[.agg #[.int .i64 qf.st.1, .int .i64 qf.st.2], .agg #[.int .i64 q.st.1, .int .i64 q.st.2]] (by rfl) rfl rfl (by simp [Act.eval]) ?_
              refine (refless_any qf.st.1 qf.st.2 q.st.1 q.st.2 _).mono ?_
              rintro e wL ⟨rfl, hkL⟩
              rw [HLB.out]
              refine ⟨_, rfl, hKK.out _ _ (hS0.trans hkL) (fun hS1 => ?_)⟩
              try simp only [Act.put, List.setIfInBounds_toArray, List.set_cons_zero, List.set_cons_succ]
              refine pure_ (i := 20) (N := some 64) (v := .bool false) #[true, true, true, true, true, true, true, true, true, true, true, true, true, true, true, true, true, true, true, true, true] rfl rfl (by kernel_rfl) (fun _ _ _ h => h) (Or.inl ⟨wanted_none rfl, fun w => by go_simp⟩) rfl ?_
              try simp only [Act.put, List.setIfInBounds_toArray, List.set_cons_zero, List.set_cons_succ]
              refine done_ (by kernel_rfl) ?_
              have hk9 := hkq.trans hS1
              clear hkw hkq hS0 hKK
              go_wp2_with fail
              go_roundw
              case rel => exact ⟨k + 1, (f : Int), false, by omega, rfl, rfl, by go_num, hSc2, hk9⟩
              case measure => simp [intOf]; omega
    · obtain rfl : k = h.grp.length := by omega
      have hS := hSc.out
      unfold Sc at hS
      rw [List.take_of_length_le (Nat.le_refl _)] at hS
      rcases hS with ⟨e1, -⟩ | ⟨f, s, q, rfl, hf, hfs, hfq, hscan⟩
      case inl => exact absurd e1 HNE.out
      obtain ⟨l, hl⟩ : ∃ l, l = ansA h.grp qs := ⟨_, rfl⟩
      rw [← hl] at hscan
      have HSF2 : Hid (SF = secondF h round l) := Lib.hid (by rw [hl]; exact HSF.out)
      have hVr := hV.keeps hK (fun _ _ => id) id
      obtain ⟨dvf, d11, d12, d15, D, dc, rfl, hDn, hDp, hDl⟩ := hVr.at_ f q.st q.ds hf (by unfold ansF; rw [hfs]; simp [hfq])
      have hgq : gOf l = q.st := hscan.st.symm
      have HSC := Lib.hid hscan
      have HGQ := Lib.hid hgq
      have m14 := hBr.cell 14 _ rfl
      have m15 := hBr.cell 15 _ rfl
      have f14 := hBr.free 14
      have f15 := hBr.free 15
      clear hSc hscan hgq hfs hfq hl HNE m12
      go_upto_region 12 with (fail)
      have hB1 : Blk ((wr.setCell ⟨r, 14, Option.none⟩ (.int .i64 q.st.1)).setCell ⟨r, 15, Option.none⟩ (.int .i64 q.st.2)) r 86 (rcells h rsz (.slice Ag h.grp.length cg) round (.slice B bn bc) 1 (.slice (some ⟨ab, 0, Option.none⟩) h.grp.length h.grp.length) (.slice (some ⟨vb, 0, Option.none⟩) h.grp.length h.grp.length) q.st.1 q.st.2 err) := (hBr.set 14 (.int .i64 q.st.1)).set 15 (.int .i64 q.st.2)
      have k1 : Keeps (One r) wr ((wr.setCell ⟨r, 14, Option.none⟩ (.int .i64 q.st.1)).setCell ⟨r, 15, Option.none⟩ (.int .i64 q.st.2)) := ((Keeps.refl (One r) wr).setCell ⟨r, 14, Option.none⟩ _ (fun _ => rfl)).setCell ⟨r, 15, Option.none⟩ _ (fun _ => rfl)
      obtain ⟨W1, hW1⟩ : ∃ W, W = (wr.setCell ⟨r, 14, Option.none⟩ (.int .i64 q.st.1)).setCell ⟨r, 15, Option.none⟩ (.int .i64 q.st.2) := ⟨_, rfl⟩
      rw [← hW1] at hB1 k1
      rw [← hW1]
      clear hW1 m7 m13 m14 m15 f14 f15 d11 d12
      have d15 := k1.cell d15 nvr
      have kk1 : Keeps (One r) w W1 := hK.of_none.trans k1
      have m0 := hB1.cell 0 _ rfl
      have fR : ∀ b, Rd base Z W b → b ≠ r := fun b e f => e.2 (f ▸ hr)
      have hD1 : Dat W1 (Rd base Z W) (.slice D q.ds.length dc) q.ds := Dat.keeps ⟨D, dc, rfl, hDn, hDp, hDl⟩ k1 (fun b e f => fR b e f)
      have kW1 : Keeps W w W1 := kk1.mono (fun b _ e => e ▸ hr)
      have hs1 := kk1.size
      have m8 := hB1.cell 8 _ rfl
      have HFR := Lib.hid fR
      clear HSF hDn hDp hDl hVr hB hBr hA hArr hlt hk fR k1 kk1 hK hV
      cases hw : h.wr
      case' true =>
        rw [hw] at m0
        have m14 := hB1.cell 14 _ rfl
        by_cases hbig : 1099511627776 ≤ q.st.1
        case pos =>
          have HE := Lib.hid (secondF_big (round := round) (l := l) hw (by rw [HGQ.out]; exact hbig))
          clear hw
          go_wp2_with fail
          refine (refend_any r h rsz round _ _ 1 _ _ q.st.1 q.st.2 err 4 W1 hB1).mono ?_
          rintro e w5 ⟨rfl, hB5, hk5⟩
          go_wp2_with fail
          go_ret
          rw [HSF2.out, HE.out]
          have kW := kW1.trans (hk5.mono (T := W) (fun b _ e => e ▸ hr))
          exact ⟨Z, W, _, rfl, ⟨⟨_, rsz, _, 3, _, _, _, _, 4, hB5, hG.keeps kW (fun b e f => (HGZ.out b e).2 f), HGZ.out, HRS.out, ⟨rfl, rfl, fun e => absurd e (by decide), fun _ => ⟨rfl, rfl, rfl⟩⟩, ⟨_, _, _, rfl⟩, ⟨_, _, _, rfl⟩, ⟨_, _, _, rfl⟩⟩, hr, hW, fun b e => ⟨(hZ b e).1, Nat.lt_of_lt_of_le (hZ b e).2 kW.size⟩, ok⟩, rfl, fun _ e => e, fun _ e => .inl e, kW⟩
        case' neg =>
          have HE := Lib.hid (secondF_write (round := round) (l := l) hw (by rw [HGQ.out]; exact hbig))
          have HWR := Lib.hid hw
          obtain ⟨T, hT⟩ : ∃ T, T = wrap64 (q.st.1 + 1) := ⟨_, rfl⟩
          have hwT : IntKind.i64.wrap (q.st.1 + 1) = T := by rw [i64_w, hT]
          have HT := Lib.hid hT
          have m1 := hB1.cell 1 _ rfl
          clear hw hT
          go_upto_region 15 with (fail)
          go_still_tail 14, (by kernel_rfl)
          change wpList _ _ _ _ _ W1.drew
          have kd : Keeps None W1 W1.drew := (Keeps.refl None W1).drew
          obtain ⟨W2, hW2⟩ : ∃ W, W = W1.drew := ⟨_, rfl⟩
          rw [← hW2] at kd
          rw [← hW2]
          have hB2 := hB1.grew kd
          have m14 := hB2.cell 14 _ rfl
          have m15 := hB2.cell 15 _ rfl
          have f14 := hB2.free 14
          have f15 := hB2.free 15
          have m8 := hB2.cell 8 _ rfl
          clear hW2 m0 m1
          go_upto_region 21 with (fail)
          have hB4 : Blk ((W2.setCell ⟨r, 14, Option.none⟩ (.int .i64 T)).setCell ⟨r, 15, Option.none⟩ (.int .i64 h.client)) r 86 (rcells h rsz (.slice Ag h.grp.length cg) round (.slice B bn bc) 1 (.slice (some ⟨ab, 0, Option.none⟩) h.grp.length h.grp.length) (.slice (some ⟨vb, 0, Option.none⟩) h.grp.length h.grp.length) T h.client err) := (hB2.set 14 (.int .i64 T)).set 15 (.int .i64 h.client)
          have k4 : Keeps (One r) W2 ((W2.setCell ⟨r, 14, Option.none⟩ (.int .i64 T)).setCell ⟨r, 15, Option.none⟩ (.int .i64 h.client)) := ((Keeps.refl (One r) W2).setCell ⟨r, 14, Option.none⟩ _ (fun _ => rfl)).setCell ⟨r, 15, Option.none⟩ _ (fun _ => rfl)
          obtain ⟨W5, hW5⟩ : ∃ W, W = (W2.setCell ⟨r, 14, Option.none⟩ (.int .i64 T)).setCell ⟨r, 15, Option.none⟩ (.int .i64 h.client) := ⟨_, rfl⟩
          rw [← hW5] at hB4 k4
          rw [← hW5]
          clear hW5 m14 m15 f14 f15
          have kW5 : Keeps W w W5 := (kW1.trans kd.of_none).trans (k4.mono (T := W) (fun b _ e => e ▸ hr))
          obtain ⟨DA, dcA, ed, hdn, hdp, hdl⟩ := (HDAT.out HWR.out).keeps kW5 (fun b e f => e.2 f)
          obtain ⟨rfl, rfl, rfl⟩ := Value.slice.inj ed
          have PK : ∃ (tg : Int × Int) (data : List Int) (DA : Option Addr) (dcA : Nat) (Z5 : Nat → Prop), Hid (SF = if 1099511627776 ≤ round then (round, .ended 4 (0, 0) [], .no) else (round + 1, .laying [] tg data, .msgs 2 (round + 1) tg data h.grp)) ∧ Blk W5 r 86 (rcells h rsz (.slice Ag h.grp.length cg) round (.slice DA data.length dcA) 1 (.slice (some ⟨ab, 0, Option.none⟩) h.grp.length h.grp.length) (.slice (some ⟨vb, 0, Option.none⟩) h.grp.length h.grp.length) tg.1 tg.2 err) ∧ Dat W5 (Rd base Z5 W) (.slice DA data.length dcA) data ∧ (∀ b, Z b → Z5 b) ∧ (∀ b, Z5 b → Z b ∨ w.heap.size ≤ b) ∧ (∀ b, Z5 b → base ≤ b ∧ b < W5.heap.size) ∧ Keeps W w W5 :=
            ⟨(T, h.client), h.blk, _, _, Z, Lib.hid (by rw [HSF2.out, HE.out, HGQ.out, HT.out]), hB4, ⟨_, _, rfl, hdn, hdp, hdl⟩, fun _ e => e, fun _ e => .inl e, fun b e => ⟨(hZ b e).1, Nat.lt_of_lt_of_le (hZ b e).2 kW5.size⟩, kW5⟩
          clear hB4 k4 kd hB2 hwT HT HE HWR hbig hdn hdp hdl kW5 hD1 kW1 hB1
      case' false =>
        rw [hw] at m0
        have HWR := Lib.hid hw
        clear hw
        have m13 := hB1.cell 13 _ rfl
        have m10 := hB1.cell 10 _ rfl
        have f10 := hB1.free 10
        go_upto_region 17 with (fail)
        have hB2 : Blk (W1.setCell ⟨r, 10, Option.none⟩ (.slice D q.ds.length dc)) r 86 (rcells h rsz (.slice Ag h.grp.length cg) round (.slice D q.ds.length dc) 1 (.slice (some ⟨ab, 0, Option.none⟩) h.grp.length h.grp.length) (.slice (some ⟨vb, 0, Option.none⟩) h.grp.length h.grp.length) q.st.1 q.st.2 err) := hB1.set 10 (.slice D q.ds.length dc)
        have k2 : Keeps (One r) W1 (W1.setCell ⟨r, 10, Option.none⟩ (.slice D q.ds.length dc)) := (Keeps.refl (One r) W1).setCell ⟨r, 10, Option.none⟩ _ (fun _ => rfl)
        obtain ⟨W2, hW2⟩ : ∃ W, W = W1.setCell ⟨r, 10, Option.none⟩ (.slice D q.ds.length dc) := ⟨_, rfl⟩
        rw [← hW2] at hB2 k2
        rw [← hW2]
        clear hW2 m0 m13 m10 f10 d15
        have kW2 : Keeps W w W2 := kW1.trans (k2.mono (T := W) (fun b _ e => e ▸ hr))
        have hD2 := hD1.keeps k2 (fun b e f => HFR.out b e f)
        have m14 := hB2.cell 14 _ rfl
        have m15 := hB2.cell 15 _ rfl
        have m8 := hB2.cell 8 _ rfl
        obtain ⟨Ze, hZe⟩ : ∃ Z, Z = decide (q.st.1 = 0 ∧ q.st.2 = 0) := ⟨_, rfl⟩
        have heql : ∀ w, (binOp .eql 23 (.agg #[.int .i64 q.st.1, .int .i64 q.st.2]) (.agg #[.int .i64 0, .int .i64 0])).run Try.prog w = .ok (.bool Ze) w := fun w => by rw [eql_stamp, hZe]
        have HZE := Lib.hid hZe
        clear hZe hD1 kW1 hB1 k2
        cases Ze
        case' true =>
          have hq0 : q.st = (0, 0) := by have := of_decide_eq_true HZE.out.symm; exact Prod.ext this.1 this.2
          obtain ⟨n, hn⟩ : ∃ n : Nat, h.size = (n : Int) := ⟨h.size.toNat, by have := ok.size.1; omega⟩
          have hn2 : n ≤ 4096 := by have := ok.size.2; omega
          have hrz := HRS.out HWR.out
          rw [hrz, hn] at hB2
          have HN := Lib.hid hn
          have HRZ := Lib.hid hrz
          have HQ0 := Lib.hid hq0
          clear hn hrz hq0
          obtain ⟨C0, hC0⟩ : ∃ C, C = madeCells #[Value.int .u8 0] n := ⟨_, rfl⟩
          have hmk : ∀ w : World, (Instr.makeSlice 24 (.int .i64 (n : Int)) (.int .i64 (n : Int))).run Try.prog w = .ok (.slice (some ⟨w.heap.size, 0, Option.none⟩) n n) (w.alloc (.cells C0 5)) := fun w => by
            rw [hC0]
            exact run_make_row' 24 5 (.int .u8 0) 1 Try.underlying24 Try.infoU8 rfl .i64 .i64 n (by omega) (by omega) w
          have HC0 := Lib.hid hC0
          clear hC0
          have hrl2 := hB2.lt
          have m9 := hB2.cell 9 _ rfl
          have m10 := hB2.cell 10 _ rfl
          have f10 := hB2.free 10
          go_upto_region 19 with (fail)
          have hB3 : Blk (W2.setCell ⟨r, 10, Option.none⟩ (.slice (some ⟨W2.heap.size, 0, Option.none⟩) n n)) r 86 (rcells h n (.slice Ag h.grp.length cg) round (.slice (some ⟨W2.heap.size, 0, Option.none⟩) n n) 1 (.slice (some ⟨ab, 0, Option.none⟩) h.grp.length h.grp.length) (.slice (some ⟨vb, 0, Option.none⟩) h.grp.length h.grp.length) q.st.1 q.st.2 err) := hB2.set 10 (.slice (some ⟨W2.heap.size, 0, Option.none⟩) n n)
          have k3 : Keeps (One r) W2 (W2.setCell ⟨r, 10, Option.none⟩ (.slice (some ⟨W2.heap.size, 0, Option.none⟩) n n)) := (Keeps.refl (One r) W2).setCell ⟨r, 10, Option.none⟩ _ (fun _ => rfl)
          obtain ⟨nb, hnb⟩ : ∃ x, x = W2.heap.size := ⟨_, rfl⟩
          rw [← hnb] at hB3 k3
          rw [← hnb]
          obtain ⟨W3, hW3⟩ : ∃ W, W = W2.setCell ⟨r, 10, Option.none⟩ (.slice (some ⟨nb, 0, Option.none⟩) n n) := ⟨_, rfl⟩
          have hs3 : W3.heap.size = nb := by rw [hW3, hnb]; simp
          rw [← hW3] at hB3 k3
          rw [← hW3]
          have hB4 := hB3.alloc (.cells C0 5)
          have k4 : Keeps (One r) W2 (W3.alloc (.cells C0 5)) := k3.alloc _
          have hN4 : Nums .u8 (W3.alloc (.cells C0 5)) (some ⟨nb, 0, Option.none⟩) (List.replicate n 0) := by
            have := Blk.new W3 5 C0.toList
            rw [Array.toArray_toList, hs3] at this
            exact this.nums 0 (List.replicate n 0) (by rw [HC0.out, zeros_u8]; simp)
          have hs4 : (W3.alloc (.cells C0 5)).heap.size = nb + 1 := by rw [World.size_alloc, hs3]
          obtain ⟨W4, hW4⟩ : ∃ W, W = W3.alloc (.cells C0 5) := ⟨_, rfl⟩
          rw [← hW4] at hB4 k4 hN4 hs4
          rw [← hW4]
          have kW4 : Keeps W w W4 := kW2.trans (k4.mono (T := W) (fun b _ e => e ▸ hr))
          have hw2 := kW2.size
          have PK2 : ∃ (data : List Int) (DA : Option Addr) (dcA : Nat) (Z5 : Nat → Prop), Hid (data = if gOf l = (0, 0) then List.replicate h.size.toNat 0 else dataA l (gOf l)) ∧ Blk W4 r 86 (rcells h rsz (.slice Ag h.grp.length cg) round (.slice DA data.length dcA) 1 (.slice (some ⟨ab, 0, Option.none⟩) h.grp.length h.grp.length) (.slice (some ⟨vb, 0, Option.none⟩) h.grp.length h.grp.length) q.st.1 q.st.2 err) ∧ Dat W4 (Rd base Z5 W) (.slice DA data.length dcA) data ∧ (∀ b, Z b → Z5 b) ∧ (∀ b, Z5 b → Z b ∨ w.heap.size ≤ b) ∧ (∀ b, Z5 b → base ≤ b ∧ b < W4.heap.size) ∧ Keeps W w W4 := by
            refine ⟨List.replicate n 0, some ⟨nb, 0, Option.none⟩, n, fun b => Z b ∨ b = nb, Lib.hid (by rw [HGQ.out, HQ0.out, if_pos rfl, HN.out]; rfl), by rw [List.length_replicate, HRZ.out, HN.out]; exact hB4, ⟨_, n, rfl, hN4, fun b o e _ => ?_, by rw [List.length_replicate]; unfold MB; omega⟩, fun b e => .inl e, fun b e => e.imp id (fun f => by omega), fun b e => ?_, kW4⟩
            · cases e
              refine ⟨.inr (.inr rfl), fun f => ?_⟩
              have := (hZ _ (hW _ f)).2
              omega
            · rcases e with e | rfl
              · exact ⟨(hZ b e).1, Nat.lt_of_lt_of_le (hZ b e).2 kW4.size⟩
              · have := hZ r (hW r hr); omega
          clear hW4 hW3 hnb hB3 k3 hB4 k4 hN4 hs3 hs4 hB2 hD2 kW2 kW4 hmk HC0 HN HRZ HQ0 HZE heql m14 m15 m9 m10 f10 hrl2 hn2 hw2
        case' false =>
          have hq0 : ¬ gOf l = (0, 0) := fun e => by
            rw [HGQ.out] at e
            have := of_decide_eq_false HZE.out.symm
            exact this ⟨congrArg Prod.fst e, congrArg Prod.snd e⟩
          have HQ0 := Lib.hid hq0
          clear hq0
          go_upto_region 19 with (fail)
          obtain ⟨W4, hW4⟩ : ∃ W, W = W2 := ⟨_, rfl⟩
          rw [← hW4] at hB2 hD2 kW2
          rw [← hW4]
          have PK2 : ∃ (data : List Int) (DA : Option Addr) (dcA : Nat) (Z5 : Nat → Prop), Hid (data = if gOf l = (0, 0) then List.replicate h.size.toNat 0 else dataA l (gOf l)) ∧ Blk W4 r 86 (rcells h rsz (.slice Ag h.grp.length cg) round (.slice DA data.length dcA) 1 (.slice (some ⟨ab, 0, Option.none⟩) h.grp.length h.grp.length) (.slice (some ⟨vb, 0, Option.none⟩) h.grp.length h.grp.length) q.st.1 q.st.2 err) ∧ Dat W4 (Rd base Z5 W) (.slice DA data.length dcA) data ∧ (∀ b, Z b → Z5 b) ∧ (∀ b, Z5 b → Z b ∨ w.heap.size ≤ b) ∧ (∀ b, Z5 b → base ≤ b ∧ b < W4.heap.size) ∧ Keeps W w W4 :=
            ⟨q.ds, D, dc, Z, Lib.hid (by rw [if_neg HQ0.out]; exact HSC.out.data.symm), hB2, hD2, fun _ e => e, fun _ e => .inl e, fun b e => ⟨(hZ b e).1, Nat.lt_of_lt_of_le (hZ b e).2 kW2.size⟩, kW2⟩
          clear hW4 hB2 hD2 kW2 HQ0 HZE heql m14 m15
        all_goals
          obtain ⟨data, DA, dcA, Z5, HDA, hB5, hD5, z1, z2, z3, kW5⟩ := PK2
          cases al
          case true =>
            have HE := Lib.hid (secondF_end (round := round) (l := l) HWR.out (by have := HSC.out.alike; simpa using this.symm))
            go_wp2_with fail
            refine (refend_any r h rsz round _ _ 1 _ _ q.st.1 q.st.2 err 0 W4 hB5).mono ?_
            rintro e w6 ⟨rfl, hB6, hk6⟩
            go_wp2_with fail
            go_ret
            rw [HSF2.out, HE.out, ← HDA.out, HGQ.out]
            have kW := kW5.trans (hk6.mono (T := W) (fun b _ e => e ▸ hr))
            exact ⟨Z5, W, _, rfl, ⟨⟨_, rsz, _, 3, _, _, _, _, 0, hB6, hG.keeps kW (fun b e f => (HGZ.out b e).2 f), fun b e => ⟨z1 b (HGZ.out b e).1, (HGZ.out b e).2⟩, HRS.out, ⟨rfl, rfl, fun _ => ⟨rfl, rfl, fun e => by (rw [HWR.out] at e; cases e), fun _ => hD5.keeps hk6 (fun b e f => e.2 (f ▸ hr))⟩, fun e => absurd rfl e⟩, ⟨_, _, _, rfl⟩, ⟨_, _, _, rfl⟩, ⟨_, _, _, rfl⟩⟩, hr, fun b e => z1 b (hW b e), fun b e => ⟨(z3 b e).1, Nat.lt_of_lt_of_le (z3 b e).2 hk6.size⟩, ok⟩, rfl, z1, z2, kW⟩
          case' false =>
            have m8 := hB5.cell 8 _ rfl
            go_upto_region 21 with (fail)
            obtain ⟨W5, hW5⟩ : ∃ W, W = W4 := ⟨_, rfl⟩
            rw [← hW5] at hB5 hD5 z3 kW5
            rw [← hW5]
            have PK : ∃ (tg : Int × Int) (data : List Int) (DA : Option Addr) (dcA : Nat) (Z5 : Nat → Prop), Hid (SF = if 1099511627776 ≤ round then (round, .ended 4 (0, 0) [], .no) else (round + 1, .laying [] tg data, .msgs 2 (round + 1) tg data h.grp)) ∧ Blk W5 r 86 (rcells h rsz (.slice Ag h.grp.length cg) round (.slice DA data.length dcA) 1 (.slice (some ⟨ab, 0, Option.none⟩) h.grp.length h.grp.length) (.slice (some ⟨vb, 0, Option.none⟩) h.grp.length h.grp.length) tg.1 tg.2 err) ∧ Dat W5 (Rd base Z5 W) (.slice DA data.length dcA) data ∧ (∀ b, Z b → Z5 b) ∧ (∀ b, Z5 b → Z b ∨ w.heap.size ≤ b) ∧ (∀ b, Z5 b → base ≤ b ∧ b < W5.heap.size) ∧ Keeps W w W5 :=
              ⟨q.st, data, DA, dcA, Z5, Lib.hid (by rw [HSF2.out, secondF_read HWR.out (by have := HSC.out.alike; simpa using this.symm), ← HDA.out, HGQ.out]), hB5, hD5, z1, z2, z3, kW5⟩
            clear hW5 hB5 hD5 z1 z2 z3 kW5 HDA
      all_goals
        clear m8
        obtain ⟨tg, data, DA, dcA, Z5, HS5, hB5, hD5, z1, z2, z3, kW5⟩ := PK
        have m8 := hB5.cell 8 _ rfl
        by_cases hbr : 1099511627776 ≤ round
        case pos =>
          have HBR := Lib.hid hbr
          go_wp2_with fail
          refine (refend_any r h rsz round _ _ 1 _ _ tg.1 tg.2 err 4 W5 hB5).mono ?_
          rintro e w6 ⟨rfl, hB6, hk6⟩
          go_wp2_with fail
          go_ret
          rw [HS5.out, if_pos HBR.out]
          have kW := kW5.trans (hk6.mono (T := W) (fun b _ e => e ▸ hr))
          exact ⟨Z5, W, _, rfl, ⟨⟨_, rsz, _, 3, _, _, _, _, 4, hB6, hG.keeps kW (fun b e f => (HGZ.out b e).2 f), fun b e => ⟨z1 b (HGZ.out b e).1, (HGZ.out b e).2⟩, HRS.out, ⟨rfl, rfl, fun e => absurd e (by decide), fun _ => ⟨rfl, rfl, rfl⟩⟩, ⟨_, _, _, rfl⟩, ⟨_, _, _, rfl⟩, ⟨_, _, _, rfl⟩⟩, hr, fun b e => z1 b (hW b e), fun b e => ⟨(z3 b e).1, Nat.lt_of_lt_of_le (z3 b e).2 hk6.size⟩, ok⟩, rfl, z1, z2, kW⟩
        case neg =>
          have hwr1 : IntKind.i64.wrap (round + 1) = round + 1 := by rw [IntKind.wrap_i64]; omega
          have m11 := hB5.cell 11 _ rfl
          have f8 := hB5.free 8
          have f11 := hB5.free 11
          go_upto_region 25 with (fail)
          have hB6 : Blk ((W5.setCell ⟨r, 8, Option.none⟩ (.int .i64 (round + 1))).setCell ⟨r, 11, Option.none⟩ (.int .i64 2)) r 86 (rcells h rsz (.slice Ag h.grp.length cg) (round + 1) (.slice DA data.length dcA) 2 (.slice (some ⟨ab, 0, Option.none⟩) h.grp.length h.grp.length) (.slice (some ⟨vb, 0, Option.none⟩) h.grp.length h.grp.length) tg.1 tg.2 err) := (hB5.set 8 (.int .i64 (round + 1))).set 11 (.int .i64 2)
          have k6 : Keeps (One r) W5 ((W5.setCell ⟨r, 8, Option.none⟩ (.int .i64 (round + 1))).setCell ⟨r, 11, Option.none⟩ (.int .i64 2)) := ((Keeps.refl (One r) W5).setCell ⟨r, 8, Option.none⟩ _ (fun _ => rfl)).setCell ⟨r, 11, Option.none⟩ _ (fun _ => rfl)
          have hs6 : ((W5.setCell ⟨r, 8, Option.none⟩ (.int .i64 (round + 1))).setCell ⟨r, 11, Option.none⟩ (.int .i64 2)).heap.size = W5.heap.size := by simp
          obtain ⟨W6, hW6⟩ : ∃ W, W = (W5.setCell ⟨r, 8, Option.none⟩ (.int .i64 (round + 1))).setCell ⟨r, 11, Option.none⟩ (.int .i64 2) := ⟨_, rfl⟩
          rw [← hW6] at hB6 k6 hs6
          rw [← hW6]
          have kW6 : Keeps W w W6 := kW5.trans (k6.mono (T := W) (fun b _ e => e ▸ hr))
          have hG6 := hG.keeps kW6 (fun b e f => (HGZ.out b e).2 f)
          have hD6 := hD5.keeps k6 (fun b e f => e.2 (f ▸ hr))
          clear hW6 m8 m11 f8 f11 hwr1 hB5 hD5
          go_wp2_with fail
          refine (reffresh_any r h rsz (round + 1) _ _ 2 _ _ tg.1 tg.2 err W6 hB6 base hG6 hgl).mono ?_
          rintro e w7 hF
          have he := hF.1
          subst he
          obtain ⟨-, hB7, -, -, -, hk7⟩ := id hF
          obtain ⟨Z', W', y1, y2, y3, y4, y5, y6, y7, hArr7⟩ := newRound hF hr (fun b e => z1 b (hW b e)) (fun b e => by rw [hs6]; exact z3 b e)
          have hG7 := hG6.keeps hk7 (fun b e f => (HGZ.out b e).2 (f ▸ hr))
          obtain ⟨ab', vb', hav', hvv', -, -, -, -, -, hab7, -⟩ := id hArr7
          cases hav'
          cases hvv'
          have hab8 : Blk w7 W6.heap.size 4 (h.grp.map fun s => .bool ((fun _ => false) s)) := by rw [map_const _ _ (fun _ => rfl)]; exact hab7
          have kW7 : Keeps W w w7 := kW6.trans (hk7.mono (T := W) (fun b _ e => e ▸ hr))
          have hD7 := hD6.keeps hk7 (fun b e f => e.2 (f ▸ hr))
          obtain ⟨DA', dcA', ed, hdn, hdp, hdl⟩ := hD7
          cases ed
          go_wp2_with fail
          refine (reftold_any r h rsz (round + 1) _ _ 2 _ tg.1 tg.2 err W6.heap.size (fun _ => false) 2 tg.1 tg.2 DA data.length dcA w7 hB7 base hG7 hgl hab8 (.inr ⟨rfl, rfl, rfl, rfl, rfl⟩)).mono ?_
          rintro e w8 ⟨u, rfl, hu, hk8⟩
          rw [filter_all _ _ (fun _ => rfl)] at hu
          go_wp2_with fail
          go_ret
          rw [HS5.out, if_neg (by omega)]
          have hR8 := hArr7.keeps hk8 (fun _ _ => id) (fun _ _ => id)
          rw [← map_const h.grp (fun s => decide (s ∈ ([] : List Int))) (fun _ => by simp)] at hR8
          refine ⟨Z', W', u, rfl, ⟨⟨_, rsz, _, 2, _, _, tg.1, tg.2, err, hB7.grew hk8, hG7.grew hk8, fun b e => ⟨y1 b (z1 b (HGZ.out b e).1), fun f => (y4 b f).elim (HGZ.out b e).2 (fun k => by have := (z3 b (z1 b (HGZ.out b e).1)).2; omega)⟩, HRS.out, ⟨rfl, rfl, rfl, hR8, Dat.mono ⟨_, _, rfl, hdn.grew hk8, hdp, hdl⟩ y7, ⟨by simp, fun s hs => by simp at hs, by unfold Hd.need; simp; omega⟩, by omega, by omega⟩, ⟨_, _, _, rfl⟩, ⟨_, _, _, rfl⟩, ⟨_, _, _, rfl⟩⟩, y3 _ hr, y5, fun b e => ⟨(y6 b e).1, Nat.lt_of_lt_of_le (y6 b e).2 hk8.size⟩, ok⟩, told_see hu (hdn.grew hk8) hdl, fun b e => y1 b (z1 b e), fun b e => ?_, kW7.trans hk8.of_none⟩
          rcases y2 b e with k | k
          · exact z2 b k
          · have := kW5.size; exact .inr (by omega)
end Go.Proofs.Ytcihfjfbcfgidaa
