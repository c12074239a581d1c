/- cairnlaw7.read: a read that has come to its end. -/
import Derived.Test.YtcihfjfbcfgidaaToldPlain
import Derived.Test.YtcihfjfbcfgidaaGrownBytes
import Derived.Deep.DeepCutAuto
import Derived.Deep.CutBlock
namespace Go.Proofs.Ytcihfjfbcfgidaa
open Go.RowKit Go.Maps Go.Proofs.YtcihfjfbcfgidaaW.PrintLast

structure RdInv (w wr : World) (g : Nat) (X : Nat → Prop) (rd : Int) (ph : Ph) : Prop where
  mach : Mach wr (w.heap.size + 1) X g hRd rd ph
  key : Blk wr w.heap.size 51 [.int .i64 1, .int .i64 3, .int .i64 1, .int .i64 0]
  keep : Keeps None w wr

set_option maxRecDepth 100000 in
set_option maxHeartbeats 0 in
theorem read_law (how : Int) (hh : how = 0 ∨ how = 1 ∨ how = 2) (A : Option Addr) (cap : Nat) (zs : List Int) (w : World) (hA : Nums .u8 w A zs) (hr : zs.length ≤ 140737488351232) (hcap : A = Option.none → cap = 0) :
    Calls Try.prog 15 #[.int .i64 how, .slice A zs.length cap] w fun e w' => ∃ g X rd, e = .returned (.iface 104 (.pointer (some ⟨g, 0, Option.none⟩))) ∧ Mach w' w.heap.size X g hRd rd (.ended 0 (tagF how) (datF how zs)) ∧ Keeps None w w' := by
  obtain ⟨i0, hi, hz0, hz1, hz2⟩ := info_parts Try.infoU8
  have hb := Blk.new w 51 [.int .i64 1, .int .i64 3, .int .i64 1, .int .i64 0]
  have c0 := hb.cell 0 _ rfl
  have c1 := hb.cell 1 _ rfl
  have c2 := hb.cell 2 _ rfl
  have c3 := hb.cell 3 _ rfl
  have k1 := ((Keeps.refl None w).alloc (.cells #[.int .i64 1, .int .i64 3, .int .i64 1, .int .i64 0] 51)).alloc (.cells #[.int .i64 1, .int .i64 2, .int .i64 3, .int .i64 4, .int .i64 5] 3)
  have hN1 : Nums .i64 ((w.alloc (.cells #[.int .i64 1, .int .i64 3, .int .i64 1, .int .i64 0] 51)).alloc (.cells #[.int .i64 1, .int .i64 2, .int .i64 3, .int .i64 4, .int .i64 5] 3)) (some ⟨w.heap.size + 1, 0, Option.none⟩) [1, 2, 3, 4, 5] := by
    have := (Blk.new (w.alloc (.cells #[.int .i64 1, .int .i64 3, .int .i64 1, .int .i64 0] 51)) 3 [.int .i64 1, .int .i64 2, .int .i64 3, .int .i64 4, .int .i64 5]).nums 0 [1, 2, 3, 4, 5] rfl
    rwa [World.size_alloc] at this
  have hbb := hb.alloc (.cells #[.int .i64 1, .int .i64 2, .int .i64 3, .int .i64 4, .int .i64 5] 3)
  go_enter Try.func15, Try.ntmps15
  go_wp2_with fail
  refine (readm_mach 3 1 1 3 1 0 7 4 _ 5 5 [1, 2, 3, 4, 5] _ hN1 rfl (by omega) (by decide)).mono ?_
  rintro e w2 ⟨g, X, rfl, hM, hk2⟩
  rw [show uniqF [1, 2, 3, 4, 5] = [1, 2, 3, 4, 5] from by decide, show sizeF 4 = 4 from rfl] at hM
  have hM2 : Mach w2 _ X g hRd 7 .fresh := hM
  have kw2 := k1.trans hk2
  have hb2 := hbb.grew hk2
  have hs1 := k1.size
  clear hM hN1 hk2 hbb c0 c1 c2 c3 hb
  go_wp2_with fail
  refine (begin_any g _ X hRd 7 .fresh w2 hM2).mono ?_
  rintro e w3 ⟨X3, B3, u3, rfl, hM3, hO3, hX3, hXn3, hXB3, hB3, hk3⟩
  obtain ⟨A3, c3, rfl⟩ := hO3.slice
  have hne : ∀ b, X b ∨ b = g → w.heap.size + 1 ≤ b := by
    rintro b (e | rfl)
    · have := (hM2.X b e).1; simp only [World.size_alloc] at this; omega
    · have := hM2.g.2; simp only [World.size_alloc] at this; omega
  have hI0 : RdInv w w3 g X3 (pkF how zs 0).1 (pkF how zs 0).2.1 := ⟨hM3.down (by simp only [World.size_alloc]; omega), hb2.keeps hk3 (fun e => by have := hne _ e; omega), kw2.andThen hk3 (fun i hi e => by have := hne _ e; omega)⟩
  have hgX := hM2.g.1
  clear hM2 kw2 k1 hb2 hM3 hO3 hX3 hXn3 hXB3 hB3 hk3 hne hs1
  go_wp2_with fail
  go_loopw [7, 8] (fun l i wr => ∃ (k : Nat) (X : Nat → Prop) (Al : Option Addr) (cl : Nat), k ≤ 3 ∧ i = .int .i64 ((k : Int) + 1) ∧ l = .slice Al (lnO (pkF how zs k).2.2) cl ∧ RdInv w wr g X (pkF how zs k).1 (pkF how zs k).2.1) (fun _ i _ => 4 - (intOf i).toNat)
  case atStart => exact ⟨0, X3, A3, c3, by omega, rfl, rfl, hI0⟩
  case round =>
    clear hI0
    obtain ⟨k, X, Al, cl, hk, rfl, rfl, hI⟩ := hrel
    by_cases hlt : k < 3
    · have HP := Lib.hid (take_pk how hh zs k hlt)
      obtain ⟨rd, erd⟩ : ∃ rd, rd = (pkF how zs k).1 := ⟨_, rfl⟩
      obtain ⟨ph, eph⟩ : ∃ ph, ph = (pkF how zs k).2.1 := ⟨_, rfl⟩
      obtain ⟨nl, enl⟩ : ∃ nl, nl = lnO (pkF how zs k).2.2 := ⟨_, rfl⟩
      obtain ⟨rd', erd'⟩ : ∃ rd, rd = (pkF how zs (k + 1)).1 := ⟨_, rfl⟩
      have HP' := HP.out
      rw [← erd, ← eph] at HP' hI
      rw [← enl]
      have hPP := Lib.hid HP'
      clear HP' HP erd eph enl erd' rd'
      have hcase : how = 0 ∨ (how = 1 ∧ k = 1) ∨ (how = 1 ∧ ¬ k = 1) ∨ how = 2 := by omega
      have hk4 : (k : Int) + 1 ≤ 3 := by omega
      have hwf : (Lit.int .i64 ((k : Int) + 1)).wf = true := by
        obtain h | h | h : k = 0 ∨ k = 1 ∨ k = 2 := by omega
        all_goals subst h; rfl
      clear hh
      rcases hcase with rfl | ⟨rfl, hk1⟩ | ⟨rfl, hk1⟩ | rfl
      · go_upto_region 14 with (fail)
        obtain ⟨W, hW⟩ : ∃ W, W = wr.alloc (.cells #[.int .i64 5, .int .i64 2] 23) := ⟨_, rfl⟩
        rw [← hW]
        have kW : Keeps None wr W := by rw [hW]; exact (Keeps.refl _ _).alloc _
        have hS := Blk.new wr 23 [.int .i64 5, .int .i64 2]
        rw [← hW] at hS
        have s0 := hS.cell 0 _ rfl
        have s1 := hS.cell 1 _ rfl
        have hAW := hA.grew (hI.keep.trans kW)
        have hIW : RdInv w W g X rd ph := ⟨hI.mach.grew kW, hI.key.grew kW, hI.keep.trans kW⟩
        clear hW hS kW hI
        go_cut [10] (fun x wx => ∃ mb Av cv, x = .pointer (some ⟨mb, 0, Option.none⟩) ∧ Blk wx mb 66 (msgL 11 false ((k : Int) + 1) true 3 1 7 1 3 1 0 5 2 (.slice Av zs.length cv)) ∧ W.heap.size ≤ mb ∧ Row .u8 5 wx W.heap.size (.slice Av zs.length cv) zs ∧ (∀ b, (Value.slice Av zs.length cv).ownBlock = some b → b ≠ mb) ∧ Keeps None W wx)
        case first =>
          refine start_ (ds := []) (S := (fun w' => Keeps None W w')) #[false, false, false, false, false, false, false, false] (by kernel_rfl) rfl rfl ((Keeps.refl _ _).drew) (fun hS0 => ?_)
          refine pure_ (i := 0) (N := some 37) (v := .int .i64 ((k : Int) + 1)) #[true, false, false, false, false, false, false, false] rfl rfl (by kernel_rfl) (fun _ _ _ h => h) (Or.inl ⟨wanted_none rfl, fun w => by rfl⟩) rfl ?_
          try simp only [Act.put, List.setIfInBounds_toArray, List.set_cons_zero, List.set_cons_succ]
          refine take_ (i := 1) (N := some 38) (v := .agg #[.int .i64 5, .int .i64 2]) #[true, true, false, false, false, false, false, false] rfl rfl (by kernel_rfl) (fun _ _ _ h => h) (Or.inl ⟨wanted_none rfl, by intro w' hSw; have q0 := hSw.cell s0 id; have q1 := hSw.cell s1 id; go_simp⟩) hS0 rfl ?_
          try simp only [Act.put, List.setIfInBounds_toArray, List.set_cons_zero, List.set_cons_succ]
          refine pure_ (i := 3) (N := some 40) (v := .slice A zs.length cap) #[true, true, false, true, false, false, false, false] rfl rfl (by kernel_rfl) (fun _ _ _ h => h) (Or.inl ⟨wanted_none rfl, fun w => by rfl⟩) rfl ?_
          try simp only [Act.put, List.setIfInBounds_toArray, List.set_cons_zero, List.set_cons_succ]
          refine two_ (i := 2) (j := 6) (oi := ({ dst := some 39, op := Op.buildSlice 24 0 #[], type := 24, pos := "told.go:53", after := #[], guard := Option.none } : Oper)) (oj := ({ dst := some 10, op := Op.alloc 66, type := 0, pos := "told.go:53", after := #[], guard := Option.none } : Oper)) (Ni := some 39) (Nj := some 10) #[true, true, true, true, false, false, false, false] #[true, true, false, true, false, false, true, false] rfl rfl rfl rfl (by kernel_rfl) (by decide) (by decide) ?_ ?_
          · intro KK hKK
            obtain ⟨EB, hEB⟩ : ∃ x, x = W.drew.heap.size := ⟨_, rfl⟩
            obtain ⟨WE, hWE⟩ : ∃ x, x = W.drew.alloc (.cells #[] 5) := ⟨_, rfl⟩
            have kE : Keeps None W.drew WE := by rw [hWE]; exact (Keeps.refl _ _).alloc _
            have hE0 := Blk.new W.drew 5 []
            rw [← hEB] at hE0
            have hE : Row .u8 5 WE W.heap.size (.slice (some ⟨EB, 0, Option.none⟩) 0 0) [] := by rw [hWE]; exact Row.of_blk (zs := []) hE0 (by have := hS0.size; omega) (by unfold maxLen; simp)
            have hElt : EB < WE.heap.size := (hE.lt EB rfl).2
            refine value_ (wanted_none rfl) rfl (w1 := WE) (v := .slice (some ⟨EB, 0, Option.none⟩) 0 0) (by rw [hWE, hEB]; go_simp) (hKK.out _ _ (hS0.trans kE) (fun h5 => ?_))
            try simp only [Act.put, List.setIfInBounds_toArray, List.set_cons_zero, List.set_cons_succ]
            refine two_ (i := 4) (j := 6) (oi := ({ dst := some 41, op := Op.call { callee := Callee.builtin Builtin.append, args := #[Operand.tmp 39, Operand.tmp 40], argTypes := #[24, 24] }, type := 24, pos := "told.go:53", after := #[{ on := 2, ground := Ground.data }, { on := 3, ground := Ground.data }], guard := Option.none } : Oper)) (oj := ({ dst := some 10, op := Op.alloc 66, type := 0, pos := "told.go:53", after := #[], guard := Option.none } : Oper)) (Ni := some 41) (Nj := some 10) #[true, true, true, true, true, false, false, false] #[true, true, true, true, false, false, true, false] rfl rfl rfl rfl (by kernel_rfl) (by decide) (by decide) ?_ ?_
            · intro KK hKK
              refine step_append_row _ (wanted_none rfl) rfl (.tmp 39) (.tmp 40) 24 rfl W.heap.size 5 i0 (.int .u8 0) 1 1 Try.underlying24 hi hz0 hz1 hz2 rfl (by decide) (.slice (some ⟨EB, 0, Option.none⟩) 0 0) 0 [] rfl hE.raw A zs.length cap (zs.map (Value.int .u8)) rfl (by simp) hcap (hAW.grew h5).src (ints_oneCell _ zs) (by unfold maxLen; omega) (by omega) (by have := h5.size; omega) ?_
              intro v' wA hown hkA hloc
              have hR : Row .u8 5 wA W.heap.size v' ([] ++ zs) := Row.of_append rfl rfl hown
              have hEs := (hE.lt EB rfl).1
              have hEs2 := (hE.lt EB rfl).2
              obtain ⟨Av, cv, ev⟩ := hR.slice
              obtain rfl : v' = .slice Av zs.length cv := ev.trans (by simp)
              simp only [List.nil_append] at hR
              refine hKK.out _ _ (h5.andThen hkA (fun i hi e => by have := OwnB.is e; omega)) (fun h2 => ?_)
              try simp only [Act.put, List.setIfInBounds_toArray, List.set_cons_zero, List.set_cons_succ]
              refine two_ (i := 5) (j := 6) (oi := ({ dst := some 42, op := Op.call { callee := Callee.value (Operand.func 19), args := #[Operand.tmp 37, Operand.const (Value.int IntKind.i64 7), Operand.tmp 38, Operand.tmp 41], argTypes := #[3, 3, 23, 24] }, type := 66, pos := "told.go:53", after := #[{ on := 0, ground := Ground.data }, { on := 1, ground := Ground.data }, { on := 4, ground := Ground.data }, { on := 4, ground := Ground.chain }], guard := Option.none } : Oper)) (oj := ({ dst := some 10, op := Op.alloc 66, type := 0, pos := "told.go:53", after := #[], guard := Option.none } : Oper)) (Ni := some 42) (Nj := some 10) #[true, true, true, true, true, true, false, false] #[true, true, true, true, true, false, true, false] rfl rfl rfl rfl (by kernel_rfl) (by decide) (by decide) ?_ ?_
              · intro KK hKK
                refine goes_ Try.func19 (by kernel_rfl) rfl #[.int .i64 ((k : Int) + 1), .int .i64 7, .agg #[.int .i64 5, .int .i64 2], .slice Av zs.length cv] (wanted_none rfl) rfl rfl (by simp [Act.eval]) ?_
                refine (value_any ((k : Int) + 1) 7 5 2 Av zs.length cv _).mono ?_
                rintro e wV ⟨rfl, hkV⟩
                have hR := hR.grew hkV
                refine ⟨_, rfl, hKK.out _ _ (h2.trans hkV) (fun hS3 => ?_)⟩
                try simp only [Act.put, List.setIfInBounds_toArray, List.set_cons_zero, List.set_cons_succ]
                refine one_ (i := 6) (oi := ({ dst := some 10, op := Op.alloc 66, type := 0, pos := "told.go:53", after := #[], guard := Option.none } : Oper)) (N := some 10) #[true, true, true, true, true, true, true, false] rfl rfl (by kernel_rfl) (by decide) ?_
                intro KK hKK
                obtain ⟨mb, hmb⟩ : ∃ x, x = wV.heap.size := ⟨_, rfl⟩
                obtain ⟨WM, hWM⟩ : ∃ x, x = wV.alloc (.cells (msgL 0 false 0 false 0 0 0 0 0 0 0 0 0 (.slice Option.none 0 0)).toArray 66) := ⟨_, rfl⟩
                have kM : Keeps None wV WM := by rw [hWM]; exact (Keeps.refl _ _).alloc _
                have hM : Blk WM mb 66 (msgL 0 false 0 false 0 0 0 0 0 0 0 0 0 (.slice Option.none 0 0)) := by rw [hWM, hmb]; exact Blk.new _ _ _
                have hMge : W.heap.size ≤ mb := by have := hS3.size; omega
                have hMlt := hM.lt
                have hvm : ∀ b, (Value.slice Av zs.length cv).ownBlock = some b → b ≠ mb := fun b e => by have := (hR.lt b e).2; omega
                have hR := hR.grew kM
                refine value_ (wanted_none rfl) rfl (w1 := WM) (v := .pointer (some ⟨mb, 0, Option.none⟩)) (by rw [hWM, hmb]; exact exec_alloc_msg rfl) (hKK.out _ _ (hS3.trans kM) (fun hS4 => ?_))
                try simp only [Act.put, List.setIfInBounds_toArray, List.set_cons_zero, List.set_cons_succ]
                refine one_ (i := 7) (oi := ({ dst := Option.none, op := Op.store 66 (Operand.tmp 10) (Operand.tmp 42), type := 0, pos := "told.go:53", after := #[{ on := 6, ground := Ground.data }, { on := 5, ground := Ground.data }, { on := 5, ground := Ground.chain }, { on := 0, ground := Ground.phase }, { on := 1, ground := Ground.phase }, { on := 2, ground := Ground.phase }, { on := 3, ground := Ground.phase }, { on := 4, ground := Ground.phase }, { on := 5, ground := Ground.phase }, { on := 6, ground := Ground.phase }], guard := Option.none } : Oper)) (N := Option.none) #[true, true, true, true, true, true, true, true] rfl rfl (by kernel_rfl) (by decide) ?_
                intro KK hKK
                refine skip_ (wanted_none rfl) rfl (w1 := WM.setRow mb (msgL 11 false ((k : Int) + 1) true 3 1 7 1 3 1 0 5 2 (.slice Av zs.length cv)).toArray) (exec_store_msg (.tmp 10) (.tmp 42) rfl mb rfl (msgL 11 false ((k : Int) + 1) true 3 1 7 1 3 1 0 5 2 (.slice Av zs.length cv)) (msgL 0 false 0 false 0 0 0 0 0 0 0 0 0 (.slice Option.none 0 0)) rfl hM rfl rfl (by simp [msgL, Value.oneCell'])) (hKK.out _ _ (hS4.andThen ((Keeps.refl (One mb) _).setRow _ _ (fun _ => rfl)) (fun i hi e => by simp only [One] at e; omega)) (fun hS5 => ?_))
                try simp only [Act.put, List.setIfInBounds_toArray, List.set_cons_zero, List.set_cons_succ]
                refine done_ (by kernel_rfl) ?_
                go_wp2_with fail
                go_meet
                exact ⟨mb, Av, cv, rfl, hM.setRow _, hMge, hR.keeps ((Keeps.refl (One mb) _).setRow _ _ (fun _ => rfl)) (fun b e f => hvm b e f), hvm, hS5⟩
              · intro KK hKK
                obtain ⟨mb, hmb⟩ : ∃ x, x = wA.heap.size := ⟨_, rfl⟩
                obtain ⟨WM, hWM⟩ : ∃ x, x = wA.alloc (.cells (msgL 0 false 0 false 0 0 0 0 0 0 0 0 0 (.slice Option.none 0 0)).toArray 66) := ⟨_, rfl⟩
                have kM : Keeps None wA WM := by rw [hWM]; exact (Keeps.refl _ _).alloc _
                have hM : Blk WM mb 66 (msgL 0 false 0 false 0 0 0 0 0 0 0 0 0 (.slice Option.none 0 0)) := by rw [hWM, hmb]; exact Blk.new _ _ _
                have hMge : W.heap.size ≤ mb := by have := h2.size; omega
                have hMlt := hM.lt
                have hvm : ∀ b, (Value.slice Av zs.length cv).ownBlock = some b → b ≠ mb := fun b e => by have := (hR.lt b e).2; omega
                have hR := hR.grew kM
                refine value_ (wanted_none rfl) rfl (w1 := WM) (v := .pointer (some ⟨mb, 0, Option.none⟩)) (by rw [hWM, hmb]; exact exec_alloc_msg rfl) (hKK.out _ _ (h2.trans kM) (fun hS6 => ?_))
                try simp only [Act.put, List.setIfInBounds_toArray, List.set_cons_zero, List.set_cons_succ]
                refine one_ (i := 5) (oi := ({ dst := some 42, op := Op.call { callee := Callee.value (Operand.func 19), args := #[Operand.tmp 37, Operand.const (Value.int IntKind.i64 7), Operand.tmp 38, Operand.tmp 41], argTypes := #[3, 3, 23, 24] }, type := 66, pos := "told.go:53", after := #[{ on := 0, ground := Ground.data }, { on := 1, ground := Ground.data }, { on := 4, ground := Ground.data }, { on := 4, ground := Ground.chain }], guard := Option.none } : Oper)) (N := some 42) #[true, true, true, true, true, true, true, false] rfl rfl (by kernel_rfl) (by decide) ?_
                intro KK hKK
                refine goes_ Try.func19 (by kernel_rfl) rfl #[.int .i64 ((k : Int) + 1), .int .i64 7, .agg #[.int .i64 5, .int .i64 2], .slice Av zs.length cv] (wanted_none rfl) rfl rfl (by simp [Act.eval]) ?_
                refine (value_any ((k : Int) + 1) 7 5 2 Av zs.length cv _).mono ?_
                rintro e wV ⟨rfl, hkV⟩
                have hR := hR.grew hkV
                have hM := hM.grew hkV
                refine ⟨_, rfl, hKK.out _ _ (hS6.trans hkV) (fun hS7 => ?_)⟩
                try simp only [Act.put, List.setIfInBounds_toArray, List.set_cons_zero, List.set_cons_succ]
                refine one_ (i := 7) (oi := ({ dst := Option.none, op := Op.store 66 (Operand.tmp 10) (Operand.tmp 42), type := 0, pos := "told.go:53", after := #[{ on := 6, ground := Ground.data }, { on := 5, ground := Ground.data }, { on := 5, ground := Ground.chain }, { on := 0, ground := Ground.phase }, { on := 1, ground := Ground.phase }, { on := 2, ground := Ground.phase }, { on := 3, ground := Ground.phase }, { on := 4, ground := Ground.phase }, { on := 5, ground := Ground.phase }, { on := 6, ground := Ground.phase }], guard := Option.none } : Oper)) (N := Option.none) #[true, true, true, true, true, true, true, true] rfl rfl (by kernel_rfl) (by decide) ?_
                intro KK hKK
                refine skip_ (wanted_none rfl) rfl (w1 := wV.setRow mb (msgL 11 false ((k : Int) + 1) true 3 1 7 1 3 1 0 5 2 (.slice Av zs.length cv)).toArray) (exec_store_msg (.tmp 10) (.tmp 42) rfl mb rfl (msgL 11 false ((k : Int) + 1) true 3 1 7 1 3 1 0 5 2 (.slice Av zs.length cv)) (msgL 0 false 0 false 0 0 0 0 0 0 0 0 0 (.slice Option.none 0 0)) rfl hM rfl rfl (by simp [msgL, Value.oneCell'])) (hKK.out _ _ (hS7.andThen ((Keeps.refl (One mb) _).setRow _ _ (fun _ => rfl)) (fun i hi e => by simp only [One] at e; omega)) (fun hS8 => ?_))
                try simp only [Act.put, List.setIfInBounds_toArray, List.set_cons_zero, List.set_cons_succ]
                refine done_ (by kernel_rfl) ?_
                go_wp2_with fail
                go_meet
                exact ⟨mb, Av, cv, rfl, hM.setRow _, hMge, hR.keeps ((Keeps.refl (One mb) _).setRow _ _ (fun _ => rfl)) (fun b e f => hvm b e f), hvm, hS8⟩
            · intro KK hKK
              obtain ⟨mb, hmb⟩ : ∃ x, x = WE.heap.size := ⟨_, rfl⟩
              obtain ⟨WM, hWM⟩ : ∃ x, x = WE.alloc (.cells (msgL 0 false 0 false 0 0 0 0 0 0 0 0 0 (.slice Option.none 0 0)).toArray 66) := ⟨_, rfl⟩
              have kM : Keeps None WE WM := by rw [hWM]; exact (Keeps.refl _ _).alloc _
              have hM : Blk WM mb 66 (msgL 0 false 0 false 0 0 0 0 0 0 0 0 0 (.slice Option.none 0 0)) := by rw [hWM, hmb]; exact Blk.new _ _ _
              have hMge : W.heap.size ≤ mb := by have := h5.size; omega
              have hMlt := hM.lt
              have hE := hE.grew kM
              have hME : EB ≠ mb := by omega
              refine value_ (wanted_none rfl) rfl (w1 := WM) (v := .pointer (some ⟨mb, 0, Option.none⟩)) (by rw [hWM, hmb]; exact exec_alloc_msg rfl) (hKK.out _ _ (h5.trans kM) (fun hS9 => ?_))
              try simp only [Act.put, List.setIfInBounds_toArray, List.set_cons_zero, List.set_cons_succ]
              refine one_ (i := 4) (oi := ({ dst := some 41, op := Op.call { callee := Callee.builtin Builtin.append, args := #[Operand.tmp 39, Operand.tmp 40], argTypes := #[24, 24] }, type := 24, pos := "told.go:53", after := #[{ on := 2, ground := Ground.data }, { on := 3, ground := Ground.data }], guard := Option.none } : Oper)) (N := some 41) #[true, true, true, true, true, false, true, false] rfl rfl (by kernel_rfl) (by decide) ?_
              intro KK hKK
              refine step_append_row _ (wanted_none rfl) rfl (.tmp 39) (.tmp 40) 24 rfl W.heap.size 5 i0 (.int .u8 0) 1 1 Try.underlying24 hi hz0 hz1 hz2 rfl (by decide) (.slice (some ⟨EB, 0, Option.none⟩) 0 0) 0 [] rfl hE.raw A zs.length cap (zs.map (Value.int .u8)) rfl (by simp) hcap (hAW.grew hS9).src (ints_oneCell _ zs) (by unfold maxLen; omega) (by omega) (by have := hS9.size; omega) ?_
              intro v' wA hown hkA hloc
              have hR : Row .u8 5 wA W.heap.size v' ([] ++ zs) := Row.of_append rfl rfl hown
              have hEs := (hE.lt EB rfl).1
              have hEs2 := (hE.lt EB rfl).2
              have hvm : ∀ b, v'.ownBlock = some b → b ≠ mb := fun b e => hloc.elim (fun h => by rw [h] at e; cases e; exact hME) (fun h => by rw [h] at e; have := hM.lt; have := Option.some.inj e; omega)
              have hM := hM.keeps hkA (fun e => hME (OwnB.is e).symm)
              obtain ⟨Av, cv, ev⟩ := hR.slice
              obtain rfl : v' = .slice Av zs.length cv := ev.trans (by simp)
              simp only [List.nil_append] at hR
              refine hKK.out _ _ (hS9.andThen hkA (fun i hi e => by have := OwnB.is e; omega)) (fun h50 => ?_)
              try simp only [Act.put, List.setIfInBounds_toArray, List.set_cons_zero, List.set_cons_succ]
              refine one_ (i := 5) (oi := ({ dst := some 42, op := Op.call { callee := Callee.value (Operand.func 19), args := #[Operand.tmp 37, Operand.const (Value.int IntKind.i64 7), Operand.tmp 38, Operand.tmp 41], argTypes := #[3, 3, 23, 24] }, type := 66, pos := "told.go:53", after := #[{ on := 0, ground := Ground.data }, { on := 1, ground := Ground.data }, { on := 4, ground := Ground.data }, { on := 4, ground := Ground.chain }], guard := Option.none } : Oper)) (N := some 42) #[true, true, true, true, true, true, true, false] rfl rfl (by kernel_rfl) (by decide) ?_
              intro KK hKK
              refine goes_ Try.func19 (by kernel_rfl) rfl #[.int .i64 ((k : Int) + 1), .int .i64 7, .agg #[.int .i64 5, .int .i64 2], .slice Av zs.length cv] (wanted_none rfl) rfl rfl (by simp [Act.eval]) ?_
              refine (value_any ((k : Int) + 1) 7 5 2 Av zs.length cv _).mono ?_
              rintro e wV ⟨rfl, hkV⟩
              have hR := hR.grew hkV
              have hM := hM.grew hkV
              refine ⟨_, rfl, hKK.out _ _ (h50.trans hkV) (fun h51 => ?_)⟩
              try simp only [Act.put, List.setIfInBounds_toArray, List.set_cons_zero, List.set_cons_succ]
              refine one_ (i := 7) (oi := ({ dst := Option.none, op := Op.store 66 (Operand.tmp 10) (Operand.tmp 42), type := 0, pos := "told.go:53", after := #[{ on := 6, ground := Ground.data }, { on := 5, ground := Ground.data }, { on := 5, ground := Ground.chain }, { on := 0, ground := Ground.phase }, { on := 1, ground := Ground.phase }, { on := 2, ground := Ground.phase }, { on := 3, ground := Ground.phase }, { on := 4, ground := Ground.phase }, { on := 5, ground := Ground.phase }, { on := 6, ground := Ground.phase }], guard := Option.none } : Oper)) (N := Option.none) #[true, true, true, true, true, true, true, true] rfl rfl (by kernel_rfl) (by decide) ?_
              intro KK hKK
              refine skip_ (wanted_none rfl) rfl (w1 := wV.setRow mb (msgL 11 false ((k : Int) + 1) true 3 1 7 1 3 1 0 5 2 (.slice Av zs.length cv)).toArray) (exec_store_msg (.tmp 10) (.tmp 42) rfl mb rfl (msgL 11 false ((k : Int) + 1) true 3 1 7 1 3 1 0 5 2 (.slice Av zs.length cv)) (msgL 0 false 0 false 0 0 0 0 0 0 0 0 0 (.slice Option.none 0 0)) rfl hM rfl rfl (by simp [msgL, Value.oneCell'])) (hKK.out _ _ (h51.andThen ((Keeps.refl (One mb) _).setRow _ _ (fun _ => rfl)) (fun i hi e => by simp only [One] at e; omega)) (fun h52 => ?_))
              try simp only [Act.put, List.setIfInBounds_toArray, List.set_cons_zero, List.set_cons_succ]
              refine done_ (by kernel_rfl) ?_
              go_wp2_with fail
              go_meet
              exact ⟨mb, Av, cv, rfl, hM.setRow _, hMge, hR.keeps ((Keeps.refl (One mb) _).setRow _ _ (fun _ => rfl)) (fun b e f => hvm b e f), hvm, h52⟩
          · intro KK hKK
            obtain ⟨mb, hmb⟩ : ∃ x, x = W.drew.heap.size := ⟨_, rfl⟩
            obtain ⟨WM, hWM⟩ : ∃ x, x = W.drew.alloc (.cells (msgL 0 false 0 false 0 0 0 0 0 0 0 0 0 (.slice Option.none 0 0)).toArray 66) := ⟨_, rfl⟩
            have kM : Keeps None W.drew WM := by rw [hWM]; exact (Keeps.refl _ _).alloc _
            have hM : Blk WM mb 66 (msgL 0 false 0 false 0 0 0 0 0 0 0 0 0 (.slice Option.none 0 0)) := by rw [hWM, hmb]; exact Blk.new _ _ _
            have hMge : W.heap.size ≤ mb := by have := hS0.size; omega
            have hMlt := hM.lt
            refine value_ (wanted_none rfl) rfl (w1 := WM) (v := .pointer (some ⟨mb, 0, Option.none⟩)) (by rw [hWM, hmb]; exact exec_alloc_msg rfl) (hKK.out _ _ (hS0.trans kM) (fun h53 => ?_))
            try simp only [Act.put, List.setIfInBounds_toArray, List.set_cons_zero, List.set_cons_succ]
            refine one_ (i := 2) (oi := ({ dst := some 39, op := Op.buildSlice 24 0 #[], type := 24, pos := "told.go:53", after := #[], guard := Option.none } : Oper)) (N := some 39) #[true, true, true, true, false, false, true, false] rfl rfl (by kernel_rfl) (by decide) ?_
            intro KK hKK
            obtain ⟨EB, hEB⟩ : ∃ x, x = WM.heap.size := ⟨_, rfl⟩
            obtain ⟨WE, hWE⟩ : ∃ x, x = WM.alloc (.cells #[] 5) := ⟨_, rfl⟩
            have kE : Keeps None WM WE := by rw [hWE]; exact (Keeps.refl _ _).alloc _
            have hE0 := Blk.new WM 5 []
            rw [← hEB] at hE0
            have hE : Row .u8 5 WE W.heap.size (.slice (some ⟨EB, 0, Option.none⟩) 0 0) [] := by rw [hWE]; exact Row.of_blk (zs := []) hE0 (by have := h53.size; omega) (by unfold maxLen; simp)
            have hElt : EB < WE.heap.size := (hE.lt EB rfl).2
            have hM := hM.grew kE
            have hME : EB ≠ mb := by have := hMlt; omega
            refine value_ (wanted_none rfl) rfl (w1 := WE) (v := .slice (some ⟨EB, 0, Option.none⟩) 0 0) (by rw [hWE, hEB]; go_simp) (hKK.out _ _ (h53.trans kE) (fun h54 => ?_))
            try simp only [Act.put, List.setIfInBounds_toArray, List.set_cons_zero, List.set_cons_succ]
            refine one_ (i := 4) (oi := ({ dst := some 41, op := Op.call { callee := Callee.builtin Builtin.append, args := #[Operand.tmp 39, Operand.tmp 40], argTypes := #[24, 24] }, type := 24, pos := "told.go:53", after := #[{ on := 2, ground := Ground.data }, { on := 3, ground := Ground.data }], guard := Option.none } : Oper)) (N := some 41) #[true, true, true, true, true, false, true, false] rfl rfl (by kernel_rfl) (by decide) ?_
            intro KK hKK
            refine step_append_row _ (wanted_none rfl) rfl (.tmp 39) (.tmp 40) 24 rfl W.heap.size 5 i0 (.int .u8 0) 1 1 Try.underlying24 hi hz0 hz1 hz2 rfl (by decide) (.slice (some ⟨EB, 0, Option.none⟩) 0 0) 0 [] rfl hE.raw A zs.length cap (zs.map (Value.int .u8)) rfl (by simp) hcap (hAW.grew h54).src (ints_oneCell _ zs) (by unfold maxLen; omega) (by omega) (by have := h54.size; omega) ?_
            intro v' wA hown hkA hloc
            have hR : Row .u8 5 wA W.heap.size v' ([] ++ zs) := Row.of_append rfl rfl hown
            have hEs := (hE.lt EB rfl).1
            have hEs2 := (hE.lt EB rfl).2
            have hvm : ∀ b, v'.ownBlock = some b → b ≠ mb := fun b e => hloc.elim (fun h => by rw [h] at e; cases e; exact hME) (fun h => by rw [h] at e; have := hM.lt; have := Option.some.inj e; omega)
            have hM := hM.keeps hkA (fun e => hME (OwnB.is e).symm)
            obtain ⟨Av, cv, ev⟩ := hR.slice
            obtain rfl : v' = .slice Av zs.length cv := ev.trans (by simp)
            simp only [List.nil_append] at hR
            refine hKK.out _ _ (h54.andThen hkA (fun i hi e => by have := OwnB.is e; omega)) (fun h55 => ?_)
            try simp only [Act.put, List.setIfInBounds_toArray, List.set_cons_zero, List.set_cons_succ]
            refine one_ (i := 5) (oi := ({ dst := some 42, op := Op.call { callee := Callee.value (Operand.func 19), args := #[Operand.tmp 37, Operand.const (Value.int IntKind.i64 7), Operand.tmp 38, Operand.tmp 41], argTypes := #[3, 3, 23, 24] }, type := 66, pos := "told.go:53", after := #[{ on := 0, ground := Ground.data }, { on := 1, ground := Ground.data }, { on := 4, ground := Ground.data }, { on := 4, ground := Ground.chain }], guard := Option.none } : Oper)) (N := some 42) #[true, true, true, true, true, true, true, false] rfl rfl (by kernel_rfl) (by decide) ?_
            intro KK hKK
            refine goes_ Try.func19 (by kernel_rfl) rfl #[.int .i64 ((k : Int) + 1), .int .i64 7, .agg #[.int .i64 5, .int .i64 2], .slice Av zs.length cv] (wanted_none rfl) rfl rfl (by simp [Act.eval]) ?_
            refine (value_any ((k : Int) + 1) 7 5 2 Av zs.length cv _).mono ?_
            rintro e wV ⟨rfl, hkV⟩
            have hR := hR.grew hkV
            have hM := hM.grew hkV
            refine ⟨_, rfl, hKK.out _ _ (h55.trans hkV) (fun h56 => ?_)⟩
            try simp only [Act.put, List.setIfInBounds_toArray, List.set_cons_zero, List.set_cons_succ]
            refine one_ (i := 7) (oi := ({ dst := Option.none, op := Op.store 66 (Operand.tmp 10) (Operand.tmp 42), type := 0, pos := "told.go:53", after := #[{ on := 6, ground := Ground.data }, { on := 5, ground := Ground.data }, { on := 5, ground := Ground.chain }, { on := 0, ground := Ground.phase }, { on := 1, ground := Ground.phase }, { on := 2, ground := Ground.phase }, { on := 3, ground := Ground.phase }, { on := 4, ground := Ground.phase }, { on := 5, ground := Ground.phase }, { on := 6, ground := Ground.phase }], guard := Option.none } : Oper)) (N := Option.none) #[true, true, true, true, true, true, true, true] rfl rfl (by kernel_rfl) (by decide) ?_
            intro KK hKK
            refine skip_ (wanted_none rfl) rfl (w1 := wV.setRow mb (msgL 11 false ((k : Int) + 1) true 3 1 7 1 3 1 0 5 2 (.slice Av zs.length cv)).toArray) (exec_store_msg (.tmp 10) (.tmp 42) rfl mb rfl (msgL 11 false ((k : Int) + 1) true 3 1 7 1 3 1 0 5 2 (.slice Av zs.length cv)) (msgL 0 false 0 false 0 0 0 0 0 0 0 0 0 (.slice Option.none 0 0)) rfl hM rfl rfl (by simp [msgL, Value.oneCell'])) (hKK.out _ _ (h56.andThen ((Keeps.refl (One mb) _).setRow _ _ (fun _ => rfl)) (fun i hi e => by simp only [One] at e; omega)) (fun h57 => ?_))
            try simp only [Act.put, List.setIfInBounds_toArray, List.set_cons_zero, List.set_cons_succ]
            refine done_ (by kernel_rfl) ?_
            go_wp2_with fail
            go_meet
            exact ⟨mb, Av, cv, rfl, hM.setRow _, hMge, hR.keeps ((Keeps.refl (One mb) _).setRow _ _ (fun _ => rfl)) (fun b e f => hvm b e f), hvm, h57⟩
        case rest =>
          obtain ⟨mb, Av, cv, rfl, hM, hMge, hR, hvm, hkx⟩ := hcut
          have hIx : RdInv w wc g X rd ph := ⟨hIW.mach.grew hkx, hIW.key.grew hkx, hIW.keep.trans hkx⟩
          have hPQ : takeF hRd rd ph 11 ((k : Int) + 1) (5, 2) zs (fitsF hRd rd false true 3 1 7 1 3 1 0) = pkF 0 zs (k + 1) := by
            have := hPP.out
            rwa [show stF 0 ((k : Int) + 1) = (5, 2) from by unfold stF; simp] at this
          have hXW := Lib.hid (fun b e => (hIW.mach.X b e).2)
          have hwW := hIW.keep.size
          have hwl := hIW.key.lt
          have hgW := hIW.mach.lt
          have hq4 : (Try.prog.info? 66).map (·.size) = some (msgL 11 false ((k : Int) + 1) true 3 1 7 1 3 1 0 5 2 (.slice Av zs.length cv)).toArray.size := sizeMsg rfl
          clear hIW s0 s1 hPP
          go_upto_region 15 with (fail)
          go_upto_region 16 with (first | (with_reducible refine wpList_load_row rfl _ (.tmp 10) rfl mb rfl _ _ _ _ hM.raw Try.underlying66 rfl hq4 ?_))
          refine (take_any g (w.heap.size + 1) X hRd rd ph 11 false ((k : Int) + 1) true 3 1 7 1 3 1 0 5 2 0 0 Av cv zs 0 0 0 ⟨#[]⟩ 0 0 0 0 0 0 Option.none 0 0 Option.none 0 0 Option.none 0 0 false wc hIx.mach (Nums.row hR).1 hr hwf).mono ?_
          rw [hPQ]
          rintro e w4 ⟨X4, B4, u4, rfl, hM4, hO4, hX4, hXn4, hXB4, hB4, hk4'⟩
          obtain ⟨A4, c4, rfl⟩ := hO4.slice
          have hvX : ∀ b, (Value.slice Av zs.length cv).ownBlock = some b → W.heap.size ≤ b ∧ b < wc.heap.size := hR.lt
          have hkg := hkx.size
          have hAway : ∀ b, W.heap.size ≤ b → ¬ (X b ∨ b = g) := fun b h1 h2 => by
            rcases h2 with h2 | h2
            · have := hXW.out b h2; omega
            · omega
          have hR4 := hR.keeps hk4' (fun b e => hAway b (hvX b e).1)
          have hM4m := hM.keeps hk4' (hAway mb hMge)
          have hvX4 : ∀ b, X4 b → (Value.slice Av zs.length cv).ownBlock ≠ some b := fun b h1 h2 => by
            have := hvX b h2
            rcases hXn4 b h1 with h | h
            · have := hXW.out b h; omega
            · omega
          have hkey4 : Blk w4 w.heap.size 51 [.int .i64 1, .int .i64 3, .int .i64 1, .int .i64 0] := hIx.key.keeps hk4' (fun e => by
            rcases e with e | e
            · have := (hIx.mach.X _ e).1; omega
            · have := hIx.mach.g.2; omega)
          have hkw4 : Keeps None w w4 := hIx.keep.andThen hk4' (fun i hi e => by
            rcases e with e | e
            · have := (hIx.mach.X _ e).1; omega
            · have := hIx.mach.g.2; omega)
          obtain ⟨ln', eln⟩ : ∃ n, n = lnO (pkF 0 zs (k + 1)).2.2 := ⟨_, rfl⟩
          rw [← eln]
          have HEL := Lib.hid eln
          have HM4 := Lib.hid hM4
          clear eln hM4 hO4 hX4 hXn4 hXB4 hB4 hk4' hIx hXW hAway hM hR hq4 hPQ
          go_wp2_with fail
          go_loopw [11] (fun i wr => ∃ (j : Nat) (ys : List Int), j ≤ zs.length ∧ i = .int .i64 (j : Int) ∧ ys.length = zs.length ∧ Row .u8 5 wr W.heap.size (.slice Av zs.length cv) ys ∧ Blk wr mb 66 (msgL 11 false ((k : Int) + 1) true 3 1 7 1 3 1 0 5 2 (.slice Av zs.length cv)) ∧ Keeps (OwnB (.slice Av zs.length cv)) w4 wr) (fun i _ => zs.length - (intOf i).toNat)
          case atStart => exact ⟨0, zs, Nat.zero_le _, rfl, rfl, hR4, hM4m, Keeps.refl _ _⟩
          case round =>
            clear hR4 hM4m
            obtain ⟨j, ys, hj, rfl, hyl, hRj, hMj, hkj⟩ := hrel
            have m15 := hMj.cell 15 _ rfl
            by_cases hjl : j < zs.length
            · obtain ⟨q, c', e2, -⟩ := hRj.pos (by omega)
              rw [hyl] at e2
              cases e2
              obtain ⟨x, b', o', e3, hx, -⟩ := (Nums.row hRj).1.get j (by omega)
              cases e3
              rw [Nat.zero_add] at hx
              have hf := hRj.free j
              go_wp2_with fail
              go_still_tail 10, (by kernel_rfl)
              change wpList _ _ _ _ _ wr.drew
              obtain ⟨wq, hwq⟩ : ∃ wq, wq = wr.drew := ⟨_, rfl⟩
              have kd : Keeps None wr wq := by rw [hwq]; exact (Keeps.refl _ _).drew
              rw [← hwq]
              have hRq := hRj.grew kd
              have hMq := hMj.grew kd
              have hkq := hkj.trans kd.of_none
              clear hwq hRj hMj hkj hx hf m15 kd
              have hf := hRq.free j
              obtain ⟨z, hz⟩ := hRq.has j (by omega)
              go_wp2
              go_roundw
              case rel => exact ⟨j + 1, _, by omega, by go_num, by rw [List.length_set]; exact hyl, hRq.store hyl j _, hMq.keeps ((Keeps.refl (One q) _).setCell _ _ (fun _ => rfl)) (fun e => hvm q rfl e.symm), hkq.setCell _ _ (fun _ => rfl)⟩
              case measure => simp [intOf]; omega
            · obtain rfl : j = zs.length := by omega
              go_wp2_with fail
              go_roundw
              case rel =>
                refine ⟨k + 1, X4, A4, c4, by omega, by go_num, by rw [HEL.out], (HM4.out.keeps hkj (fun b h1 h2 => hvX4 b h1 h2) ?_), ?_, ?_⟩
                · intro e; have := hvX g e; omega
                · exact hkey4.keeps hkj (fun e => by have := hvX _ e; omega)
                · exact hkw4.andThen hkj (fun i hi e => by have := hvX _ e; omega)
              case measure => simp [intOf]; omega
      · obtain ⟨ta, tb⟩ := test_eq (show (k : Int) + 1 = 2 by omega)
        have HK1 := Lib.hid hk1
        clear hk1
        go_upto_region 14 with (fail)
        clear ta tb
        obtain ⟨W, hW⟩ : ∃ W, W = wr.alloc (.cells #[.int .i64 4, .int .i64 9] 23) := ⟨_, rfl⟩
        rw [← hW]
        have kW : Keeps None wr W := by rw [hW]; exact (Keeps.refl _ _).alloc _
        have hS := Blk.new wr 23 [.int .i64 4, .int .i64 9]
        rw [← hW] at hS
        have s0 := hS.cell 0 _ rfl
        have s1 := hS.cell 1 _ rfl
        have hAW := hA.grew (hI.keep.trans kW)
        have hIW : RdInv w W g X rd ph := ⟨hI.mach.grew kW, hI.key.grew kW, hI.keep.trans kW⟩
        clear hW hS kW hI
        go_cut [10] (fun x wx => ∃ mb Av cv, x = .pointer (some ⟨mb, 0, Option.none⟩) ∧ Blk wx mb 66 (msgL 11 false ((k : Int) + 1) true 3 1 7 1 3 1 0 4 9 (.slice Av zs.length cv)) ∧ W.heap.size ≤ mb ∧ Row .u8 5 wx W.heap.size (.slice Av zs.length cv) zs ∧ (∀ b, (Value.slice Av zs.length cv).ownBlock = some b → b ≠ mb) ∧ Keeps None W wx)
        case first =>
          refine start_ (ds := []) (S := (fun w' => Keeps None W w')) #[false, false, false, false, false, false, false, false] (by kernel_rfl) rfl rfl ((Keeps.refl _ _).drew) (fun hS0 => ?_)
          refine pure_ (i := 0) (N := some 37) (v := .int .i64 ((k : Int) + 1)) #[true, false, false, false, false, false, false, false] rfl rfl (by kernel_rfl) (fun _ _ _ h => h) (Or.inl ⟨wanted_none rfl, fun w => by rfl⟩) rfl ?_
          try simp only [Act.put, List.setIfInBounds_toArray, List.set_cons_zero, List.set_cons_succ]
          refine take_ (i := 1) (N := some 38) (v := .agg #[.int .i64 4, .int .i64 9]) #[true, true, false, false, false, false, false, false] rfl rfl (by kernel_rfl) (fun _ _ _ h => h) (Or.inl ⟨wanted_none rfl, by intro w' hSw; have q0 := hSw.cell s0 id; have q1 := hSw.cell s1 id; go_simp⟩) hS0 rfl ?_
          try simp only [Act.put, List.setIfInBounds_toArray, List.set_cons_zero, List.set_cons_succ]
          refine pure_ (i := 3) (N := some 40) (v := .slice A zs.length cap) #[true, true, false, true, false, false, false, false] rfl rfl (by kernel_rfl) (fun _ _ _ h => h) (Or.inl ⟨wanted_none rfl, fun w => by rfl⟩) rfl ?_
          try simp only [Act.put, List.setIfInBounds_toArray, List.set_cons_zero, List.set_cons_succ]
          refine two_ (i := 2) (j := 6) (oi := ({ dst := some 39, op := Op.buildSlice 24 0 #[], type := 24, pos := "told.go:53", after := #[], guard := Option.none } : Oper)) (oj := ({ dst := some 10, op := Op.alloc 66, type := 0, pos := "told.go:53", after := #[], guard := Option.none } : Oper)) (Ni := some 39) (Nj := some 10) #[true, true, true, true, false, false, false, false] #[true, true, false, true, false, false, true, false] rfl rfl rfl rfl (by kernel_rfl) (by decide) (by decide) ?_ ?_
          · intro KK hKK
            obtain ⟨EB, hEB⟩ : ∃ x, x = W.drew.heap.size := ⟨_, rfl⟩
            obtain ⟨WE, hWE⟩ : ∃ x, x = W.drew.alloc (.cells #[] 5) := ⟨_, rfl⟩
            have kE : Keeps None W.drew WE := by rw [hWE]; exact (Keeps.refl _ _).alloc _
            have hE0 := Blk.new W.drew 5 []
            rw [← hEB] at hE0
            have hE : Row .u8 5 WE W.heap.size (.slice (some ⟨EB, 0, Option.none⟩) 0 0) [] := by rw [hWE]; exact Row.of_blk (zs := []) hE0 (by have := hS0.size; omega) (by unfold maxLen; simp)
            have hElt : EB < WE.heap.size := (hE.lt EB rfl).2
            refine value_ (wanted_none rfl) rfl (w1 := WE) (v := .slice (some ⟨EB, 0, Option.none⟩) 0 0) (by rw [hWE, hEB]; go_simp) (hKK.out _ _ (hS0.trans kE) (fun h5 => ?_))
            try simp only [Act.put, List.setIfInBounds_toArray, List.set_cons_zero, List.set_cons_succ]
            refine two_ (i := 4) (j := 6) (oi := ({ dst := some 41, op := Op.call { callee := Callee.builtin Builtin.append, args := #[Operand.tmp 39, Operand.tmp 40], argTypes := #[24, 24] }, type := 24, pos := "told.go:53", after := #[{ on := 2, ground := Ground.data }, { on := 3, ground := Ground.data }], guard := Option.none } : Oper)) (oj := ({ dst := some 10, op := Op.alloc 66, type := 0, pos := "told.go:53", after := #[], guard := Option.none } : Oper)) (Ni := some 41) (Nj := some 10) #[true, true, true, true, true, false, false, false] #[true, true, true, true, false, false, true, false] rfl rfl rfl rfl (by kernel_rfl) (by decide) (by decide) ?_ ?_
            · intro KK hKK
              refine step_append_row _ (wanted_none rfl) rfl (.tmp 39) (.tmp 40) 24 rfl W.heap.size 5 i0 (.int .u8 0) 1 1 Try.underlying24 hi hz0 hz1 hz2 rfl (by decide) (.slice (some ⟨EB, 0, Option.none⟩) 0 0) 0 [] rfl hE.raw A zs.length cap (zs.map (Value.int .u8)) rfl (by simp) hcap (hAW.grew h5).src (ints_oneCell _ zs) (by unfold maxLen; omega) (by omega) (by have := h5.size; omega) ?_
              intro v' wA hown hkA hloc
              have hR : Row .u8 5 wA W.heap.size v' ([] ++ zs) := Row.of_append rfl rfl hown
              have hEs := (hE.lt EB rfl).1
              have hEs2 := (hE.lt EB rfl).2
              obtain ⟨Av, cv, ev⟩ := hR.slice
              obtain rfl : v' = .slice Av zs.length cv := ev.trans (by simp)
              simp only [List.nil_append] at hR
              refine hKK.out _ _ (h5.andThen hkA (fun i hi e => by have := OwnB.is e; omega)) (fun h2 => ?_)
              try simp only [Act.put, List.setIfInBounds_toArray, List.set_cons_zero, List.set_cons_succ]
              refine two_ (i := 5) (j := 6) (oi := ({ dst := some 42, op := Op.call { callee := Callee.value (Operand.func 19), args := #[Operand.tmp 37, Operand.const (Value.int IntKind.i64 7), Operand.tmp 38, Operand.tmp 41], argTypes := #[3, 3, 23, 24] }, type := 66, pos := "told.go:53", after := #[{ on := 0, ground := Ground.data }, { on := 1, ground := Ground.data }, { on := 4, ground := Ground.data }, { on := 4, ground := Ground.chain }], guard := Option.none } : Oper)) (oj := ({ dst := some 10, op := Op.alloc 66, type := 0, pos := "told.go:53", after := #[], guard := Option.none } : Oper)) (Ni := some 42) (Nj := some 10) #[true, true, true, true, true, true, false, false] #[true, true, true, true, true, false, true, false] rfl rfl rfl rfl (by kernel_rfl) (by decide) (by decide) ?_ ?_
              · intro KK hKK
                refine goes_ Try.func19 (by kernel_rfl) rfl #[.int .i64 ((k : Int) + 1), .int .i64 7, .agg #[.int .i64 4, .int .i64 9], .slice Av zs.length cv] (wanted_none rfl) rfl rfl (by simp [Act.eval]) ?_
                refine (value_any ((k : Int) + 1) 7 4 9 Av zs.length cv _).mono ?_
                rintro e wV ⟨rfl, hkV⟩
                have hR := hR.grew hkV
                refine ⟨_, rfl, hKK.out _ _ (h2.trans hkV) (fun hS3 => ?_)⟩
                try simp only [Act.put, List.setIfInBounds_toArray, List.set_cons_zero, List.set_cons_succ]
                refine one_ (i := 6) (oi := ({ dst := some 10, op := Op.alloc 66, type := 0, pos := "told.go:53", after := #[], guard := Option.none } : Oper)) (N := some 10) #[true, true, true, true, true, true, true, false] rfl rfl (by kernel_rfl) (by decide) ?_
                intro KK hKK
                obtain ⟨mb, hmb⟩ : ∃ x, x = wV.heap.size := ⟨_, rfl⟩
                obtain ⟨WM, hWM⟩ : ∃ x, x = wV.alloc (.cells (msgL 0 false 0 false 0 0 0 0 0 0 0 0 0 (.slice Option.none 0 0)).toArray 66) := ⟨_, rfl⟩
                have kM : Keeps None wV WM := by rw [hWM]; exact (Keeps.refl _ _).alloc _
                have hM : Blk WM mb 66 (msgL 0 false 0 false 0 0 0 0 0 0 0 0 0 (.slice Option.none 0 0)) := by rw [hWM, hmb]; exact Blk.new _ _ _
                have hMge : W.heap.size ≤ mb := by have := hS3.size; omega
                have hMlt := hM.lt
                have hvm : ∀ b, (Value.slice Av zs.length cv).ownBlock = some b → b ≠ mb := fun b e => by have := (hR.lt b e).2; omega
                have hR := hR.grew kM
                refine value_ (wanted_none rfl) rfl (w1 := WM) (v := .pointer (some ⟨mb, 0, Option.none⟩)) (by rw [hWM, hmb]; exact exec_alloc_msg rfl) (hKK.out _ _ (hS3.trans kM) (fun hS4 => ?_))
                try simp only [Act.put, List.setIfInBounds_toArray, List.set_cons_zero, List.set_cons_succ]
                refine one_ (i := 7) (oi := ({ dst := Option.none, op := Op.store 66 (Operand.tmp 10) (Operand.tmp 42), type := 0, pos := "told.go:53", after := #[{ on := 6, ground := Ground.data }, { on := 5, ground := Ground.data }, { on := 5, ground := Ground.chain }, { on := 0, ground := Ground.phase }, { on := 1, ground := Ground.phase }, { on := 2, ground := Ground.phase }, { on := 3, ground := Ground.phase }, { on := 4, ground := Ground.phase }, { on := 5, ground := Ground.phase }, { on := 6, ground := Ground.phase }], guard := Option.none } : Oper)) (N := Option.none) #[true, true, true, true, true, true, true, true] rfl rfl (by kernel_rfl) (by decide) ?_
                intro KK hKK
                refine skip_ (wanted_none rfl) rfl (w1 := WM.setRow mb (msgL 11 false ((k : Int) + 1) true 3 1 7 1 3 1 0 4 9 (.slice Av zs.length cv)).toArray) (exec_store_msg (.tmp 10) (.tmp 42) rfl mb rfl (msgL 11 false ((k : Int) + 1) true 3 1 7 1 3 1 0 4 9 (.slice Av zs.length cv)) (msgL 0 false 0 false 0 0 0 0 0 0 0 0 0 (.slice Option.none 0 0)) rfl hM rfl rfl (by simp [msgL, Value.oneCell'])) (hKK.out _ _ (hS4.andThen ((Keeps.refl (One mb) _).setRow _ _ (fun _ => rfl)) (fun i hi e => by simp only [One] at e; omega)) (fun hS5 => ?_))
                try simp only [Act.put, List.setIfInBounds_toArray, List.set_cons_zero, List.set_cons_succ]
                refine done_ (by kernel_rfl) ?_
                go_wp2_with fail
                go_meet
                exact ⟨mb, Av, cv, rfl, hM.setRow _, hMge, hR.keeps ((Keeps.refl (One mb) _).setRow _ _ (fun _ => rfl)) (fun b e f => hvm b e f), hvm, hS5⟩
              · intro KK hKK
                obtain ⟨mb, hmb⟩ : ∃ x, x = wA.heap.size := ⟨_, rfl⟩
                obtain ⟨WM, hWM⟩ : ∃ x, x = wA.alloc (.cells (msgL 0 false 0 false 0 0 0 0 0 0 0 0 0 (.slice Option.none 0 0)).toArray 66) := ⟨_, rfl⟩
                have kM : Keeps None wA WM := by rw [hWM]; exact (Keeps.refl _ _).alloc _
                have hM : Blk WM mb 66 (msgL 0 false 0 false 0 0 0 0 0 0 0 0 0 (.slice Option.none 0 0)) := by rw [hWM, hmb]; exact Blk.new _ _ _
                have hMge : W.heap.size ≤ mb := by have := h2.size; omega
                have hMlt := hM.lt
                have hvm : ∀ b, (Value.slice Av zs.length cv).ownBlock = some b → b ≠ mb := fun b e => by have := (hR.lt b e).2; omega
                have hR := hR.grew kM
                refine value_ (wanted_none rfl) rfl (w1 := WM) (v := .pointer (some ⟨mb, 0, Option.none⟩)) (by rw [hWM, hmb]; exact exec_alloc_msg rfl) (hKK.out _ _ (h2.trans kM) (fun hS6 => ?_))
                try simp only [Act.put, List.setIfInBounds_toArray, List.set_cons_zero, List.set_cons_succ]
                refine one_ (i := 5) (oi := ({ dst := some 42, op := Op.call { callee := Callee.value (Operand.func 19), args := #[Operand.tmp 37, Operand.const (Value.int IntKind.i64 7), Operand.tmp 38, Operand.tmp 41], argTypes := #[3, 3, 23, 24] }, type := 66, pos := "told.go:53", after := #[{ on := 0, ground := Ground.data }, { on := 1, ground := Ground.data }, { on := 4, ground := Ground.data }, { on := 4, ground := Ground.chain }], guard := Option.none } : Oper)) (N := some 42) #[true, true, true, true, true, true, true, false] rfl rfl (by kernel_rfl) (by decide) ?_
                intro KK hKK
                refine goes_ Try.func19 (by kernel_rfl) rfl #[.int .i64 ((k : Int) + 1), .int .i64 7, .agg #[.int .i64 4, .int .i64 9], .slice Av zs.length cv] (wanted_none rfl) rfl rfl (by simp [Act.eval]) ?_
                refine (value_any ((k : Int) + 1) 7 4 9 Av zs.length cv _).mono ?_
                rintro e wV ⟨rfl, hkV⟩
                have hR := hR.grew hkV
                have hM := hM.grew hkV
                refine ⟨_, rfl, hKK.out _ _ (hS6.trans hkV) (fun hS7 => ?_)⟩
                try simp only [Act.put, List.setIfInBounds_toArray, List.set_cons_zero, List.set_cons_succ]
                refine one_ (i := 7) (oi := ({ dst := Option.none, op := Op.store 66 (Operand.tmp 10) (Operand.tmp 42), type := 0, pos := "told.go:53", after := #[{ on := 6, ground := Ground.data }, { on := 5, ground := Ground.data }, { on := 5, ground := Ground.chain }, { on := 0, ground := Ground.phase }, { on := 1, ground := Ground.phase }, { on := 2, ground := Ground.phase }, { on := 3, ground := Ground.phase }, { on := 4, ground := Ground.phase }, { on := 5, ground := Ground.phase }, { on := 6, ground := Ground.phase }], guard := Option.none } : Oper)) (N := Option.none) #[true, true, true, true, true, true, true, true] rfl rfl (by kernel_rfl) (by decide) ?_
                intro KK hKK
                refine skip_ (wanted_none rfl) rfl (w1 := wV.setRow mb (msgL 11 false ((k : Int) + 1) true 3 1 7 1 3 1 0 4 9 (.slice Av zs.length cv)).toArray) (exec_store_msg (.tmp 10) (.tmp 42) rfl mb rfl (msgL 11 false ((k : Int) + 1) true 3 1 7 1 3 1 0 4 9 (.slice Av zs.length cv)) (msgL 0 false 0 false 0 0 0 0 0 0 0 0 0 (.slice Option.none 0 0)) rfl hM rfl rfl (by simp [msgL, Value.oneCell'])) (hKK.out _ _ (hS7.andThen ((Keeps.refl (One mb) _).setRow _ _ (fun _ => rfl)) (fun i hi e => by simp only [One] at e; omega)) (fun hS8 => ?_))
                try simp only [Act.put, List.setIfInBounds_toArray, List.set_cons_zero, List.set_cons_succ]
                refine done_ (by kernel_rfl) ?_
                go_wp2_with fail
                go_meet
                exact ⟨mb, Av, cv, rfl, hM.setRow _, hMge, hR.keeps ((Keeps.refl (One mb) _).setRow _ _ (fun _ => rfl)) (fun b e f => hvm b e f), hvm, hS8⟩
            · intro KK hKK
              obtain ⟨mb, hmb⟩ : ∃ x, x = WE.heap.size := ⟨_, rfl⟩
              obtain ⟨WM, hWM⟩ : ∃ x, x = WE.alloc (.cells (msgL 0 false 0 false 0 0 0 0 0 0 0 0 0 (.slice Option.none 0 0)).toArray 66) := ⟨_, rfl⟩
              have kM : Keeps None WE WM := by rw [hWM]; exact (Keeps.refl _ _).alloc _
              have hM : Blk WM mb 66 (msgL 0 false 0 false 0 0 0 0 0 0 0 0 0 (.slice Option.none 0 0)) := by rw [hWM, hmb]; exact Blk.new _ _ _
              have hMge : W.heap.size ≤ mb := by have := h5.size; omega
              have hMlt := hM.lt
              have hE := hE.grew kM
              have hME : EB ≠ mb := by omega
              refine value_ (wanted_none rfl) rfl (w1 := WM) (v := .pointer (some ⟨mb, 0, Option.none⟩)) (by rw [hWM, hmb]; exact exec_alloc_msg rfl) (hKK.out _ _ (h5.trans kM) (fun hS9 => ?_))
              try simp only [Act.put, List.setIfInBounds_toArray, List.set_cons_zero, List.set_cons_succ]
              refine one_ (i := 4) (oi := ({ dst := some 41, op := Op.call { callee := Callee.builtin Builtin.append, args := #[Operand.tmp 39, Operand.tmp 40], argTypes := #[24, 24] }, type := 24, pos := "told.go:53", after := #[{ on := 2, ground := Ground.data }, { on := 3, ground := Ground.data }], guard := Option.none } : Oper)) (N := some 41) #[true, true, true, true, true, false, true, false] rfl rfl (by kernel_rfl) (by decide) ?_
              intro KK hKK
              refine step_append_row _ (wanted_none rfl) rfl (.tmp 39) (.tmp 40) 24 rfl W.heap.size 5 i0 (.int .u8 0) 1 1 Try.underlying24 hi hz0 hz1 hz2 rfl (by decide) (.slice (some ⟨EB, 0, Option.none⟩) 0 0) 0 [] rfl hE.raw A zs.length cap (zs.map (Value.int .u8)) rfl (by simp) hcap (hAW.grew hS9).src (ints_oneCell _ zs) (by unfold maxLen; omega) (by omega) (by have := hS9.size; omega) ?_
              intro v' wA hown hkA hloc
              have hR : Row .u8 5 wA W.heap.size v' ([] ++ zs) := Row.of_append rfl rfl hown
              have hEs := (hE.lt EB rfl).1
              have hEs2 := (hE.lt EB rfl).2
              have hvm : ∀ b, v'.ownBlock = some b → b ≠ mb := fun b e => hloc.elim (fun h => by rw [h] at e; cases e; exact hME) (fun h => by rw [h] at e; have := hM.lt; have := Option.some.inj e; omega)
              have hM := hM.keeps hkA (fun e => hME (OwnB.is e).symm)
              obtain ⟨Av, cv, ev⟩ := hR.slice
              obtain rfl : v' = .slice Av zs.length cv := ev.trans (by simp)
              simp only [List.nil_append] at hR
              refine hKK.out _ _ (hS9.andThen hkA (fun i hi e => by have := OwnB.is e; omega)) (fun h50 => ?_)
              try simp only [Act.put, List.setIfInBounds_toArray, List.set_cons_zero, List.set_cons_succ]
              refine one_ (i := 5) (oi := ({ dst := some 42, op := Op.call { callee := Callee.value (Operand.func 19), args := #[Operand.tmp 37, Operand.const (Value.int IntKind.i64 7), Operand.tmp 38, Operand.tmp 41], argTypes := #[3, 3, 23, 24] }, type := 66, pos := "told.go:53", after := #[{ on := 0, ground := Ground.data }, { on := 1, ground := Ground.data }, { on := 4, ground := Ground.data }, { on := 4, ground := Ground.chain }], guard := Option.none } : Oper)) (N := some 42) #[true, true, true, true, true, true, true, false] rfl rfl (by kernel_rfl) (by decide) ?_
              intro KK hKK
              refine goes_ Try.func19 (by kernel_rfl) rfl #[.int .i64 ((k : Int) + 1), .int .i64 7, .agg #[.int .i64 4, .int .i64 9], .slice Av zs.length cv] (wanted_none rfl) rfl rfl (by simp [Act.eval]) ?_
              refine (value_any ((k : Int) + 1) 7 4 9 Av zs.length cv _).mono ?_
              rintro e wV ⟨rfl, hkV⟩
              have hR := hR.grew hkV
              have hM := hM.grew hkV
              refine ⟨_, rfl, hKK.out _ _ (h50.trans hkV) (fun h51 => ?_)⟩
              try simp only [Act.put, List.setIfInBounds_toArray, List.set_cons_zero, List.set_cons_succ]
              refine one_ (i := 7) (oi := ({ dst := Option.none, op := Op.store 66 (Operand.tmp 10) (Operand.tmp 42), type := 0, pos := "told.go:53", after := #[{ on := 6, ground := Ground.data }, { on := 5, ground := Ground.data }, { on := 5, ground := Ground.chain }, { on := 0, ground := Ground.phase }, { on := 1, ground := Ground.phase }, { on := 2, ground := Ground.phase }, { on := 3, ground := Ground.phase }, { on := 4, ground := Ground.phase }, { on := 5, ground := Ground.phase }, { on := 6, ground := Ground.phase }], guard := Option.none } : Oper)) (N := Option.none) #[true, true, true, true, true, true, true, true] rfl rfl (by kernel_rfl) (by decide) ?_
              intro KK hKK
              refine skip_ (wanted_none rfl) rfl (w1 := wV.setRow mb (msgL 11 false ((k : Int) + 1) true 3 1 7 1 3 1 0 4 9 (.slice Av zs.length cv)).toArray) (exec_store_msg (.tmp 10) (.tmp 42) rfl mb rfl (msgL 11 false ((k : Int) + 1) true 3 1 7 1 3 1 0 4 9 (.slice Av zs.length cv)) (msgL 0 false 0 false 0 0 0 0 0 0 0 0 0 (.slice Option.none 0 0)) rfl hM rfl rfl (by simp [msgL, Value.oneCell'])) (hKK.out _ _ (h51.andThen ((Keeps.refl (One mb) _).setRow _ _ (fun _ => rfl)) (fun i hi e => by simp only [One] at e; omega)) (fun h52 => ?_))
              try simp only [Act.put, List.setIfInBounds_toArray, List.set_cons_zero, List.set_cons_succ]
              refine done_ (by kernel_rfl) ?_
              go_wp2_with fail
              go_meet
              exact ⟨mb, Av, cv, rfl, hM.setRow _, hMge, hR.keeps ((Keeps.refl (One mb) _).setRow _ _ (fun _ => rfl)) (fun b e f => hvm b e f), hvm, h52⟩
          · intro KK hKK
            obtain ⟨mb, hmb⟩ : ∃ x, x = W.drew.heap.size := ⟨_, rfl⟩
            obtain ⟨WM, hWM⟩ : ∃ x, x = W.drew.alloc (.cells (msgL 0 false 0 false 0 0 0 0 0 0 0 0 0 (.slice Option.none 0 0)).toArray 66) := ⟨_, rfl⟩
            have kM : Keeps None W.drew WM := by rw [hWM]; exact (Keeps.refl _ _).alloc _
            have hM : Blk WM mb 66 (msgL 0 false 0 false 0 0 0 0 0 0 0 0 0 (.slice Option.none 0 0)) := by rw [hWM, hmb]; exact Blk.new _ _ _
            have hMge : W.heap.size ≤ mb := by have := hS0.size; omega
            have hMlt := hM.lt
            refine value_ (wanted_none rfl) rfl (w1 := WM) (v := .pointer (some ⟨mb, 0, Option.none⟩)) (by rw [hWM, hmb]; exact exec_alloc_msg rfl) (hKK.out _ _ (hS0.trans kM) (fun h53 => ?_))
            try simp only [Act.put, List.setIfInBounds_toArray, List.set_cons_zero, List.set_cons_succ]
            refine one_ (i := 2) (oi := ({ dst := some 39, op := Op.buildSlice 24 0 #[], type := 24, pos := "told.go:53", after := #[], guard := Option.none } : Oper)) (N := some 39) #[true, true, true, true, false, false, true, false] rfl rfl (by kernel_rfl) (by decide) ?_
            intro KK hKK
            obtain ⟨EB, hEB⟩ : ∃ x, x = WM.heap.size := ⟨_, rfl⟩
            obtain ⟨WE, hWE⟩ : ∃ x, x = WM.alloc (.cells #[] 5) := ⟨_, rfl⟩
            have kE : Keeps None WM WE := by rw [hWE]; exact (Keeps.refl _ _).alloc _
            have hE0 := Blk.new WM 5 []
            rw [← hEB] at hE0
            have hE : Row .u8 5 WE W.heap.size (.slice (some ⟨EB, 0, Option.none⟩) 0 0) [] := by rw [hWE]; exact Row.of_blk (zs := []) hE0 (by have := h53.size; omega) (by unfold maxLen; simp)
            have hElt : EB < WE.heap.size := (hE.lt EB rfl).2
            have hM := hM.grew kE
            have hME : EB ≠ mb := by have := hMlt; omega
            refine value_ (wanted_none rfl) rfl (w1 := WE) (v := .slice (some ⟨EB, 0, Option.none⟩) 0 0) (by rw [hWE, hEB]; go_simp) (hKK.out _ _ (h53.trans kE) (fun h54 => ?_))
            try simp only [Act.put, List.setIfInBounds_toArray, List.set_cons_zero, List.set_cons_succ]
            refine one_ (i := 4) (oi := ({ dst := some 41, op := Op.call { callee := Callee.builtin Builtin.append, args := #[Operand.tmp 39, Operand.tmp 40], argTypes := #[24, 24] }, type := 24, pos := "told.go:53", after := #[{ on := 2, ground := Ground.data }, { on := 3, ground := Ground.data }], guard := Option.none } : Oper)) (N := some 41) #[true, true, true, true, true, false, true, false] rfl rfl (by kernel_rfl) (by decide) ?_
            intro KK hKK
            refine step_append_row _ (wanted_none rfl) rfl (.tmp 39) (.tmp 40) 24 rfl W.heap.size 5 i0 (.int .u8 0) 1 1 Try.underlying24 hi hz0 hz1 hz2 rfl (by decide) (.slice (some ⟨EB, 0, Option.none⟩) 0 0) 0 [] rfl hE.raw A zs.length cap (zs.map (Value.int .u8)) rfl (by simp) hcap (hAW.grew h54).src (ints_oneCell _ zs) (by unfold maxLen; omega) (by omega) (by have := h54.size; omega) ?_
            intro v' wA hown hkA hloc
            have hR : Row .u8 5 wA W.heap.size v' ([] ++ zs) := Row.of_append rfl rfl hown
            have hEs := (hE.lt EB rfl).1
            have hEs2 := (hE.lt EB rfl).2
            have hvm : ∀ b, v'.ownBlock = some b → b ≠ mb := fun b e => hloc.elim (fun h => by rw [h] at e; cases e; exact hME) (fun h => by rw [h] at e; have := hM.lt; have := Option.some.inj e; omega)
            have hM := hM.keeps hkA (fun e => hME (OwnB.is e).symm)
            obtain ⟨Av, cv, ev⟩ := hR.slice
            obtain rfl : v' = .slice Av zs.length cv := ev.trans (by simp)
            simp only [List.nil_append] at hR
            refine hKK.out _ _ (h54.andThen hkA (fun i hi e => by have := OwnB.is e; omega)) (fun h55 => ?_)
            try simp only [Act.put, List.setIfInBounds_toArray, List.set_cons_zero, List.set_cons_succ]
            refine one_ (i := 5) (oi := ({ dst := some 42, op := Op.call { callee := Callee.value (Operand.func 19), args := #[Operand.tmp 37, Operand.const (Value.int IntKind.i64 7), Operand.tmp 38, Operand.tmp 41], argTypes := #[3, 3, 23, 24] }, type := 66, pos := "told.go:53", after := #[{ on := 0, ground := Ground.data }, { on := 1, ground := Ground.data }, { on := 4, ground := Ground.data }, { on := 4, ground := Ground.chain }], guard := Option.none } : Oper)) (N := some 42) #[true, true, true, true, true, true, true, false] rfl rfl (by kernel_rfl) (by decide) ?_
            intro KK hKK
            refine goes_ Try.func19 (by kernel_rfl) rfl #[.int .i64 ((k : Int) + 1), .int .i64 7, .agg #[.int .i64 4, .int .i64 9], .slice Av zs.length cv] (wanted_none rfl) rfl rfl (by simp [Act.eval]) ?_
            refine (value_any ((k : Int) + 1) 7 4 9 Av zs.length cv _).mono ?_
            rintro e wV ⟨rfl, hkV⟩
            have hR := hR.grew hkV
            have hM := hM.grew hkV
            refine ⟨_, rfl, hKK.out _ _ (h55.trans hkV) (fun h56 => ?_)⟩
            try simp only [Act.put, List.setIfInBounds_toArray, List.set_cons_zero, List.set_cons_succ]
            refine one_ (i := 7) (oi := ({ dst := Option.none, op := Op.store 66 (Operand.tmp 10) (Operand.tmp 42), type := 0, pos := "told.go:53", after := #[{ on := 6, ground := Ground.data }, { on := 5, ground := Ground.data }, { on := 5, ground := Ground.chain }, { on := 0, ground := Ground.phase }, { on := 1, ground := Ground.phase }, { on := 2, ground := Ground.phase }, { on := 3, ground := Ground.phase }, { on := 4, ground := Ground.phase }, { on := 5, ground := Ground.phase }, { on := 6, ground := Ground.phase }], guard := Option.none } : Oper)) (N := Option.none) #[true, true, true, true, true, true, true, true] rfl rfl (by kernel_rfl) (by decide) ?_
            intro KK hKK
            refine skip_ (wanted_none rfl) rfl (w1 := wV.setRow mb (msgL 11 false ((k : Int) + 1) true 3 1 7 1 3 1 0 4 9 (.slice Av zs.length cv)).toArray) (exec_store_msg (.tmp 10) (.tmp 42) rfl mb rfl (msgL 11 false ((k : Int) + 1) true 3 1 7 1 3 1 0 4 9 (.slice Av zs.length cv)) (msgL 0 false 0 false 0 0 0 0 0 0 0 0 0 (.slice Option.none 0 0)) rfl hM rfl rfl (by simp [msgL, Value.oneCell'])) (hKK.out _ _ (h56.andThen ((Keeps.refl (One mb) _).setRow _ _ (fun _ => rfl)) (fun i hi e => by simp only [One] at e; omega)) (fun h57 => ?_))
            try simp only [Act.put, List.setIfInBounds_toArray, List.set_cons_zero, List.set_cons_succ]
            refine done_ (by kernel_rfl) ?_
            go_wp2_with fail
            go_meet
            exact ⟨mb, Av, cv, rfl, hM.setRow _, hMge, hR.keeps ((Keeps.refl (One mb) _).setRow _ _ (fun _ => rfl)) (fun b e f => hvm b e f), hvm, h57⟩
        case rest =>
          obtain ⟨mb, Av, cv, rfl, hM, hMge, hR, hvm, hkx⟩ := hcut
          have hIx : RdInv w wc g X rd ph := ⟨hIW.mach.grew hkx, hIW.key.grew hkx, hIW.keep.trans hkx⟩
          have hPQ : takeF hRd rd ph 11 ((k : Int) + 1) (4, 9) zs (fitsF hRd rd false true 3 1 7 1 3 1 0) = pkF 1 zs (k + 1) := by
            have := hPP.out
            rwa [show stF 1 ((k : Int) + 1) = (4, 9) from by unfold stF; rw [if_neg (by omega), if_pos ⟨rfl, by have := HK1.out; omega⟩]] at this
          have hXW := Lib.hid (fun b e => (hIW.mach.X b e).2)
          have hwW := hIW.keep.size
          have hwl := hIW.key.lt
          have hgW := hIW.mach.lt
          have hq4 : (Try.prog.info? 66).map (·.size) = some (msgL 11 false ((k : Int) + 1) true 3 1 7 1 3 1 0 4 9 (.slice Av zs.length cv)).toArray.size := sizeMsg rfl
          clear hIW s0 s1 hPP
          go_upto_region 15 with (fail)
          go_upto_region 16 with (first | (with_reducible refine wpList_load_row rfl _ (.tmp 10) rfl mb rfl _ _ _ _ hM.raw Try.underlying66 rfl hq4 ?_))
          refine (take_any g (w.heap.size + 1) X hRd rd ph 11 false ((k : Int) + 1) true 3 1 7 1 3 1 0 4 9 0 0 Av cv zs 0 0 0 ⟨#[]⟩ 0 0 0 0 0 0 Option.none 0 0 Option.none 0 0 Option.none 0 0 false wc hIx.mach (Nums.row hR).1 hr hwf).mono ?_
          rw [hPQ]
          rintro e w4 ⟨X4, B4, u4, rfl, hM4, hO4, hX4, hXn4, hXB4, hB4, hk4'⟩
          obtain ⟨A4, c4, rfl⟩ := hO4.slice
          have hvX : ∀ b, (Value.slice Av zs.length cv).ownBlock = some b → W.heap.size ≤ b ∧ b < wc.heap.size := hR.lt
          have hkg := hkx.size
          have hAway : ∀ b, W.heap.size ≤ b → ¬ (X b ∨ b = g) := fun b h1 h2 => by
            rcases h2 with h2 | h2
            · have := hXW.out b h2; omega
            · omega
          have hR4 := hR.keeps hk4' (fun b e => hAway b (hvX b e).1)
          have hM4m := hM.keeps hk4' (hAway mb hMge)
          have hvX4 : ∀ b, X4 b → (Value.slice Av zs.length cv).ownBlock ≠ some b := fun b h1 h2 => by
            have := hvX b h2
            rcases hXn4 b h1 with h | h
            · have := hXW.out b h; omega
            · omega
          have hkey4 : Blk w4 w.heap.size 51 [.int .i64 1, .int .i64 3, .int .i64 1, .int .i64 0] := hIx.key.keeps hk4' (fun e => by
            rcases e with e | e
            · have := (hIx.mach.X _ e).1; omega
            · have := hIx.mach.g.2; omega)
          have hkw4 : Keeps None w w4 := hIx.keep.andThen hk4' (fun i hi e => by
            rcases e with e | e
            · have := (hIx.mach.X _ e).1; omega
            · have := hIx.mach.g.2; omega)
          obtain ⟨ln', eln⟩ : ∃ n, n = lnO (pkF 1 zs (k + 1)).2.2 := ⟨_, rfl⟩
          rw [← eln]
          have HEL := Lib.hid eln
          have HM4 := Lib.hid hM4
          clear eln hM4 hO4 hX4 hXn4 hXB4 hB4 hk4' hIx hXW hAway hM hR hq4 hPQ
          go_wp2_with fail
          go_loopw [11] (fun i wr => ∃ (j : Nat) (ys : List Int), j ≤ zs.length ∧ i = .int .i64 (j : Int) ∧ ys.length = zs.length ∧ Row .u8 5 wr W.heap.size (.slice Av zs.length cv) ys ∧ Blk wr mb 66 (msgL 11 false ((k : Int) + 1) true 3 1 7 1 3 1 0 4 9 (.slice Av zs.length cv)) ∧ Keeps (OwnB (.slice Av zs.length cv)) w4 wr) (fun i _ => zs.length - (intOf i).toNat)
          case atStart => exact ⟨0, zs, Nat.zero_le _, rfl, rfl, hR4, hM4m, Keeps.refl _ _⟩
          case round =>
            clear hR4 hM4m
            obtain ⟨j, ys, hj, rfl, hyl, hRj, hMj, hkj⟩ := hrel
            have m15 := hMj.cell 15 _ rfl
            by_cases hjl : j < zs.length
            · obtain ⟨q, c', e2, -⟩ := hRj.pos (by omega)
              rw [hyl] at e2
              cases e2
              obtain ⟨x, b', o', e3, hx, -⟩ := (Nums.row hRj).1.get j (by omega)
              cases e3
              rw [Nat.zero_add] at hx
              have hf := hRj.free j
              go_wp2_with fail
              go_still_tail 10, (by kernel_rfl)
              change wpList _ _ _ _ _ wr.drew
              obtain ⟨wq, hwq⟩ : ∃ wq, wq = wr.drew := ⟨_, rfl⟩
              have kd : Keeps None wr wq := by rw [hwq]; exact (Keeps.refl _ _).drew
              rw [← hwq]
              have hRq := hRj.grew kd
              have hMq := hMj.grew kd
              have hkq := hkj.trans kd.of_none
              clear hwq hRj hMj hkj hx hf m15 kd
              have hf := hRq.free j
              obtain ⟨z, hz⟩ := hRq.has j (by omega)
              go_wp2
              go_roundw
              case rel => exact ⟨j + 1, _, by omega, by go_num, by rw [List.length_set]; exact hyl, hRq.store hyl j _, hMq.keeps ((Keeps.refl (One q) _).setCell _ _ (fun _ => rfl)) (fun e => hvm q rfl e.symm), hkq.setCell _ _ (fun _ => rfl)⟩
              case measure => simp [intOf]; omega
            · obtain rfl : j = zs.length := by omega
              go_wp2_with fail
              go_roundw
              case rel =>
                refine ⟨k + 1, X4, A4, c4, by omega, by go_num, by rw [HEL.out], (HM4.out.keeps hkj (fun b h1 h2 => hvX4 b h1 h2) ?_), ?_, ?_⟩
                · intro e; have := hvX g e; omega
                · exact hkey4.keeps hkj (fun e => by have := hvX _ e; omega)
                · exact hkw4.andThen hkj (fun i hi e => by have := hvX _ e; omega)
              case measure => simp [intOf]; omega
      · obtain ⟨ta, tb⟩ := test_ne (show ¬ (k : Int) + 1 = 2 by omega)
        go_upto_region 14 with (fail)
        clear ta tb
        obtain ⟨W, hW⟩ : ∃ W, W = wr.alloc (.cells #[.int .i64 5, .int .i64 2] 23) := ⟨_, rfl⟩
        rw [← hW]
        have kW : Keeps None wr W := by rw [hW]; exact (Keeps.refl _ _).alloc _
        have hS := Blk.new wr 23 [.int .i64 5, .int .i64 2]
        rw [← hW] at hS
        have s0 := hS.cell 0 _ rfl
        have s1 := hS.cell 1 _ rfl
        have hAW := hA.grew (hI.keep.trans kW)
        have hIW : RdInv w W g X rd ph := ⟨hI.mach.grew kW, hI.key.grew kW, hI.keep.trans kW⟩
        clear hW hS kW hI
        go_cut [10] (fun x wx => ∃ mb Av cv, x = .pointer (some ⟨mb, 0, Option.none⟩) ∧ Blk wx mb 66 (msgL 11 false ((k : Int) + 1) true 3 1 7 1 3 1 0 5 2 (.slice Av zs.length cv)) ∧ W.heap.size ≤ mb ∧ Row .u8 5 wx W.heap.size (.slice Av zs.length cv) zs ∧ (∀ b, (Value.slice Av zs.length cv).ownBlock = some b → b ≠ mb) ∧ Keeps None W wx)
        case first =>
          refine start_ (ds := []) (S := (fun w' => Keeps None W w')) #[false, false, false, false, false, false, false, false] (by kernel_rfl) rfl rfl ((Keeps.refl _ _).drew) (fun hS0 => ?_)
          refine pure_ (i := 0) (N := some 37) (v := .int .i64 ((k : Int) + 1)) #[true, false, false, false, false, false, false, false] rfl rfl (by kernel_rfl) (fun _ _ _ h => h) (Or.inl ⟨wanted_none rfl, fun w => by rfl⟩) rfl ?_
          try simp only [Act.put, List.setIfInBounds_toArray, List.set_cons_zero, List.set_cons_succ]
          refine take_ (i := 1) (N := some 38) (v := .agg #[.int .i64 5, .int .i64 2]) #[true, true, false, false, false, false, false, false] rfl rfl (by kernel_rfl) (fun _ _ _ h => h) (Or.inl ⟨wanted_none rfl, by intro w' hSw; have q0 := hSw.cell s0 id; have q1 := hSw.cell s1 id; go_simp⟩) hS0 rfl ?_
          try simp only [Act.put, List.setIfInBounds_toArray, List.set_cons_zero, List.set_cons_succ]
          refine pure_ (i := 3) (N := some 40) (v := .slice A zs.length cap) #[true, true, false, true, false, false, false, false] rfl rfl (by kernel_rfl) (fun _ _ _ h => h) (Or.inl ⟨wanted_none rfl, fun w => by rfl⟩) rfl ?_
          try simp only [Act.put, List.setIfInBounds_toArray, List.set_cons_zero, List.set_cons_succ]
          refine two_ (i := 2) (j := 6) (oi := ({ dst := some 39, op := Op.buildSlice 24 0 #[], type := 24, pos := "told.go:53", after := #[], guard := Option.none } : Oper)) (oj := ({ dst := some 10, op := Op.alloc 66, type := 0, pos := "told.go:53", after := #[], guard := Option.none } : Oper)) (Ni := some 39) (Nj := some 10) #[true, true, true, true, false, false, false, false] #[true, true, false, true, false, false, true, false] rfl rfl rfl rfl (by kernel_rfl) (by decide) (by decide) ?_ ?_
          · intro KK hKK
            obtain ⟨EB, hEB⟩ : ∃ x, x = W.drew.heap.size := ⟨_, rfl⟩
            obtain ⟨WE, hWE⟩ : ∃ x, x = W.drew.alloc (.cells #[] 5) := ⟨_, rfl⟩
            have kE : Keeps None W.drew WE := by rw [hWE]; exact (Keeps.refl _ _).alloc _
            have hE0 := Blk.new W.drew 5 []
            rw [← hEB] at hE0
            have hE : Row .u8 5 WE W.heap.size (.slice (some ⟨EB, 0, Option.none⟩) 0 0) [] := by rw [hWE]; exact Row.of_blk (zs := []) hE0 (by have := hS0.size; omega) (by unfold maxLen; simp)
            have hElt : EB < WE.heap.size := (hE.lt EB rfl).2
            refine value_ (wanted_none rfl) rfl (w1 := WE) (v := .slice (some ⟨EB, 0, Option.none⟩) 0 0) (by rw [hWE, hEB]; go_simp) (hKK.out _ _ (hS0.trans kE) (fun h5 => ?_))
            try simp only [Act.put, List.setIfInBounds_toArray, List.set_cons_zero, List.set_cons_succ]
            refine two_ (i := 4) (j := 6) (oi := ({ dst := some 41, op := Op.call { callee := Callee.builtin Builtin.append, args := #[Operand.tmp 39, Operand.tmp 40], argTypes := #[24, 24] }, type := 24, pos := "told.go:53", after := #[{ on := 2, ground := Ground.data }, { on := 3, ground := Ground.data }], guard := Option.none } : Oper)) (oj := ({ dst := some 10, op := Op.alloc 66, type := 0, pos := "told.go:53", after := #[], guard := Option.none } : Oper)) (Ni := some 41) (Nj := some 10) #[true, true, true, true, true, false, false, false] #[true, true, true, true, false, false, true, false] rfl rfl rfl rfl (by kernel_rfl) (by decide) (by decide) ?_ ?_
            · intro KK hKK
              refine step_append_row _ (wanted_none rfl) rfl (.tmp 39) (.tmp 40) 24 rfl W.heap.size 5 i0 (.int .u8 0) 1 1 Try.underlying24 hi hz0 hz1 hz2 rfl (by decide) (.slice (some ⟨EB, 0, Option.none⟩) 0 0) 0 [] rfl hE.raw A zs.length cap (zs.map (Value.int .u8)) rfl (by simp) hcap (hAW.grew h5).src (ints_oneCell _ zs) (by unfold maxLen; omega) (by omega) (by have := h5.size; omega) ?_
              intro v' wA hown hkA hloc
              have hR : Row .u8 5 wA W.heap.size v' ([] ++ zs) := Row.of_append rfl rfl hown
              have hEs := (hE.lt EB rfl).1
              have hEs2 := (hE.lt EB rfl).2
              obtain ⟨Av, cv, ev⟩ := hR.slice
              obtain rfl : v' = .slice Av zs.length cv := ev.trans (by simp)
              simp only [List.nil_append] at hR
              refine hKK.out _ _ (h5.andThen hkA (fun i hi e => by have := OwnB.is e; omega)) (fun h2 => ?_)
              try simp only [Act.put, List.setIfInBounds_toArray, List.set_cons_zero, List.set_cons_succ]
              refine two_ (i := 5) (j := 6) (oi := ({ dst := some 42, op := Op.call { callee := Callee.value (Operand.func 19), args := #[Operand.tmp 37, Operand.const (Value.int IntKind.i64 7), Operand.tmp 38, Operand.tmp 41], argTypes := #[3, 3, 23, 24] }, type := 66, pos := "told.go:53", after := #[{ on := 0, ground := Ground.data }, { on := 1, ground := Ground.data }, { on := 4, ground := Ground.data }, { on := 4, ground := Ground.chain }], guard := Option.none } : Oper)) (oj := ({ dst := some 10, op := Op.alloc 66, type := 0, pos := "told.go:53", after := #[], guard := Option.none } : Oper)) (Ni := some 42) (Nj := some 10) #[true, true, true, true, true, true, false, false] #[true, true, true, true, true, false, true, false] rfl rfl rfl rfl (by kernel_rfl) (by decide) (by decide) ?_ ?_
              · intro KK hKK
                refine goes_ Try.func19 (by kernel_rfl) rfl #[.int .i64 ((k : Int) + 1), .int .i64 7, .agg #[.int .i64 5, .int .i64 2], .slice Av zs.length cv] (wanted_none rfl) rfl rfl (by simp [Act.eval]) ?_
                refine (value_any ((k : Int) + 1) 7 5 2 Av zs.length cv _).mono ?_
                rintro e wV ⟨rfl, hkV⟩
                have hR := hR.grew hkV
                refine ⟨_, rfl, hKK.out _ _ (h2.trans hkV) (fun hS3 => ?_)⟩
                try simp only [Act.put, List.setIfInBounds_toArray, List.set_cons_zero, List.set_cons_succ]
                refine one_ (i := 6) (oi := ({ dst := some 10, op := Op.alloc 66, type := 0, pos := "told.go:53", after := #[], guard := Option.none } : Oper)) (N := some 10) #[true, true, true, true, true, true, true, false] rfl rfl (by kernel_rfl) (by decide) ?_
                intro KK hKK
                obtain ⟨mb, hmb⟩ : ∃ x, x = wV.heap.size := ⟨_, rfl⟩
                obtain ⟨WM, hWM⟩ : ∃ x, x = wV.alloc (.cells (msgL 0 false 0 false 0 0 0 0 0 0 0 0 0 (.slice Option.none 0 0)).toArray 66) := ⟨_, rfl⟩
                have kM : Keeps None wV WM := by rw [hWM]; exact (Keeps.refl _ _).alloc _
                have hM : Blk WM mb 66 (msgL 0 false 0 false 0 0 0 0 0 0 0 0 0 (.slice Option.none 0 0)) := by rw [hWM, hmb]; exact Blk.new _ _ _
                have hMge : W.heap.size ≤ mb := by have := hS3.size; omega
                have hMlt := hM.lt
                have hvm : ∀ b, (Value.slice Av zs.length cv).ownBlock = some b → b ≠ mb := fun b e => by have := (hR.lt b e).2; omega
                have hR := hR.grew kM
                refine value_ (wanted_none rfl) rfl (w1 := WM) (v := .pointer (some ⟨mb, 0, Option.none⟩)) (by rw [hWM, hmb]; exact exec_alloc_msg rfl) (hKK.out _ _ (hS3.trans kM) (fun hS4 => ?_))
                try simp only [Act.put, List.setIfInBounds_toArray, List.set_cons_zero, List.set_cons_succ]
                refine one_ (i := 7) (oi := ({ dst := Option.none, op := Op.store 66 (Operand.tmp 10) (Operand.tmp 42), type := 0, pos := "told.go:53", after := #[{ on := 6, ground := Ground.data }, { on := 5, ground := Ground.data }, { on := 5, ground := Ground.chain }, { on := 0, ground := Ground.phase }, { on := 1, ground := Ground.phase }, { on := 2, ground := Ground.phase }, { on := 3, ground := Ground.phase }, { on := 4, ground := Ground.phase }, { on := 5, ground := Ground.phase }, { on := 6, ground := Ground.phase }], guard := Option.none } : Oper)) (N := Option.none) #[true, true, true, true, true, true, true, true] rfl rfl (by kernel_rfl) (by decide) ?_
                intro KK hKK
                refine skip_ (wanted_none rfl) rfl (w1 := WM.setRow mb (msgL 11 false ((k : Int) + 1) true 3 1 7 1 3 1 0 5 2 (.slice Av zs.length cv)).toArray) (exec_store_msg (.tmp 10) (.tmp 42) rfl mb rfl (msgL 11 false ((k : Int) + 1) true 3 1 7 1 3 1 0 5 2 (.slice Av zs.length cv)) (msgL 0 false 0 false 0 0 0 0 0 0 0 0 0 (.slice Option.none 0 0)) rfl hM rfl rfl (by simp [msgL, Value.oneCell'])) (hKK.out _ _ (hS4.andThen ((Keeps.refl (One mb) _).setRow _ _ (fun _ => rfl)) (fun i hi e => by simp only [One] at e; omega)) (fun hS5 => ?_))
                try simp only [Act.put, List.setIfInBounds_toArray, List.set_cons_zero, List.set_cons_succ]
                refine done_ (by kernel_rfl) ?_
                go_wp2_with fail
                go_meet
                exact ⟨mb, Av, cv, rfl, hM.setRow _, hMge, hR.keeps ((Keeps.refl (One mb) _).setRow _ _ (fun _ => rfl)) (fun b e f => hvm b e f), hvm, hS5⟩
              · intro KK hKK
                obtain ⟨mb, hmb⟩ : ∃ x, x = wA.heap.size := ⟨_, rfl⟩
                obtain ⟨WM, hWM⟩ : ∃ x, x = wA.alloc (.cells (msgL 0 false 0 false 0 0 0 0 0 0 0 0 0 (.slice Option.none 0 0)).toArray 66) := ⟨_, rfl⟩
                have kM : Keeps None wA WM := by rw [hWM]; exact (Keeps.refl _ _).alloc _
                have hM : Blk WM mb 66 (msgL 0 false 0 false 0 0 0 0 0 0 0 0 0 (.slice Option.none 0 0)) := by rw [hWM, hmb]; exact Blk.new _ _ _
                have hMge : W.heap.size ≤ mb := by have := h2.size; omega
                have hMlt := hM.lt
                have hvm : ∀ b, (Value.slice Av zs.length cv).ownBlock = some b → b ≠ mb := fun b e => by have := (hR.lt b e).2; omega
                have hR := hR.grew kM
                refine value_ (wanted_none rfl) rfl (w1 := WM) (v := .pointer (some ⟨mb, 0, Option.none⟩)) (by rw [hWM, hmb]; exact exec_alloc_msg rfl) (hKK.out _ _ (h2.trans kM) (fun hS6 => ?_))
                try simp only [Act.put, List.setIfInBounds_toArray, List.set_cons_zero, List.set_cons_succ]
                refine one_ (i := 5) (oi := ({ dst := some 42, op := Op.call { callee := Callee.value (Operand.func 19), args := #[Operand.tmp 37, Operand.const (Value.int IntKind.i64 7), Operand.tmp 38, Operand.tmp 41], argTypes := #[3, 3, 23, 24] }, type := 66, pos := "told.go:53", after := #[{ on := 0, ground := Ground.data }, { on := 1, ground := Ground.data }, { on := 4, ground := Ground.data }, { on := 4, ground := Ground.chain }], guard := Option.none } : Oper)) (N := some 42) #[true, true, true, true, true, true, true, false] rfl rfl (by kernel_rfl) (by decide) ?_
                intro KK hKK
                refine goes_ Try.func19 (by kernel_rfl) rfl #[.int .i64 ((k : Int) + 1), .int .i64 7, .agg #[.int .i64 5, .int .i64 2], .slice Av zs.length cv] (wanted_none rfl) rfl rfl (by simp [Act.eval]) ?_
                refine (value_any ((k : Int) + 1) 7 5 2 Av zs.length cv _).mono ?_
                rintro e wV ⟨rfl, hkV⟩
                have hR := hR.grew hkV
                have hM := hM.grew hkV
                refine ⟨_, rfl, hKK.out _ _ (hS6.trans hkV) (fun hS7 => ?_)⟩
                try simp only [Act.put, List.setIfInBounds_toArray, List.set_cons_zero, List.set_cons_succ]
                refine one_ (i := 7) (oi := ({ dst := Option.none, op := Op.store 66 (Operand.tmp 10) (Operand.tmp 42), type := 0, pos := "told.go:53", after := #[{ on := 6, ground := Ground.data }, { on := 5, ground := Ground.data }, { on := 5, ground := Ground.chain }, { on := 0, ground := Ground.phase }, { on := 1, ground := Ground.phase }, { on := 2, ground := Ground.phase }, { on := 3, ground := Ground.phase }, { on := 4, ground := Ground.phase }, { on := 5, ground := Ground.phase }, { on := 6, ground := Ground.phase }], guard := Option.none } : Oper)) (N := Option.none) #[true, true, true, true, true, true, true, true] rfl rfl (by kernel_rfl) (by decide) ?_
                intro KK hKK
                refine skip_ (wanted_none rfl) rfl (w1 := wV.setRow mb (msgL 11 false ((k : Int) + 1) true 3 1 7 1 3 1 0 5 2 (.slice Av zs.length cv)).toArray) (exec_store_msg (.tmp 10) (.tmp 42) rfl mb rfl (msgL 11 false ((k : Int) + 1) true 3 1 7 1 3 1 0 5 2 (.slice Av zs.length cv)) (msgL 0 false 0 false 0 0 0 0 0 0 0 0 0 (.slice Option.none 0 0)) rfl hM rfl rfl (by simp [msgL, Value.oneCell'])) (hKK.out _ _ (hS7.andThen ((Keeps.refl (One mb) _).setRow _ _ (fun _ => rfl)) (fun i hi e => by simp only [One] at e; omega)) (fun hS8 => ?_))
                try simp only [Act.put, List.setIfInBounds_toArray, List.set_cons_zero, List.set_cons_succ]
                refine done_ (by kernel_rfl) ?_
                go_wp2_with fail
                go_meet
                exact ⟨mb, Av, cv, rfl, hM.setRow _, hMge, hR.keeps ((Keeps.refl (One mb) _).setRow _ _ (fun _ => rfl)) (fun b e f => hvm b e f), hvm, hS8⟩
            · intro KK hKK
              obtain ⟨mb, hmb⟩ : ∃ x, x = WE.heap.size := ⟨_, rfl⟩
              obtain ⟨WM, hWM⟩ : ∃ x, x = WE.alloc (.cells (msgL 0 false 0 false 0 0 0 0 0 0 0 0 0 (.slice Option.none 0 0)).toArray 66) := ⟨_, rfl⟩
              have kM : Keeps None WE WM := by rw [hWM]; exact (Keeps.refl _ _).alloc _
              have hM : Blk WM mb 66 (msgL 0 false 0 false 0 0 0 0 0 0 0 0 0 (.slice Option.none 0 0)) := by rw [hWM, hmb]; exact Blk.new _ _ _
              have hMge : W.heap.size ≤ mb := by have := h5.size; omega
              have hMlt := hM.lt
              have hE := hE.grew kM
              have hME : EB ≠ mb := by omega
              refine value_ (wanted_none rfl) rfl (w1 := WM) (v := .pointer (some ⟨mb, 0, Option.none⟩)) (by rw [hWM, hmb]; exact exec_alloc_msg rfl) (hKK.out _ _ (h5.trans kM) (fun hS9 => ?_))
              try simp only [Act.put, List.setIfInBounds_toArray, List.set_cons_zero, List.set_cons_succ]
              refine one_ (i := 4) (oi := ({ dst := some 41, op := Op.call { callee := Callee.builtin Builtin.append, args := #[Operand.tmp 39, Operand.tmp 40], argTypes := #[24, 24] }, type := 24, pos := "told.go:53", after := #[{ on := 2, ground := Ground.data }, { on := 3, ground := Ground.data }], guard := Option.none } : Oper)) (N := some 41) #[true, true, true, true, true, false, true, false] rfl rfl (by kernel_rfl) (by decide) ?_
              intro KK hKK
              refine step_append_row _ (wanted_none rfl) rfl (.tmp 39) (.tmp 40) 24 rfl W.heap.size 5 i0 (.int .u8 0) 1 1 Try.underlying24 hi hz0 hz1 hz2 rfl (by decide) (.slice (some ⟨EB, 0, Option.none⟩) 0 0) 0 [] rfl hE.raw A zs.length cap (zs.map (Value.int .u8)) rfl (by simp) hcap (hAW.grew hS9).src (ints_oneCell _ zs) (by unfold maxLen; omega) (by omega) (by have := hS9.size; omega) ?_
              intro v' wA hown hkA hloc
              have hR : Row .u8 5 wA W.heap.size v' ([] ++ zs) := Row.of_append rfl rfl hown
              have hEs := (hE.lt EB rfl).1
              have hEs2 := (hE.lt EB rfl).2
              have hvm : ∀ b, v'.ownBlock = some b → b ≠ mb := fun b e => hloc.elim (fun h => by rw [h] at e; cases e; exact hME) (fun h => by rw [h] at e; have := hM.lt; have := Option.some.inj e; omega)
              have hM := hM.keeps hkA (fun e => hME (OwnB.is e).symm)
              obtain ⟨Av, cv, ev⟩ := hR.slice
              obtain rfl : v' = .slice Av zs.length cv := ev.trans (by simp)
              simp only [List.nil_append] at hR
              refine hKK.out _ _ (hS9.andThen hkA (fun i hi e => by have := OwnB.is e; omega)) (fun h50 => ?_)
              try simp only [Act.put, List.setIfInBounds_toArray, List.set_cons_zero, List.set_cons_succ]
              refine one_ (i := 5) (oi := ({ dst := some 42, op := Op.call { callee := Callee.value (Operand.func 19), args := #[Operand.tmp 37, Operand.const (Value.int IntKind.i64 7), Operand.tmp 38, Operand.tmp 41], argTypes := #[3, 3, 23, 24] }, type := 66, pos := "told.go:53", after := #[{ on := 0, ground := Ground.data }, { on := 1, ground := Ground.data }, { on := 4, ground := Ground.data }, { on := 4, ground := Ground.chain }], guard := Option.none } : Oper)) (N := some 42) #[true, true, true, true, true, true, true, false] rfl rfl (by kernel_rfl) (by decide) ?_
              intro KK hKK
              refine goes_ Try.func19 (by kernel_rfl) rfl #[.int .i64 ((k : Int) + 1), .int .i64 7, .agg #[.int .i64 5, .int .i64 2], .slice Av zs.length cv] (wanted_none rfl) rfl rfl (by simp [Act.eval]) ?_
              refine (value_any ((k : Int) + 1) 7 5 2 Av zs.length cv _).mono ?_
              rintro e wV ⟨rfl, hkV⟩
              have hR := hR.grew hkV
              have hM := hM.grew hkV
              refine ⟨_, rfl, hKK.out _ _ (h50.trans hkV) (fun h51 => ?_)⟩
              try simp only [Act.put, List.setIfInBounds_toArray, List.set_cons_zero, List.set_cons_succ]
              refine one_ (i := 7) (oi := ({ dst := Option.none, op := Op.store 66 (Operand.tmp 10) (Operand.tmp 42), type := 0, pos := "told.go:53", after := #[{ on := 6, ground := Ground.data }, { on := 5, ground := Ground.data }, { on := 5, ground := Ground.chain }, { on := 0, ground := Ground.phase }, { on := 1, ground := Ground.phase }, { on := 2, ground := Ground.phase }, { on := 3, ground := Ground.phase }, { on := 4, ground := Ground.phase }, { on := 5, ground := Ground.phase }, { on := 6, ground := Ground.phase }], guard := Option.none } : Oper)) (N := Option.none) #[true, true, true, true, true, true, true, true] rfl rfl (by kernel_rfl) (by decide) ?_
              intro KK hKK
              refine skip_ (wanted_none rfl) rfl (w1 := wV.setRow mb (msgL 11 false ((k : Int) + 1) true 3 1 7 1 3 1 0 5 2 (.slice Av zs.length cv)).toArray) (exec_store_msg (.tmp 10) (.tmp 42) rfl mb rfl (msgL 11 false ((k : Int) + 1) true 3 1 7 1 3 1 0 5 2 (.slice Av zs.length cv)) (msgL 0 false 0 false 0 0 0 0 0 0 0 0 0 (.slice Option.none 0 0)) rfl hM rfl rfl (by simp [msgL, Value.oneCell'])) (hKK.out _ _ (h51.andThen ((Keeps.refl (One mb) _).setRow _ _ (fun _ => rfl)) (fun i hi e => by simp only [One] at e; omega)) (fun h52 => ?_))
              try simp only [Act.put, List.setIfInBounds_toArray, List.set_cons_zero, List.set_cons_succ]
              refine done_ (by kernel_rfl) ?_
              go_wp2_with fail
              go_meet
              exact ⟨mb, Av, cv, rfl, hM.setRow _, hMge, hR.keeps ((Keeps.refl (One mb) _).setRow _ _ (fun _ => rfl)) (fun b e f => hvm b e f), hvm, h52⟩
          · intro KK hKK
            obtain ⟨mb, hmb⟩ : ∃ x, x = W.drew.heap.size := ⟨_, rfl⟩
            obtain ⟨WM, hWM⟩ : ∃ x, x = W.drew.alloc (.cells (msgL 0 false 0 false 0 0 0 0 0 0 0 0 0 (.slice Option.none 0 0)).toArray 66) := ⟨_, rfl⟩
            have kM : Keeps None W.drew WM := by rw [hWM]; exact (Keeps.refl _ _).alloc _
            have hM : Blk WM mb 66 (msgL 0 false 0 false 0 0 0 0 0 0 0 0 0 (.slice Option.none 0 0)) := by rw [hWM, hmb]; exact Blk.new _ _ _
            have hMge : W.heap.size ≤ mb := by have := hS0.size; omega
            have hMlt := hM.lt
            refine value_ (wanted_none rfl) rfl (w1 := WM) (v := .pointer (some ⟨mb, 0, Option.none⟩)) (by rw [hWM, hmb]; exact exec_alloc_msg rfl) (hKK.out _ _ (hS0.trans kM) (fun h53 => ?_))
            try simp only [Act.put, List.setIfInBounds_toArray, List.set_cons_zero, List.set_cons_succ]
            refine one_ (i := 2) (oi := ({ dst := some 39, op := Op.buildSlice 24 0 #[], type := 24, pos := "told.go:53", after := #[], guard := Option.none } : Oper)) (N := some 39) #[true, true, true, true, false, false, true, false] rfl rfl (by kernel_rfl) (by decide) ?_
            intro KK hKK
            obtain ⟨EB, hEB⟩ : ∃ x, x = WM.heap.size := ⟨_, rfl⟩
            obtain ⟨WE, hWE⟩ : ∃ x, x = WM.alloc (.cells #[] 5) := ⟨_, rfl⟩
            have kE : Keeps None WM WE := by rw [hWE]; exact (Keeps.refl _ _).alloc _
            have hE0 := Blk.new WM 5 []
            rw [← hEB] at hE0
            have hE : Row .u8 5 WE W.heap.size (.slice (some ⟨EB, 0, Option.none⟩) 0 0) [] := by rw [hWE]; exact Row.of_blk (zs := []) hE0 (by have := h53.size; omega) (by unfold maxLen; simp)
            have hElt : EB < WE.heap.size := (hE.lt EB rfl).2
            have hM := hM.grew kE
            have hME : EB ≠ mb := by have := hMlt; omega
            refine value_ (wanted_none rfl) rfl (w1 := WE) (v := .slice (some ⟨EB, 0, Option.none⟩) 0 0) (by rw [hWE, hEB]; go_simp) (hKK.out _ _ (h53.trans kE) (fun h54 => ?_))
            try simp only [Act.put, List.setIfInBounds_toArray, List.set_cons_zero, List.set_cons_succ]
            refine one_ (i := 4) (oi := ({ dst := some 41, op := Op.call { callee := Callee.builtin Builtin.append, args := #[Operand.tmp 39, Operand.tmp 40], argTypes := #[24, 24] }, type := 24, pos := "told.go:53", after := #[{ on := 2, ground := Ground.data }, { on := 3, ground := Ground.data }], guard := Option.none } : Oper)) (N := some 41) #[true, true, true, true, true, false, true, false] rfl rfl (by kernel_rfl) (by decide) ?_
            intro KK hKK
            refine step_append_row _ (wanted_none rfl) rfl (.tmp 39) (.tmp 40) 24 rfl W.heap.size 5 i0 (.int .u8 0) 1 1 Try.underlying24 hi hz0 hz1 hz2 rfl (by decide) (.slice (some ⟨EB, 0, Option.none⟩) 0 0) 0 [] rfl hE.raw A zs.length cap (zs.map (Value.int .u8)) rfl (by simp) hcap (hAW.grew h54).src (ints_oneCell _ zs) (by unfold maxLen; omega) (by omega) (by have := h54.size; omega) ?_
            intro v' wA hown hkA hloc
            have hR : Row .u8 5 wA W.heap.size v' ([] ++ zs) := Row.of_append rfl rfl hown
            have hEs := (hE.lt EB rfl).1
            have hEs2 := (hE.lt EB rfl).2
            have hvm : ∀ b, v'.ownBlock = some b → b ≠ mb := fun b e => hloc.elim (fun h => by rw [h] at e; cases e; exact hME) (fun h => by rw [h] at e; have := hM.lt; have := Option.some.inj e; omega)
            have hM := hM.keeps hkA (fun e => hME (OwnB.is e).symm)
            obtain ⟨Av, cv, ev⟩ := hR.slice
            obtain rfl : v' = .slice Av zs.length cv := ev.trans (by simp)
            simp only [List.nil_append] at hR
            refine hKK.out _ _ (h54.andThen hkA (fun i hi e => by have := OwnB.is e; omega)) (fun h55 => ?_)
            try simp only [Act.put, List.setIfInBounds_toArray, List.set_cons_zero, List.set_cons_succ]
            refine one_ (i := 5) (oi := ({ dst := some 42, op := Op.call { callee := Callee.value (Operand.func 19), args := #[Operand.tmp 37, Operand.const (Value.int IntKind.i64 7), Operand.tmp 38, Operand.tmp 41], argTypes := #[3, 3, 23, 24] }, type := 66, pos := "told.go:53", after := #[{ on := 0, ground := Ground.data }, { on := 1, ground := Ground.data }, { on := 4, ground := Ground.data }, { on := 4, ground := Ground.chain }], guard := Option.none } : Oper)) (N := some 42) #[true, true, true, true, true, true, true, false] rfl rfl (by kernel_rfl) (by decide) ?_
            intro KK hKK
            refine goes_ Try.func19 (by kernel_rfl) rfl #[.int .i64 ((k : Int) + 1), .int .i64 7, .agg #[.int .i64 5, .int .i64 2], .slice Av zs.length cv] (wanted_none rfl) rfl rfl (by simp [Act.eval]) ?_
            refine (value_any ((k : Int) + 1) 7 5 2 Av zs.length cv _).mono ?_
            rintro e wV ⟨rfl, hkV⟩
            have hR := hR.grew hkV
            have hM := hM.grew hkV
            refine ⟨_, rfl, hKK.out _ _ (h55.trans hkV) (fun h56 => ?_)⟩
            try simp only [Act.put, List.setIfInBounds_toArray, List.set_cons_zero, List.set_cons_succ]
            refine one_ (i := 7) (oi := ({ dst := Option.none, op := Op.store 66 (Operand.tmp 10) (Operand.tmp 42), type := 0, pos := "told.go:53", after := #[{ on := 6, ground := Ground.data }, { on := 5, ground := Ground.data }, { on := 5, ground := Ground.chain }, { on := 0, ground := Ground.phase }, { on := 1, ground := Ground.phase }, { on := 2, ground := Ground.phase }, { on := 3, ground := Ground.phase }, { on := 4, ground := Ground.phase }, { on := 5, ground := Ground.phase }, { on := 6, ground := Ground.phase }], guard := Option.none } : Oper)) (N := Option.none) #[true, true, true, true, true, true, true, true] rfl rfl (by kernel_rfl) (by decide) ?_
            intro KK hKK
            refine skip_ (wanted_none rfl) rfl (w1 := wV.setRow mb (msgL 11 false ((k : Int) + 1) true 3 1 7 1 3 1 0 5 2 (.slice Av zs.length cv)).toArray) (exec_store_msg (.tmp 10) (.tmp 42) rfl mb rfl (msgL 11 false ((k : Int) + 1) true 3 1 7 1 3 1 0 5 2 (.slice Av zs.length cv)) (msgL 0 false 0 false 0 0 0 0 0 0 0 0 0 (.slice Option.none 0 0)) rfl hM rfl rfl (by simp [msgL, Value.oneCell'])) (hKK.out _ _ (h56.andThen ((Keeps.refl (One mb) _).setRow _ _ (fun _ => rfl)) (fun i hi e => by simp only [One] at e; omega)) (fun h57 => ?_))
            try simp only [Act.put, List.setIfInBounds_toArray, List.set_cons_zero, List.set_cons_succ]
            refine done_ (by kernel_rfl) ?_
            go_wp2_with fail
            go_meet
            exact ⟨mb, Av, cv, rfl, hM.setRow _, hMge, hR.keeps ((Keeps.refl (One mb) _).setRow _ _ (fun _ => rfl)) (fun b e f => hvm b e f), hvm, h57⟩
        case rest =>
          obtain ⟨mb, Av, cv, rfl, hM, hMge, hR, hvm, hkx⟩ := hcut
          have hIx : RdInv w wc g X rd ph := ⟨hIW.mach.grew hkx, hIW.key.grew hkx, hIW.keep.trans hkx⟩
          have hPQ : takeF hRd rd ph 11 ((k : Int) + 1) (5, 2) zs (fitsF hRd rd false true 3 1 7 1 3 1 0) = pkF 1 zs (k + 1) := by
            have := hPP.out
            rwa [show stF 1 ((k : Int) + 1) = (5, 2) from by unfold stF; rw [if_neg (by omega), if_neg (fun h => by omega)]] at this
          have hXW := Lib.hid (fun b e => (hIW.mach.X b e).2)
          have hwW := hIW.keep.size
          have hwl := hIW.key.lt
          have hgW := hIW.mach.lt
          have hq4 : (Try.prog.info? 66).map (·.size) = some (msgL 11 false ((k : Int) + 1) true 3 1 7 1 3 1 0 5 2 (.slice Av zs.length cv)).toArray.size := sizeMsg rfl
          clear hIW s0 s1 hPP
          go_upto_region 15 with (fail)
          go_upto_region 16 with (first | (with_reducible refine wpList_load_row rfl _ (.tmp 10) rfl mb rfl _ _ _ _ hM.raw Try.underlying66 rfl hq4 ?_))
          refine (take_any g (w.heap.size + 1) X hRd rd ph 11 false ((k : Int) + 1) true 3 1 7 1 3 1 0 5 2 0 0 Av cv zs 0 0 0 ⟨#[]⟩ 0 0 0 0 0 0 Option.none 0 0 Option.none 0 0 Option.none 0 0 false wc hIx.mach (Nums.row hR).1 hr hwf).mono ?_
          rw [hPQ]
          rintro e w4 ⟨X4, B4, u4, rfl, hM4, hO4, hX4, hXn4, hXB4, hB4, hk4'⟩
          obtain ⟨A4, c4, rfl⟩ := hO4.slice
          have hvX : ∀ b, (Value.slice Av zs.length cv).ownBlock = some b → W.heap.size ≤ b ∧ b < wc.heap.size := hR.lt
          have hkg := hkx.size
          have hAway : ∀ b, W.heap.size ≤ b → ¬ (X b ∨ b = g) := fun b h1 h2 => by
            rcases h2 with h2 | h2
            · have := hXW.out b h2; omega
            · omega
          have hR4 := hR.keeps hk4' (fun b e => hAway b (hvX b e).1)
          have hM4m := hM.keeps hk4' (hAway mb hMge)
          have hvX4 : ∀ b, X4 b → (Value.slice Av zs.length cv).ownBlock ≠ some b := fun b h1 h2 => by
            have := hvX b h2
            rcases hXn4 b h1 with h | h
            · have := hXW.out b h; omega
            · omega
          have hkey4 : Blk w4 w.heap.size 51 [.int .i64 1, .int .i64 3, .int .i64 1, .int .i64 0] := hIx.key.keeps hk4' (fun e => by
            rcases e with e | e
            · have := (hIx.mach.X _ e).1; omega
            · have := hIx.mach.g.2; omega)
          have hkw4 : Keeps None w w4 := hIx.keep.andThen hk4' (fun i hi e => by
            rcases e with e | e
            · have := (hIx.mach.X _ e).1; omega
            · have := hIx.mach.g.2; omega)
          obtain ⟨ln', eln⟩ : ∃ n, n = lnO (pkF 1 zs (k + 1)).2.2 := ⟨_, rfl⟩
          rw [← eln]
          have HEL := Lib.hid eln
          have HM4 := Lib.hid hM4
          clear eln hM4 hO4 hX4 hXn4 hXB4 hB4 hk4' hIx hXW hAway hM hR hq4 hPQ
          go_wp2_with fail
          go_loopw [11] (fun i wr => ∃ (j : Nat) (ys : List Int), j ≤ zs.length ∧ i = .int .i64 (j : Int) ∧ ys.length = zs.length ∧ Row .u8 5 wr W.heap.size (.slice Av zs.length cv) ys ∧ Blk wr mb 66 (msgL 11 false ((k : Int) + 1) true 3 1 7 1 3 1 0 5 2 (.slice Av zs.length cv)) ∧ Keeps (OwnB (.slice Av zs.length cv)) w4 wr) (fun i _ => zs.length - (intOf i).toNat)
          case atStart => exact ⟨0, zs, Nat.zero_le _, rfl, rfl, hR4, hM4m, Keeps.refl _ _⟩
          case round =>
            clear hR4 hM4m
            obtain ⟨j, ys, hj, rfl, hyl, hRj, hMj, hkj⟩ := hrel
            have m15 := hMj.cell 15 _ rfl
            by_cases hjl : j < zs.length
            · obtain ⟨q, c', e2, -⟩ := hRj.pos (by omega)
              rw [hyl] at e2
              cases e2
              obtain ⟨x, b', o', e3, hx, -⟩ := (Nums.row hRj).1.get j (by omega)
              cases e3
              rw [Nat.zero_add] at hx
              have hf := hRj.free j
              go_wp2_with fail
              go_still_tail 10, (by kernel_rfl)
              change wpList _ _ _ _ _ wr.drew
              obtain ⟨wq, hwq⟩ : ∃ wq, wq = wr.drew := ⟨_, rfl⟩
              have kd : Keeps None wr wq := by rw [hwq]; exact (Keeps.refl _ _).drew
              rw [← hwq]
              have hRq := hRj.grew kd
              have hMq := hMj.grew kd
              have hkq := hkj.trans kd.of_none
              clear hwq hRj hMj hkj hx hf m15 kd
              have hf := hRq.free j
              obtain ⟨z, hz⟩ := hRq.has j (by omega)
              go_wp2
              go_roundw
              case rel => exact ⟨j + 1, _, by omega, by go_num, by rw [List.length_set]; exact hyl, hRq.store hyl j _, hMq.keeps ((Keeps.refl (One q) _).setCell _ _ (fun _ => rfl)) (fun e => hvm q rfl e.symm), hkq.setCell _ _ (fun _ => rfl)⟩
              case measure => simp [intOf]; omega
            · obtain rfl : j = zs.length := by omega
              go_wp2_with fail
              go_roundw
              case rel =>
                refine ⟨k + 1, X4, A4, c4, by omega, by go_num, by rw [HEL.out], (HM4.out.keeps hkj (fun b h1 h2 => hvX4 b h1 h2) ?_), ?_, ?_⟩
                · intro e; have := hvX g e; omega
                · exact hkey4.keeps hkj (fun e => by have := hvX _ e; omega)
                · exact hkw4.andThen hkj (fun i hi e => by have := hvX _ e; omega)
              case measure => simp [intOf]; omega
      · go_upto_region 14 with (fail)
        obtain ⟨W, hW⟩ : ∃ W, W = wr.alloc (.cells #[.int .i64 0, .int .i64 0] 23) := ⟨_, rfl⟩
        rw [← hW]
        have kW : Keeps None wr W := by rw [hW]; exact (Keeps.refl _ _).alloc _
        have hS := Blk.new wr 23 [.int .i64 0, .int .i64 0]
        rw [← hW] at hS
        have s0 := hS.cell 0 _ rfl
        have s1 := hS.cell 1 _ rfl
        have hAW := hA.grew (hI.keep.trans kW)
        have hIW : RdInv w W g X rd ph := ⟨hI.mach.grew kW, hI.key.grew kW, hI.keep.trans kW⟩
        clear hW hS kW hI
        go_cut [10] (fun x wx => ∃ mb Av cv, x = .pointer (some ⟨mb, 0, Option.none⟩) ∧ Blk wx mb 66 (msgL 11 false ((k : Int) + 1) true 3 1 7 1 3 1 0 0 0 (.slice Av zs.length cv)) ∧ W.heap.size ≤ mb ∧ Row .u8 5 wx W.heap.size (.slice Av zs.length cv) zs ∧ (∀ b, (Value.slice Av zs.length cv).ownBlock = some b → b ≠ mb) ∧ Keeps None W wx)
        case first =>
          refine start_ (ds := []) (S := (fun w' => Keeps None W w')) #[false, false, false, false, false, false, false, false] (by kernel_rfl) rfl rfl ((Keeps.refl _ _).drew) (fun hS0 => ?_)
          refine pure_ (i := 0) (N := some 37) (v := .int .i64 ((k : Int) + 1)) #[true, false, false, false, false, false, false, false] rfl rfl (by kernel_rfl) (fun _ _ _ h => h) (Or.inl ⟨wanted_none rfl, fun w => by rfl⟩) rfl ?_
          try simp only [Act.put, List.setIfInBounds_toArray, List.set_cons_zero, List.set_cons_succ]
          refine take_ (i := 1) (N := some 38) (v := .agg #[.int .i64 0, .int .i64 0]) #[true, true, false, false, false, false, false, false] rfl rfl (by kernel_rfl) (fun _ _ _ h => h) (Or.inl ⟨wanted_none rfl, by intro w' hSw; have q0 := hSw.cell s0 id; have q1 := hSw.cell s1 id; go_simp⟩) hS0 rfl ?_
          try simp only [Act.put, List.setIfInBounds_toArray, List.set_cons_zero, List.set_cons_succ]
          refine pure_ (i := 3) (N := some 40) (v := .slice A zs.length cap) #[true, true, false, true, false, false, false, false] rfl rfl (by kernel_rfl) (fun _ _ _ h => h) (Or.inl ⟨wanted_none rfl, fun w => by rfl⟩) rfl ?_
          try simp only [Act.put, List.setIfInBounds_toArray, List.set_cons_zero, List.set_cons_succ]
          refine two_ (i := 2) (j := 6) (oi := ({ dst := some 39, op := Op.buildSlice 24 0 #[], type := 24, pos := "told.go:53", after := #[], guard := Option.none } : Oper)) (oj := ({ dst := some 10, op := Op.alloc 66, type := 0, pos := "told.go:53", after := #[], guard := Option.none } : Oper)) (Ni := some 39) (Nj := some 10) #[true, true, true, true, false, false, false, false] #[true, true, false, true, false, false, true, false] rfl rfl rfl rfl (by kernel_rfl) (by decide) (by decide) ?_ ?_
          · intro KK hKK
            obtain ⟨EB, hEB⟩ : ∃ x, x = W.drew.heap.size := ⟨_, rfl⟩
            obtain ⟨WE, hWE⟩ : ∃ x, x = W.drew.alloc (.cells #[] 5) := ⟨_, rfl⟩
            have kE : Keeps None W.drew WE := by rw [hWE]; exact (Keeps.refl _ _).alloc _
            have hE0 := Blk.new W.drew 5 []
            rw [← hEB] at hE0
            have hE : Row .u8 5 WE W.heap.size (.slice (some ⟨EB, 0, Option.none⟩) 0 0) [] := by rw [hWE]; exact Row.of_blk (zs := []) hE0 (by have := hS0.size; omega) (by unfold maxLen; simp)
            have hElt : EB < WE.heap.size := (hE.lt EB rfl).2
            refine value_ (wanted_none rfl) rfl (w1 := WE) (v := .slice (some ⟨EB, 0, Option.none⟩) 0 0) (by rw [hWE, hEB]; go_simp) (hKK.out _ _ (hS0.trans kE) (fun h5 => ?_))
            try simp only [Act.put, List.setIfInBounds_toArray, List.set_cons_zero, List.set_cons_succ]
            refine two_ (i := 4) (j := 6) (oi := ({ dst := some 41, op := Op.call { callee := Callee.builtin Builtin.append, args := #[Operand.tmp 39, Operand.tmp 40], argTypes := #[24, 24] }, type := 24, pos := "told.go:53", after := #[{ on := 2, ground := Ground.data }, { on := 3, ground := Ground.data }], guard := Option.none } : Oper)) (oj := ({ dst := some 10, op := Op.alloc 66, type := 0, pos := "told.go:53", after := #[], guard := Option.none } : Oper)) (Ni := some 41) (Nj := some 10) #[true, true, true, true, true, false, false, false] #[true, true, true, true, false, false, true, false] rfl rfl rfl rfl (by kernel_rfl) (by decide) (by decide) ?_ ?_
            · intro KK hKK
              refine step_append_row _ (wanted_none rfl) rfl (.tmp 39) (.tmp 40) 24 rfl W.heap.size 5 i0 (.int .u8 0) 1 1 Try.underlying24 hi hz0 hz1 hz2 rfl (by decide) (.slice (some ⟨EB, 0, Option.none⟩) 0 0) 0 [] rfl hE.raw A zs.length cap (zs.map (Value.int .u8)) rfl (by simp) hcap (hAW.grew h5).src (ints_oneCell _ zs) (by unfold maxLen; omega) (by omega) (by have := h5.size; omega) ?_
              intro v' wA hown hkA hloc
              have hR : Row .u8 5 wA W.heap.size v' ([] ++ zs) := Row.of_append rfl rfl hown
              have hEs := (hE.lt EB rfl).1
              have hEs2 := (hE.lt EB rfl).2
              obtain ⟨Av, cv, ev⟩ := hR.slice
              obtain rfl : v' = .slice Av zs.length cv := ev.trans (by simp)
              simp only [List.nil_append] at hR
              refine hKK.out _ _ (h5.andThen hkA (fun i hi e => by have := OwnB.is e; omega)) (fun h2 => ?_)
              try simp only [Act.put, List.setIfInBounds_toArray, List.set_cons_zero, List.set_cons_succ]
              refine two_ (i := 5) (j := 6) (oi := ({ dst := some 42, op := Op.call { callee := Callee.value (Operand.func 19), args := #[Operand.tmp 37, Operand.const (Value.int IntKind.i64 7), Operand.tmp 38, Operand.tmp 41], argTypes := #[3, 3, 23, 24] }, type := 66, pos := "told.go:53", after := #[{ on := 0, ground := Ground.data }, { on := 1, ground := Ground.data }, { on := 4, ground := Ground.data }, { on := 4, ground := Ground.chain }], guard := Option.none } : Oper)) (oj := ({ dst := some 10, op := Op.alloc 66, type := 0, pos := "told.go:53", after := #[], guard := Option.none } : Oper)) (Ni := some 42) (Nj := some 10) #[true, true, true, true, true, true, false, false] #[true, true, true, true, true, false, true, false] rfl rfl rfl rfl (by kernel_rfl) (by decide) (by decide) ?_ ?_
              · intro KK hKK
                refine goes_ Try.func19 (by kernel_rfl) rfl #[.int .i64 ((k : Int) + 1), .int .i64 7, .agg #[.int .i64 0, .int .i64 0], .slice Av zs.length cv] (wanted_none rfl) rfl rfl (by simp [Act.eval]) ?_
                refine (value_any ((k : Int) + 1) 7 0 0 Av zs.length cv _).mono ?_
                rintro e wV ⟨rfl, hkV⟩
                have hR := hR.grew hkV
                refine ⟨_, rfl, hKK.out _ _ (h2.trans hkV) (fun hS3 => ?_)⟩
                try simp only [Act.put, List.setIfInBounds_toArray, List.set_cons_zero, List.set_cons_succ]
                refine one_ (i := 6) (oi := ({ dst := some 10, op := Op.alloc 66, type := 0, pos := "told.go:53", after := #[], guard := Option.none } : Oper)) (N := some 10) #[true, true, true, true, true, true, true, false] rfl rfl (by kernel_rfl) (by decide) ?_
                intro KK hKK
                obtain ⟨mb, hmb⟩ : ∃ x, x = wV.heap.size := ⟨_, rfl⟩
                obtain ⟨WM, hWM⟩ : ∃ x, x = wV.alloc (.cells (msgL 0 false 0 false 0 0 0 0 0 0 0 0 0 (.slice Option.none 0 0)).toArray 66) := ⟨_, rfl⟩
                have kM : Keeps None wV WM := by rw [hWM]; exact (Keeps.refl _ _).alloc _
                have hM : Blk WM mb 66 (msgL 0 false 0 false 0 0 0 0 0 0 0 0 0 (.slice Option.none 0 0)) := by rw [hWM, hmb]; exact Blk.new _ _ _
                have hMge : W.heap.size ≤ mb := by have := hS3.size; omega
                have hMlt := hM.lt
                have hvm : ∀ b, (Value.slice Av zs.length cv).ownBlock = some b → b ≠ mb := fun b e => by have := (hR.lt b e).2; omega
                have hR := hR.grew kM
                refine value_ (wanted_none rfl) rfl (w1 := WM) (v := .pointer (some ⟨mb, 0, Option.none⟩)) (by rw [hWM, hmb]; exact exec_alloc_msg rfl) (hKK.out _ _ (hS3.trans kM) (fun hS4 => ?_))
                try simp only [Act.put, List.setIfInBounds_toArray, List.set_cons_zero, List.set_cons_succ]
                refine one_ (i := 7) (oi := ({ dst := Option.none, op := Op.store 66 (Operand.tmp 10) (Operand.tmp 42), type := 0, pos := "told.go:53", after := #[{ on := 6, ground := Ground.data }, { on := 5, ground := Ground.data }, { on := 5, ground := Ground.chain }, { on := 0, ground := Ground.phase }, { on := 1, ground := Ground.phase }, { on := 2, ground := Ground.phase }, { on := 3, ground := Ground.phase }, { on := 4, ground := Ground.phase }, { on := 5, ground := Ground.phase }, { on := 6, ground := Ground.phase }], guard := Option.none } : Oper)) (N := Option.none) #[true, true, true, true, true, true, true, true] rfl rfl (by kernel_rfl) (by decide) ?_
                intro KK hKK
                refine skip_ (wanted_none rfl) rfl (w1 := WM.setRow mb (msgL 11 false ((k : Int) + 1) true 3 1 7 1 3 1 0 0 0 (.slice Av zs.length cv)).toArray) (exec_store_msg (.tmp 10) (.tmp 42) rfl mb rfl (msgL 11 false ((k : Int) + 1) true 3 1 7 1 3 1 0 0 0 (.slice Av zs.length cv)) (msgL 0 false 0 false 0 0 0 0 0 0 0 0 0 (.slice Option.none 0 0)) rfl hM rfl rfl (by simp [msgL, Value.oneCell'])) (hKK.out _ _ (hS4.andThen ((Keeps.refl (One mb) _).setRow _ _ (fun _ => rfl)) (fun i hi e => by simp only [One] at e; omega)) (fun hS5 => ?_))
                try simp only [Act.put, List.setIfInBounds_toArray, List.set_cons_zero, List.set_cons_succ]
                refine done_ (by kernel_rfl) ?_
                go_wp2_with fail
                go_meet
                exact ⟨mb, Av, cv, rfl, hM.setRow _, hMge, hR.keeps ((Keeps.refl (One mb) _).setRow _ _ (fun _ => rfl)) (fun b e f => hvm b e f), hvm, hS5⟩
              · intro KK hKK
                obtain ⟨mb, hmb⟩ : ∃ x, x = wA.heap.size := ⟨_, rfl⟩
                obtain ⟨WM, hWM⟩ : ∃ x, x = wA.alloc (.cells (msgL 0 false 0 false 0 0 0 0 0 0 0 0 0 (.slice Option.none 0 0)).toArray 66) := ⟨_, rfl⟩
                have kM : Keeps None wA WM := by rw [hWM]; exact (Keeps.refl _ _).alloc _
                have hM : Blk WM mb 66 (msgL 0 false 0 false 0 0 0 0 0 0 0 0 0 (.slice Option.none 0 0)) := by rw [hWM, hmb]; exact Blk.new _ _ _
                have hMge : W.heap.size ≤ mb := by have := h2.size; omega
                have hMlt := hM.lt
                have hvm : ∀ b, (Value.slice Av zs.length cv).ownBlock = some b → b ≠ mb := fun b e => by have := (hR.lt b e).2; omega
                have hR := hR.grew kM
                refine value_ (wanted_none rfl) rfl (w1 := WM) (v := .pointer (some ⟨mb, 0, Option.none⟩)) (by rw [hWM, hmb]; exact exec_alloc_msg rfl) (hKK.out _ _ (h2.trans kM) (fun hS6 => ?_))
                try simp only [Act.put, List.setIfInBounds_toArray, List.set_cons_zero, List.set_cons_succ]
                refine one_ (i := 5) (oi := ({ dst := some 42, op := Op.call { callee := Callee.value (Operand.func 19), args := #[Operand.tmp 37, Operand.const (Value.int IntKind.i64 7), Operand.tmp 38, Operand.tmp 41], argTypes := #[3, 3, 23, 24] }, type := 66, pos := "told.go:53", after := #[{ on := 0, ground := Ground.data }, { on := 1, ground := Ground.data }, { on := 4, ground := Ground.data }, { on := 4, ground := Ground.chain }], guard := Option.none } : Oper)) (N := some 42) #[true, true, true, true, true, true, true, false] rfl rfl (by kernel_rfl) (by decide) ?_
                intro KK hKK
                refine goes_ Try.func19 (by kernel_rfl) rfl #[.int .i64 ((k : Int) + 1), .int .i64 7, .agg #[.int .i64 0, .int .i64 0], .slice Av zs.length cv] (wanted_none rfl) rfl rfl (by simp [Act.eval]) ?_
                refine (value_any ((k : Int) + 1) 7 0 0 Av zs.length cv _).mono ?_
                rintro e wV ⟨rfl, hkV⟩
                have hR := hR.grew hkV
                have hM := hM.grew hkV
                refine ⟨_, rfl, hKK.out _ _ (hS6.trans hkV) (fun hS7 => ?_)⟩
                try simp only [Act.put, List.setIfInBounds_toArray, List.set_cons_zero, List.set_cons_succ]
                refine one_ (i := 7) (oi := ({ dst := Option.none, op := Op.store 66 (Operand.tmp 10) (Operand.tmp 42), type := 0, pos := "told.go:53", after := #[{ on := 6, ground := Ground.data }, { on := 5, ground := Ground.data }, { on := 5, ground := Ground.chain }, { on := 0, ground := Ground.phase }, { on := 1, ground := Ground.phase }, { on := 2, ground := Ground.phase }, { on := 3, ground := Ground.phase }, { on := 4, ground := Ground.phase }, { on := 5, ground := Ground.phase }, { on := 6, ground := Ground.phase }], guard := Option.none } : Oper)) (N := Option.none) #[true, true, true, true, true, true, true, true] rfl rfl (by kernel_rfl) (by decide) ?_
                intro KK hKK
                refine skip_ (wanted_none rfl) rfl (w1 := wV.setRow mb (msgL 11 false ((k : Int) + 1) true 3 1 7 1 3 1 0 0 0 (.slice Av zs.length cv)).toArray) (exec_store_msg (.tmp 10) (.tmp 42) rfl mb rfl (msgL 11 false ((k : Int) + 1) true 3 1 7 1 3 1 0 0 0 (.slice Av zs.length cv)) (msgL 0 false 0 false 0 0 0 0 0 0 0 0 0 (.slice Option.none 0 0)) rfl hM rfl rfl (by simp [msgL, Value.oneCell'])) (hKK.out _ _ (hS7.andThen ((Keeps.refl (One mb) _).setRow _ _ (fun _ => rfl)) (fun i hi e => by simp only [One] at e; omega)) (fun hS8 => ?_))
                try simp only [Act.put, List.setIfInBounds_toArray, List.set_cons_zero, List.set_cons_succ]
                refine done_ (by kernel_rfl) ?_
                go_wp2_with fail
                go_meet
                exact ⟨mb, Av, cv, rfl, hM.setRow _, hMge, hR.keeps ((Keeps.refl (One mb) _).setRow _ _ (fun _ => rfl)) (fun b e f => hvm b e f), hvm, hS8⟩
            · intro KK hKK
              obtain ⟨mb, hmb⟩ : ∃ x, x = WE.heap.size := ⟨_, rfl⟩
              obtain ⟨WM, hWM⟩ : ∃ x, x = WE.alloc (.cells (msgL 0 false 0 false 0 0 0 0 0 0 0 0 0 (.slice Option.none 0 0)).toArray 66) := ⟨_, rfl⟩
              have kM : Keeps None WE WM := by rw [hWM]; exact (Keeps.refl _ _).alloc _
              have hM : Blk WM mb 66 (msgL 0 false 0 false 0 0 0 0 0 0 0 0 0 (.slice Option.none 0 0)) := by rw [hWM, hmb]; exact Blk.new _ _ _
              have hMge : W.heap.size ≤ mb := by have := h5.size; omega
              have hMlt := hM.lt
              have hE := hE.grew kM
              have hME : EB ≠ mb := by omega
              refine value_ (wanted_none rfl) rfl (w1 := WM) (v := .pointer (some ⟨mb, 0, Option.none⟩)) (by rw [hWM, hmb]; exact exec_alloc_msg rfl) (hKK.out _ _ (h5.trans kM) (fun hS9 => ?_))
              try simp only [Act.put, List.setIfInBounds_toArray, List.set_cons_zero, List.set_cons_succ]
              refine one_ (i := 4) (oi := ({ dst := some 41, op := Op.call { callee := Callee.builtin Builtin.append, args := #[Operand.tmp 39, Operand.tmp 40], argTypes := #[24, 24] }, type := 24, pos := "told.go:53", after := #[{ on := 2, ground := Ground.data }, { on := 3, ground := Ground.data }], guard := Option.none } : Oper)) (N := some 41) #[true, true, true, true, true, false, true, false] rfl rfl (by kernel_rfl) (by decide) ?_
              intro KK hKK
              refine step_append_row _ (wanted_none rfl) rfl (.tmp 39) (.tmp 40) 24 rfl W.heap.size 5 i0 (.int .u8 0) 1 1 Try.underlying24 hi hz0 hz1 hz2 rfl (by decide) (.slice (some ⟨EB, 0, Option.none⟩) 0 0) 0 [] rfl hE.raw A zs.length cap (zs.map (Value.int .u8)) rfl (by simp) hcap (hAW.grew hS9).src (ints_oneCell _ zs) (by unfold maxLen; omega) (by omega) (by have := hS9.size; omega) ?_
              intro v' wA hown hkA hloc
              have hR : Row .u8 5 wA W.heap.size v' ([] ++ zs) := Row.of_append rfl rfl hown
              have hEs := (hE.lt EB rfl).1
              have hEs2 := (hE.lt EB rfl).2
              have hvm : ∀ b, v'.ownBlock = some b → b ≠ mb := fun b e => hloc.elim (fun h => by rw [h] at e; cases e; exact hME) (fun h => by rw [h] at e; have := hM.lt; have := Option.some.inj e; omega)
              have hM := hM.keeps hkA (fun e => hME (OwnB.is e).symm)
              obtain ⟨Av, cv, ev⟩ := hR.slice
              obtain rfl : v' = .slice Av zs.length cv := ev.trans (by simp)
              simp only [List.nil_append] at hR
              refine hKK.out _ _ (hS9.andThen hkA (fun i hi e => by have := OwnB.is e; omega)) (fun h50 => ?_)
              try simp only [Act.put, List.setIfInBounds_toArray, List.set_cons_zero, List.set_cons_succ]
              refine one_ (i := 5) (oi := ({ dst := some 42, op := Op.call { callee := Callee.value (Operand.func 19), args := #[Operand.tmp 37, Operand.const (Value.int IntKind.i64 7), Operand.tmp 38, Operand.tmp 41], argTypes := #[3, 3, 23, 24] }, type := 66, pos := "told.go:53", after := #[{ on := 0, ground := Ground.data }, { on := 1, ground := Ground.data }, { on := 4, ground := Ground.data }, { on := 4, ground := Ground.chain }], guard := Option.none } : Oper)) (N := some 42) #[true, true, true, true, true, true, true, false] rfl rfl (by kernel_rfl) (by decide) ?_
              intro KK hKK
              refine goes_ Try.func19 (by kernel_rfl) rfl #[.int .i64 ((k : Int) + 1), .int .i64 7, .agg #[.int .i64 0, .int .i64 0], .slice Av zs.length cv] (wanted_none rfl) rfl rfl (by simp [Act.eval]) ?_
              refine (value_any ((k : Int) + 1) 7 0 0 Av zs.length cv _).mono ?_
              rintro e wV ⟨rfl, hkV⟩
              have hR := hR.grew hkV
              have hM := hM.grew hkV
              refine ⟨_, rfl, hKK.out _ _ (h50.trans hkV) (fun h51 => ?_)⟩
              try simp only [Act.put, List.setIfInBounds_toArray, List.set_cons_zero, List.set_cons_succ]
              refine one_ (i := 7) (oi := ({ dst := Option.none, op := Op.store 66 (Operand.tmp 10) (Operand.tmp 42), type := 0, pos := "told.go:53", after := #[{ on := 6, ground := Ground.data }, { on := 5, ground := Ground.data }, { on := 5, ground := Ground.chain }, { on := 0, ground := Ground.phase }, { on := 1, ground := Ground.phase }, { on := 2, ground := Ground.phase }, { on := 3, ground := Ground.phase }, { on := 4, ground := Ground.phase }, { on := 5, ground := Ground.phase }, { on := 6, ground := Ground.phase }], guard := Option.none } : Oper)) (N := Option.none) #[true, true, true, true, true, true, true, true] rfl rfl (by kernel_rfl) (by decide) ?_
              intro KK hKK
              refine skip_ (wanted_none rfl) rfl (w1 := wV.setRow mb (msgL 11 false ((k : Int) + 1) true 3 1 7 1 3 1 0 0 0 (.slice Av zs.length cv)).toArray) (exec_store_msg (.tmp 10) (.tmp 42) rfl mb rfl (msgL 11 false ((k : Int) + 1) true 3 1 7 1 3 1 0 0 0 (.slice Av zs.length cv)) (msgL 0 false 0 false 0 0 0 0 0 0 0 0 0 (.slice Option.none 0 0)) rfl hM rfl rfl (by simp [msgL, Value.oneCell'])) (hKK.out _ _ (h51.andThen ((Keeps.refl (One mb) _).setRow _ _ (fun _ => rfl)) (fun i hi e => by simp only [One] at e; omega)) (fun h52 => ?_))
              try simp only [Act.put, List.setIfInBounds_toArray, List.set_cons_zero, List.set_cons_succ]
              refine done_ (by kernel_rfl) ?_
              go_wp2_with fail
              go_meet
              exact ⟨mb, Av, cv, rfl, hM.setRow _, hMge, hR.keeps ((Keeps.refl (One mb) _).setRow _ _ (fun _ => rfl)) (fun b e f => hvm b e f), hvm, h52⟩
          · intro KK hKK
            obtain ⟨mb, hmb⟩ : ∃ x, x = W.drew.heap.size := ⟨_, rfl⟩
            obtain ⟨WM, hWM⟩ : ∃ x, x = W.drew.alloc (.cells (msgL 0 false 0 false 0 0 0 0 0 0 0 0 0 (.slice Option.none 0 0)).toArray 66) := ⟨_, rfl⟩
            have kM : Keeps None W.drew WM := by rw [hWM]; exact (Keeps.refl _ _).alloc _
            have hM : Blk WM mb 66 (msgL 0 false 0 false 0 0 0 0 0 0 0 0 0 (.slice Option.none 0 0)) := by rw [hWM, hmb]; exact Blk.new _ _ _
            have hMge : W.heap.size ≤ mb := by have := hS0.size; omega
            have hMlt := hM.lt
            refine value_ (wanted_none rfl) rfl (w1 := WM) (v := .pointer (some ⟨mb, 0, Option.none⟩)) (by rw [hWM, hmb]; exact exec_alloc_msg rfl) (hKK.out _ _ (hS0.trans kM) (fun h53 => ?_))
            try simp only [Act.put, List.setIfInBounds_toArray, List.set_cons_zero, List.set_cons_succ]
            refine one_ (i := 2) (oi := ({ dst := some 39, op := Op.buildSlice 24 0 #[], type := 24, pos := "told.go:53", after := #[], guard := Option.none } : Oper)) (N := some 39) #[true, true, true, true, false, false, true, false] rfl rfl (by kernel_rfl) (by decide) ?_
            intro KK hKK
            obtain ⟨EB, hEB⟩ : ∃ x, x = WM.heap.size := ⟨_, rfl⟩
            obtain ⟨WE, hWE⟩ : ∃ x, x = WM.alloc (.cells #[] 5) := ⟨_, rfl⟩
            have kE : Keeps None WM WE := by rw [hWE]; exact (Keeps.refl _ _).alloc _
            have hE0 := Blk.new WM 5 []
            rw [← hEB] at hE0
            have hE : Row .u8 5 WE W.heap.size (.slice (some ⟨EB, 0, Option.none⟩) 0 0) [] := by rw [hWE]; exact Row.of_blk (zs := []) hE0 (by have := h53.size; omega) (by unfold maxLen; simp)
            have hElt : EB < WE.heap.size := (hE.lt EB rfl).2
            have hM := hM.grew kE
            have hME : EB ≠ mb := by have := hMlt; omega
            refine value_ (wanted_none rfl) rfl (w1 := WE) (v := .slice (some ⟨EB, 0, Option.none⟩) 0 0) (by rw [hWE, hEB]; go_simp) (hKK.out _ _ (h53.trans kE) (fun h54 => ?_))
            try simp only [Act.put, List.setIfInBounds_toArray, List.set_cons_zero, List.set_cons_succ]
            refine one_ (i := 4) (oi := ({ dst := some 41, op := Op.call { callee := Callee.builtin Builtin.append, args := #[Operand.tmp 39, Operand.tmp 40], argTypes := #[24, 24] }, type := 24, pos := "told.go:53", after := #[{ on := 2, ground := Ground.data }, { on := 3, ground := Ground.data }], guard := Option.none } : Oper)) (N := some 41) #[true, true, true, true, true, false, true, false] rfl rfl (by kernel_rfl) (by decide) ?_
            intro KK hKK
            refine step_append_row _ (wanted_none rfl) rfl (.tmp 39) (.tmp 40) 24 rfl W.heap.size 5 i0 (.int .u8 0) 1 1 Try.underlying24 hi hz0 hz1 hz2 rfl (by decide) (.slice (some ⟨EB, 0, Option.none⟩) 0 0) 0 [] rfl hE.raw A zs.length cap (zs.map (Value.int .u8)) rfl (by simp) hcap (hAW.grew h54).src (ints_oneCell _ zs) (by unfold maxLen; omega) (by omega) (by have := h54.size; omega) ?_
            intro v' wA hown hkA hloc
            have hR : Row .u8 5 wA W.heap.size v' ([] ++ zs) := Row.of_append rfl rfl hown
            have hEs := (hE.lt EB rfl).1
            have hEs2 := (hE.lt EB rfl).2
            have hvm : ∀ b, v'.ownBlock = some b → b ≠ mb := fun b e => hloc.elim (fun h => by rw [h] at e; cases e; exact hME) (fun h => by rw [h] at e; have := hM.lt; have := Option.some.inj e; omega)
            have hM := hM.keeps hkA (fun e => hME (OwnB.is e).symm)
            obtain ⟨Av, cv, ev⟩ := hR.slice
            obtain rfl : v' = .slice Av zs.length cv := ev.trans (by simp)
            simp only [List.nil_append] at hR
            refine hKK.out _ _ (h54.andThen hkA (fun i hi e => by have := OwnB.is e; omega)) (fun h55 => ?_)
            try simp only [Act.put, List.setIfInBounds_toArray, List.set_cons_zero, List.set_cons_succ]
            refine one_ (i := 5) (oi := ({ dst := some 42, op := Op.call { callee := Callee.value (Operand.func 19), args := #[Operand.tmp 37, Operand.const (Value.int IntKind.i64 7), Operand.tmp 38, Operand.tmp 41], argTypes := #[3, 3, 23, 24] }, type := 66, pos := "told.go:53", after := #[{ on := 0, ground := Ground.data }, { on := 1, ground := Ground.data }, { on := 4, ground := Ground.data }, { on := 4, ground := Ground.chain }], guard := Option.none } : Oper)) (N := some 42) #[true, true, true, true, true, true, true, false] rfl rfl (by kernel_rfl) (by decide) ?_
            intro KK hKK
            refine goes_ Try.func19 (by kernel_rfl) rfl #[.int .i64 ((k : Int) + 1), .int .i64 7, .agg #[.int .i64 0, .int .i64 0], .slice Av zs.length cv] (wanted_none rfl) rfl rfl (by simp [Act.eval]) ?_
            refine (value_any ((k : Int) + 1) 7 0 0 Av zs.length cv _).mono ?_
            rintro e wV ⟨rfl, hkV⟩
            have hR := hR.grew hkV
            have hM := hM.grew hkV
            refine ⟨_, rfl, hKK.out _ _ (h55.trans hkV) (fun h56 => ?_)⟩
            try simp only [Act.put, List.setIfInBounds_toArray, List.set_cons_zero, List.set_cons_succ]
            refine one_ (i := 7) (oi := ({ dst := Option.none, op := Op.store 66 (Operand.tmp 10) (Operand.tmp 42), type := 0, pos := "told.go:53", after := #[{ on := 6, ground := Ground.data }, { on := 5, ground := Ground.data }, { on := 5, ground := Ground.chain }, { on := 0, ground := Ground.phase }, { on := 1, ground := Ground.phase }, { on := 2, ground := Ground.phase }, { on := 3, ground := Ground.phase }, { on := 4, ground := Ground.phase }, { on := 5, ground := Ground.phase }, { on := 6, ground := Ground.phase }], guard := Option.none } : Oper)) (N := Option.none) #[true, true, true, true, true, true, true, true] rfl rfl (by kernel_rfl) (by decide) ?_
            intro KK hKK
            refine skip_ (wanted_none rfl) rfl (w1 := wV.setRow mb (msgL 11 false ((k : Int) + 1) true 3 1 7 1 3 1 0 0 0 (.slice Av zs.length cv)).toArray) (exec_store_msg (.tmp 10) (.tmp 42) rfl mb rfl (msgL 11 false ((k : Int) + 1) true 3 1 7 1 3 1 0 0 0 (.slice Av zs.length cv)) (msgL 0 false 0 false 0 0 0 0 0 0 0 0 0 (.slice Option.none 0 0)) rfl hM rfl rfl (by simp [msgL, Value.oneCell'])) (hKK.out _ _ (h56.andThen ((Keeps.refl (One mb) _).setRow _ _ (fun _ => rfl)) (fun i hi e => by simp only [One] at e; omega)) (fun h57 => ?_))
            try simp only [Act.put, List.setIfInBounds_toArray, List.set_cons_zero, List.set_cons_succ]
            refine done_ (by kernel_rfl) ?_
            go_wp2_with fail
            go_meet
            exact ⟨mb, Av, cv, rfl, hM.setRow _, hMge, hR.keeps ((Keeps.refl (One mb) _).setRow _ _ (fun _ => rfl)) (fun b e f => hvm b e f), hvm, h57⟩
        case rest =>
          obtain ⟨mb, Av, cv, rfl, hM, hMge, hR, hvm, hkx⟩ := hcut
          have hIx : RdInv w wc g X rd ph := ⟨hIW.mach.grew hkx, hIW.key.grew hkx, hIW.keep.trans hkx⟩
          have hPQ : takeF hRd rd ph 11 ((k : Int) + 1) (0, 0) zs (fitsF hRd rd false true 3 1 7 1 3 1 0) = pkF 2 zs (k + 1) := by
            have := hPP.out
            rwa [show stF 2 ((k : Int) + 1) = (0, 0) from by unfold stF; rw [if_pos rfl]] at this
          have hXW := Lib.hid (fun b e => (hIW.mach.X b e).2)
          have hwW := hIW.keep.size
          have hwl := hIW.key.lt
          have hgW := hIW.mach.lt
          have hq4 : (Try.prog.info? 66).map (·.size) = some (msgL 11 false ((k : Int) + 1) true 3 1 7 1 3 1 0 0 0 (.slice Av zs.length cv)).toArray.size := sizeMsg rfl
          clear hIW s0 s1 hPP
          go_upto_region 15 with (fail)
          go_upto_region 16 with (first | (with_reducible refine wpList_load_row rfl _ (.tmp 10) rfl mb rfl _ _ _ _ hM.raw Try.underlying66 rfl hq4 ?_))
          refine (take_any g (w.heap.size + 1) X hRd rd ph 11 false ((k : Int) + 1) true 3 1 7 1 3 1 0 0 0 0 0 Av cv zs 0 0 0 ⟨#[]⟩ 0 0 0 0 0 0 Option.none 0 0 Option.none 0 0 Option.none 0 0 false wc hIx.mach (Nums.row hR).1 hr hwf).mono ?_
          rw [hPQ]
          rintro e w4 ⟨X4, B4, u4, rfl, hM4, hO4, hX4, hXn4, hXB4, hB4, hk4'⟩
          obtain ⟨A4, c4, rfl⟩ := hO4.slice
          have hvX : ∀ b, (Value.slice Av zs.length cv).ownBlock = some b → W.heap.size ≤ b ∧ b < wc.heap.size := hR.lt
          have hkg := hkx.size
          have hAway : ∀ b, W.heap.size ≤ b → ¬ (X b ∨ b = g) := fun b h1 h2 => by
            rcases h2 with h2 | h2
            · have := hXW.out b h2; omega
            · omega
          have hR4 := hR.keeps hk4' (fun b e => hAway b (hvX b e).1)
          have hM4m := hM.keeps hk4' (hAway mb hMge)
          have hvX4 : ∀ b, X4 b → (Value.slice Av zs.length cv).ownBlock ≠ some b := fun b h1 h2 => by
            have := hvX b h2
            rcases hXn4 b h1 with h | h
            · have := hXW.out b h; omega
            · omega
          have hkey4 : Blk w4 w.heap.size 51 [.int .i64 1, .int .i64 3, .int .i64 1, .int .i64 0] := hIx.key.keeps hk4' (fun e => by
            rcases e with e | e
            · have := (hIx.mach.X _ e).1; omega
            · have := hIx.mach.g.2; omega)
          have hkw4 : Keeps None w w4 := hIx.keep.andThen hk4' (fun i hi e => by
            rcases e with e | e
            · have := (hIx.mach.X _ e).1; omega
            · have := hIx.mach.g.2; omega)
          obtain ⟨ln', eln⟩ : ∃ n, n = lnO (pkF 2 zs (k + 1)).2.2 := ⟨_, rfl⟩
          rw [← eln]
          have HEL := Lib.hid eln
          have HM4 := Lib.hid hM4
          clear eln hM4 hO4 hX4 hXn4 hXB4 hB4 hk4' hIx hXW hAway hM hR hq4 hPQ
          go_wp2_with fail
          go_loopw [11] (fun i wr => ∃ (j : Nat) (ys : List Int), j ≤ zs.length ∧ i = .int .i64 (j : Int) ∧ ys.length = zs.length ∧ Row .u8 5 wr W.heap.size (.slice Av zs.length cv) ys ∧ Blk wr mb 66 (msgL 11 false ((k : Int) + 1) true 3 1 7 1 3 1 0 0 0 (.slice Av zs.length cv)) ∧ Keeps (OwnB (.slice Av zs.length cv)) w4 wr) (fun i _ => zs.length - (intOf i).toNat)
          case atStart => exact ⟨0, zs, Nat.zero_le _, rfl, rfl, hR4, hM4m, Keeps.refl _ _⟩
          case round =>
            clear hR4 hM4m
            obtain ⟨j, ys, hj, rfl, hyl, hRj, hMj, hkj⟩ := hrel
            have m15 := hMj.cell 15 _ rfl
            by_cases hjl : j < zs.length
            · obtain ⟨q, c', e2, -⟩ := hRj.pos (by omega)
              rw [hyl] at e2
              cases e2
              obtain ⟨x, b', o', e3, hx, -⟩ := (Nums.row hRj).1.get j (by omega)
              cases e3
              rw [Nat.zero_add] at hx
              have hf := hRj.free j
              go_wp2_with fail
              go_still_tail 10, (by kernel_rfl)
              change wpList _ _ _ _ _ wr.drew
              obtain ⟨wq, hwq⟩ : ∃ wq, wq = wr.drew := ⟨_, rfl⟩
              have kd : Keeps None wr wq := by rw [hwq]; exact (Keeps.refl _ _).drew
              rw [← hwq]
              have hRq := hRj.grew kd
              have hMq := hMj.grew kd
              have hkq := hkj.trans kd.of_none
              clear hwq hRj hMj hkj hx hf m15 kd
              have hf := hRq.free j
              obtain ⟨z, hz⟩ := hRq.has j (by omega)
              go_wp2
              go_roundw
              case rel => exact ⟨j + 1, _, by omega, by go_num, by rw [List.length_set]; exact hyl, hRq.store hyl j _, hMq.keeps ((Keeps.refl (One q) _).setCell _ _ (fun _ => rfl)) (fun e => hvm q rfl e.symm), hkq.setCell _ _ (fun _ => rfl)⟩
              case measure => simp [intOf]; omega
            · obtain rfl : j = zs.length := by omega
              go_wp2_with fail
              go_roundw
              case rel =>
                refine ⟨k + 1, X4, A4, c4, by omega, by go_num, by rw [HEL.out], (HM4.out.keeps hkj (fun b h1 h2 => hvX4 b h1 h2) ?_), ?_, ?_⟩
                · intro e; have := hvX g e; omega
                · exact hkey4.keeps hkj (fun e => by have := hvX _ e; omega)
                · exact hkw4.andThen hkj (fun i hi e => by have := hvX _ e; omega)
              case measure => simp [intOf]; omega
    · obtain rfl : k = 3 := by omega
      rw [show ((3 : Nat) : Int) + 1 = 4 from rfl]
      clear hk hlt
      obtain ⟨rd, erd⟩ : ∃ rd, rd = (pkF how zs 3).1 := ⟨_, rfl⟩
      obtain ⟨ph, eph⟩ : ∃ ph, ph = (pkF how zs 3).2.1 := ⟨_, rfl⟩
      obtain ⟨nl, enl⟩ : ∃ nl, nl = lnO (pkF how zs 3).2.2 := ⟨_, rfl⟩
      rw [← erd, ← eph] at hI
      rw [← enl]
      by_cases h1 : how = 1
      · subst h1
        obtain rfl : nl = 5 := enl
        have e1 : rd = (akF 1 zs 0).1 := erd
        have e2 : ph = (akF 1 zs 0).2 := eph
        rw [e1, e2] at hI
        clear e1 e2 erd eph hh rd ph
        go_wp2_with fail
        go_loopw [12] (fun i wr => ∃ (j : Nat) (X : Nat → Prop), j ≤ 3 ∧ i = .int .i64 ((j : Int) + 3) ∧ RdInv w wr g X (akF 1 zs j).1 (akF 1 zs j).2) (fun i _ => 6 - (intOf i).toNat)
        case atStart => exact ⟨0, X, by omega, rfl, hI⟩
        case round =>
          clear hI
          obtain ⟨j, X, hj, rfl, hI⟩ := hrel
          by_cases hjl : j < 3
          · have HP := Lib.hid (take_ak zs j hjl)
            have hj5 : (j : Int) + 3 ≤ 5 := by omega
            have hwf : (Lit.int .i64 ((j : Int) + 3)).wf = true := by
              obtain h | h | h : j = 0 ∨ j = 1 ∨ j = 2 := by omega
              all_goals subst h; rfl
            obtain ⟨rd, erd⟩ : ∃ rd, rd = (akF 1 zs j).1 := ⟨_, rfl⟩
            obtain ⟨ph, eph⟩ : ∃ ph, ph = (akF 1 zs j).2 := ⟨_, rfl⟩
            have HP' := HP.out
            rw [← erd, ← eph] at hI HP'
            have HPP := Lib.hid HP'
            clear HP' HP erd eph
            have q0 := hI.key.cell 0 _ rfl
            have q1 := hI.key.cell 1 _ rfl
            have q2 := hI.key.cell 2 _ rfl
            have q3 := hI.key.cell 3 _ rfl
            go_wp2_with fail
            refine (take_any g (w.heap.size + 1) X hRd rd ph 12 false ((j : Int) + 3) true 3 1 8 1 3 1 0 0 0 0 0 Option.none 0 [] 0 0 0 ⟨#[]⟩ 0 0 0 0 0 0 Option.none 0 0 Option.none 0 0 Option.none 0 0 false wr hI.mach (Nums.nil _ _ _) (by simp) hwf).mono ?_
            rw [HPP.out]
            rintro e w4 ⟨X4, B4, u4, rfl, hM4, hO4, hX4, hXn4, hXB4, hB4, hk4'⟩
            obtain rfl : u4 = .slice Option.none 0 0 := hO4
            have hI4 : RdInv w w4 g X4 (akF 1 zs (j + 1)).1 (akF 1 zs (j + 1)).2 := ⟨hM4, hI.key.keeps hk4' (fun e => by
              rcases e with e | e
              · have := (hI.mach.X _ e).1; omega
              · have := hI.mach.g.2; omega), hI.keep.andThen hk4' (fun i hi e => by
              rcases e with e | e
              · have := (hI.mach.X _ e).1; omega
              · have := hI.mach.g.2; omega)⟩
            clear hM4 hX4 hXn4 hXB4 hB4 hk4' hI q0 q1 q2 q3 HPP
            go_wp2_with fail
            go_roundw
            case rel => exact ⟨j + 1, X4, by omega, by go_num, hI4⟩
            case measure => simp [intOf]; omega
          · obtain rfl : j = 3 := by omega
            go_wp2_with fail
            go_ret
            exact ⟨g, X, _, rfl, hI.mach.down (by omega), hI.keep⟩
      · have e0 : pkF how zs 3 = (7, .ended 0 (tagF how) (datF how zs), .no) := by
          show (if how = 1 then _ else _) = _
          rw [if_neg h1]
        have h0 : nl ≠ 5 := by rw [enl, e0]; simp [lnO]
        have e1 : ph = .ended 0 (tagF how) (datF how zs) := by rw [eph, e0]
        clear e0
        obtain ⟨ta, tb⟩ := test_ne (show ¬ (nl : Int) = 5 by omega)
        have HE := Lib.hid e1
        clear erd eph enl e1 h1 hh
        go_wp2_with fail
        go_loopw [12] (fun i wr => i = .int .i64 3 ∧ RdInv w wr g X rd ph) (fun i _ => 0)
        case atStart => exact ⟨rfl, hI⟩
        case round =>
          clear hI
          obtain ⟨rfl, hI⟩ := hrel
          go_wp2_with fail
          go_ret
          exact ⟨g, X, rd, rfl, (HE.out ▸ hI.mach).down (by omega), hI.keep⟩
end Go.Proofs.Ytcihfjfbcfgidaa
