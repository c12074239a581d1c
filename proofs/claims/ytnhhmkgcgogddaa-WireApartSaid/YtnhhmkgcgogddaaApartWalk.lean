/- The walk of WireApart. -/
import Derived.Test.YtnhhmkgcgogddaaApartState
import Derived.Test.YtnhhmkgcgogddaaRReadB
import Derived.Deep.DeepCutAuto
import Derived.Deep.CutBlock
namespace Go.Proofs.Ytnhhmkgcgogddaa.apart
open Go.RowKit Go.Proofs.Ytnhhmkgcgogddaa.wireWrites Go.Proofs.Ytnhhmkgcgogddaa.wireBack Go.Proofs.Ytnhhmkgcgogddaa.putLoop Go.Proofs.YtnhhmkgcgogddaaW.PrintLast
set_option linter.unusedVariables false

structure InvA (w0 : World) (gW gN gL gA base : Nat) (A : Option Addr) (cA : Nat) (B : Option Addr) (cB : Nat) (its jts : List It) (k : Nat) (wr : World) : Prop where
  mk :: (out : ∃ (j0 j1 : Nat) (v0 n0 v1 n1 : Value) (z0 z1 : List Int) (got0 got1 : List It), j0 ≤ its.length ∧ j1 ≤ jts.length ∧ Blk wr gW 55 [v0, .bool false, v1, .bool false] ∧ Blk wr gN 56 [n0, n1] ∧ Blk wr gL 56 [.slice A its.length cA, .slice B jts.length cB] ∧ Blk wr gA 57 [.int .i64 j0, .int .i64 j1] ∧ Both w0 base k v0 z0 n0 got0 v1 z1 n1 got1 wr ∧ Keeps None w0 wr)

set_option maxRecDepth 100000 in
set_option maxHeartbeats 3200000 in
theorem walk (A : Option Addr) (n cap : Nat) (its : List It) (B : Option Addr) (m cap' : Nat) (jts : List It) (C : Option Addr) (q cq : Nat) (ts : List Int) (w : World) (hA : ItsAt w A its) (hraw : ∀ x ∈ its, x.Raw w) (hn : its.length = n) (hr : n ≤ 140737488351232)
    (hB : ItsAt w B jts) (hraw2 : ∀ x ∈ jts, x.Raw w) (hm : jts.length = m) (hrm : m ≤ 140737488351232) (hC : Nums .i64 w C ts) (hq : ts.length = q) (hrq : q ≤ 140737488351232) :
    Calls Try.prog 10 #[.slice A n cap, .slice B m cap', .slice C q cq] w (wireBack.LawEnd w) := by
  subst hn
  subst hm
  subst hq
  have HRA := Lib.hid hraw
  have HRB := Lib.hid hraw2
  have HIA := Lib.hid hA
  have HIB := Lib.hid hB
  have HC := Lib.hid hC
  clear hraw hraw2 hA hB hC
  go_enter Try.func10, Try.ntmps10
  go_upto_block 0 with (fail)
  obtain ⟨gW, hgW⟩ : ∃ g, g = w.heap.size := ⟨_, rfl⟩
  obtain ⟨gN, hgN⟩ : ∃ g, g = w.heap.size + 1 := ⟨_, rfl⟩
  obtain ⟨gL, hgL⟩ : ∃ g, g = w.heap.size + 1 + 1 := ⟨_, rfl⟩
  obtain ⟨gA, hgA⟩ : ∃ g, g = w.heap.size + 1 + 1 + 1 := ⟨_, rfl⟩
  obtain ⟨w1, hw1⟩ : ∃ w1, w1 = (((w.alloc (.cells #[.slice Option.none 0 0, .bool false, .slice Option.none 0 0, .bool false] 55)).alloc (.cells #[.slice Option.none 0 0, .slice Option.none 0 0] 56)).alloc (.cells #[.slice A its.length cap, .slice B jts.length cap'] 56)).alloc (.cells #[.int .i64 0, .int .i64 0] 57) := ⟨_, rfl⟩
  have hst : InvA w gW gN gL gA (gA + 1) A cap B cap' its jts 0 w1 := by
    refine ⟨0, 0, .slice Option.none 0 0, .slice Option.none 0 0, .slice Option.none 0 0, .slice Option.none 0 0, [], [], [], [], Nat.zero_le _, Nat.zero_le _, ?_, ?_, ?_, ?_, ?_, ?_⟩
    · rw [hw1, hgW]; exact (((Blk.new w _ _).alloc _).alloc _).alloc _
    · have := ((Blk.new (w.alloc (.cells #[.slice Option.none 0 0, .bool false, .slice Option.none 0 0, .bool false] 55)) 56 [.slice Option.none 0 0, .slice Option.none 0 0]).alloc (.cells #[.slice A its.length cap, .slice B jts.length cap'] 56)).alloc (.cells #[.int .i64 0, .int .i64 0] 57)
      rw [World.size_alloc] at this
      rw [hw1, hgN]; exact this
    · have := (Blk.new ((w.alloc (.cells #[.slice Option.none 0 0, .bool false, .slice Option.none 0 0, .bool false] 55)).alloc (.cells #[.slice Option.none 0 0, .slice Option.none 0 0] 56)) 56 [.slice A its.length cap, .slice B jts.length cap']).alloc (.cells #[.int .i64 0, .int .i64 0] 57)
      rw [World.size_alloc, World.size_alloc] at this
      rw [hw1, hgL]; exact this
    · have := Blk.new (((w.alloc (.cells #[.slice Option.none 0 0, .bool false, .slice Option.none 0 0, .bool false] 55)).alloc (.cells #[.slice Option.none 0 0, .slice Option.none 0 0] 56)).alloc (.cells #[.slice A its.length cap, .slice B jts.length cap'] 56)) 57 [.int .i64 0, .int .i64 0]
      rw [World.size_alloc, World.size_alloc, World.size_alloc] at this
      rw [hw1, hgA]; exact this
    · have hsd : Sd w (gA + 1) 0 (.slice Option.none 0 0) [] (.slice Option.none 0 0) [] w1 := ⟨Row.nil _ _ _ _, Now.nil _ _, fun b e => by simp [Value.ownBlock] at e, rfl, Nat.le_refl _, Nat.zero_le _, by simp⟩
      exact ⟨hsd, hsd, fun b e => by simp [Value.ownBlock] at e, fun b e => by simp [Value.ownBlock] at e, fun b e => by simp [Value.ownBlock] at e, fun b e => by simp [Value.ownBlock] at e⟩
    · rw [hw1]; exact ((((Keeps.refl _ _).alloc _).alloc _).alloc _).alloc _
  have hgs : w.heap.size ≤ gW ∧ gW < gN ∧ gN < gL ∧ gL < gA := by omega
  have HST := Lib.hid hst
  rw [← hw1, ← hgA, ← hgL, ← hgN, ← hgW]
  clear hgW hgN hgL hgA hw1 hst
  go_cut [] (fun wx => ∃ k, k ≤ 400 ∧ InvA w gW gN gL gA (gA + 1) A cap B cap' its jts k wx)
  case first =>
    go_wp2_with fail
    go_loopw [11] (fun i wr => ∃ (k : Nat), k ≤ 400 ∧ i = .int .i64 k ∧ InvA w gW gN gL gA (gA + 1) A cap B cap' its jts k wr) (fun i _ => 400 - (intOf i).toNat)
    case atStart => exact ⟨0, by omega, rfl, HST.out⟩
    case round =>
      obtain ⟨k, hk4, rfl, hInv⟩ := hrel
      have HINV := Lib.hid hInv
      obtain ⟨j0, j1, v0, n0, v1, n1, z0, z1, got0, got1, hj0, hj1, bW, bN, bL, bA, hBo, hK⟩ := hInv.out
      clear hInv
      by_cases h4 : k < 400
      · go_upto_if 31 with (fail)
        go_cut [12] (fun x wx => (∃ k0 : Nat, k0 < 2 ∧ x = .int .i64 k0) ∧ wr = wx)
        case first =>
          by_cases hts : 0 < ts.length
          · obtain ⟨c, b, o, rfl, hcc, -⟩ := (HC.out.grew hK).get (k % ts.length) (Nat.mod_lt _ hts)
            obtain ⟨K, hKe⟩ : ∃ K, K = k % ts.length := ⟨_, rfl⟩
            have hKm : (k : Int).tmod ts.length = (K : Int) := by rw [hKe]; exact (Int.ofNat_tmod _ _).symm
            have hKl : K < ts.length := by rw [hKe]; exact Nat.mod_lt _ hts
            rw [← hKe] at hcc
            clear hKe
            go_wp2_with fail
            refine (round_any c 2 wr (by omega) (by omega)).mono ?_
            rintro e w2 ⟨rfl, rfl⟩
            have hrd := roundF_lt c 2 (by omega)
            obtain ⟨r, hre⟩ : ∃ r : Nat, roundF c 2 = (r : Int) := ⟨(roundF c 2).toNat, by omega⟩
            rw [hre] at hrd ⊢
            clear hre
            go_wp2_with fail
            go_meet
            exact ⟨⟨r, by omega, rfl⟩, rfl⟩
          · go_wp2_with fail
            go_meet
            exact ⟨⟨0, by omega, rfl⟩, rfl⟩
        case rest =>
          obtain ⟨⟨k0, hk0, rfl⟩, rfl⟩ := hcut
          obtain ⟨j, hj⟩ : ∃ j : Nat, wr.cell? ⟨gA, k0, Option.none⟩ = some (.int .i64 j) := by
            rcases (by omega : k0 = 0 ∨ k0 = 1) with rfl | rfl
            · exact ⟨_, bA.cell 0 _ rfl⟩
            · exact ⟨_, bA.cell 1 _ rfl⟩
          obtain ⟨AL, lL, cL, hL⟩ : ∃ (AL : Option Addr) (lL cL : Nat), wr.cell? ⟨gL, k0, Option.none⟩ = some (.slice AL lL cL) := by
            rcases (by omega : k0 = 0 ∨ k0 = 1) with rfl | rfl
            · exact ⟨_, _, _, bL.cell 0 _ rfl⟩
            · exact ⟨_, _, _, bL.cell 1 _ rfl⟩
          go_upto_if 47 with (fail)
          go_quiet (fail)
          go_upto_if 47 with (fail)
          go_cut [12] (fun x wx => (x = .int .i64 0 ∨ x = .int .i64 1) ∧ wr.drewN nq = wx)
          case first =>
            by_cases hjl : j < lL
            · go_wp2_with fail
              go_meet
              exact ⟨by rcases (by omega : k0 = 0 ∨ k0 = 1) with rfl | rfl; exact .inl rfl; exact .inr rfl, rfl⟩
            · have h1k : (1 - (k0 : Int)) = 0 ∨ (1 - (k0 : Int)) = 1 := by omega
              go_wp2_with fail
              go_meet
              exact ⟨by rcases h1k with e | e <;> rw [e]; exact .inl rfl; exact .inr rfl, rfl⟩
          case rest =>
            obtain ⟨h01, rfl⟩ := hcut
            clear hj hL
            have hd1 : Keeps None wr (wr.drewN nq) := (Keeps.refl _ _).drewN nq
            obtain ⟨w1, hw1⟩ : ∃ w1, w1 = wr.drewN nq := ⟨_, rfl⟩
            rw [← hw1] at hd1 ⊢
            clear hw1
            have bW1 := bW.grew hd1
            have bN1 := bN.grew hd1
            have bL1 := bL.grew hd1
            have bA1 := bA.grew hd1
            have hBo1 := hBo.grew hd1
            have hK1 := hK.trans hd1
            clear bW bN bL bA hBo hK
            rcases h01 with rfl | rfl
            · have a0 := bA1.cell 0 _ rfl
              have l0 := bL1.cell 0 _ rfl
              by_cases hjl : j0 < its.length
              · obtain ⟨x, hx⟩ : ∃ x, its[j0]? = some x := ⟨_, List.getElem?_eq_getElem hjl⟩
                have raw := HRA.out x (List.mem_of_getElem? hx)
                obtain ⟨kind, nn, Ax, lx, cx, bs⟩ := x
                obtain ⟨b, o, rfl, c0, c1, c2⟩ := (HIA.out.grew hK1) j0 _ hx
                clear hx
                simp only at c0 c1 c2
                have HR := Lib.hid raw
                have rn := raw.n
                simp only at rn
                clear raw
                go_wp2_with fail
                go_quiet (fail)
                go_wp2_with fail
                obtain ⟨w2, hw2⟩ : ∃ w2, w2 = w1.drewN nq := ⟨_, rfl⟩
                have hd2 : Keeps None w1 w2 := by rw [hw2]; exact (Keeps.refl _ _).drewN nq
                rw [← hw2]
                clear hw2
                obtain ⟨K, hKK⟩ : ∃ K, K = rightK kind := ⟨_, rfl⟩
                obtain ⟨N, hNN⟩ : ∃ N, N = rightN kind nn := ⟨_, rfl⟩
                have hKr : 1 ≤ K ∧ K ≤ 4 := by rw [hKK]; exact rightK_in kind
                have hNr : -9223372036854775808 ≤ N ∧ N ≤ 9223372036854775807 := by rw [hNN]; exact rightN_in kind nn rn
                have hNp : K = 1 → 0 ≤ N := by rw [hKK, hNN]; exact rightN_pos kind nn
                have HNP := Lib.hid hNp
                have HKN := Lib.hid (And.intro hKK hNN)
                clear hKK hNN hNp
                have held : ∀ w', Keeps None w2 w' → (w'.cell? ⟨gA, 0, Option.none⟩ = some (.int .i64 j0) ∧ w'.cell? ⟨gL, 0, Option.none⟩ = some (.slice (some ⟨b, o, Option.none⟩) its.length cap) ∧ w'.cell? ⟨b, o + j0 * 3, Option.none⟩ = some (.int .i64 kind) ∧ w'.cell? ⟨b, o + j0 * 3 + 1, Option.none⟩ = some (.int .i64 nn) ∧ w'.cell? ⟨b, o + j0 * 3 + 2, Option.none⟩ = some (.slice Ax lx cx)) :=
                  fun w' h => ⟨(hd2.trans h).cell a0 id, (hd2.trans h).cell l0 id, (hd2.trans h).cell c0 id, (hd2.trans h).cell c1 id, (hd2.trans h).cell c2 id⟩
                have HELD := Lib.hid held
                clear held
                go_upto_region 14 with (fail)
                go_cut [13] (fun x wx => ∃ xb, x = .pointer (some ⟨xb, 0, Option.none⟩) ∧ Blk wx xb 32 [.int .i64 K, .int .i64 N, .slice Ax lx cx] ∧ w2.heap.size ≤ xb ∧ Keeps None w2 wx)
                case first =>
                  refine start_ (ds := []) (S := (fun w' => w'.cell? ⟨gA, 0, Option.none⟩ = some (.int .i64 j0) ∧ w'.cell? ⟨gL, 0, Option.none⟩ = some (.slice (some ⟨b, o, Option.none⟩) its.length cap) ∧ w'.cell? ⟨b, o + j0 * 3, Option.none⟩ = some (.int .i64 kind) ∧ w'.cell? ⟨b, o + j0 * 3 + 1, Option.none⟩ = some (.int .i64 nn) ∧ w'.cell? ⟨b, o + j0 * 3 + 2, Option.none⟩ = some (.slice Ax lx cx))) #[false, false, false, false, false, false, false, false, false, false, false] (by kernel_rfl) rfl rfl (HELD.out _ ((Keeps.refl None w2).drew)) (fun hS0 => ?_)
                  refine pure_ (i := 0) (N := some 58) (v := .int .i64 0) #[true, false, false, false, false, false, false, false, false, false, false] rfl rfl (by kernel_rfl) (fun _ _ _ h => h) (Or.inl ⟨wanted_none rfl, fun w => by rfl⟩) rfl ?_
                  try simp only [Act.put, List.setIfInBounds_toArray, List.set_cons_zero, List.set_cons_succ]
                  refine pure_ (i := 1) (N := some 59) (v := .pointer (some ⟨gL, 0, Option.none⟩)) #[true, true, false, false, false, false, false, false, false, false, false] rfl rfl (by kernel_rfl) (fun _ _ _ h => h) (Or.inl ⟨wanted_none rfl, fun w => by go_simp⟩) rfl ?_
                  try simp only [Act.put, List.setIfInBounds_toArray, List.set_cons_zero, List.set_cons_succ]
                  refine take_ (i := 2) (N := some 60) (v := .slice (some ⟨b, o, Option.none⟩) its.length cap) #[true, true, true, false, false, false, false, false, false, false, false] rfl rfl (by kernel_rfl) (fun _ _ _ h => h) (Or.inl ⟨wanted_none rfl, by intro w' hSw; go_split_ands; go_simp⟩) hS0 rfl ?_
                  try simp only [Act.put, List.setIfInBounds_toArray, List.set_cons_zero, List.set_cons_succ]
                  refine pure_ (i := 3) (N := some 61) (v := .int .i64 0) #[true, true, true, true, false, false, false, false, false, false, false] rfl rfl (by kernel_rfl) (fun _ _ _ h => h) (Or.inl ⟨wanted_none rfl, fun w => by rfl⟩) rfl ?_
                  try simp only [Act.put, List.setIfInBounds_toArray, List.set_cons_zero, List.set_cons_succ]
                  refine pure_ (i := 4) (N := some 62) (v := .pointer (some ⟨gA, 0, Option.none⟩)) #[true, true, true, true, true, false, false, false, false, false, false] rfl rfl (by kernel_rfl) (fun _ _ _ h => h) (Or.inl ⟨wanted_none rfl, fun w => by go_simp⟩) rfl ?_
                  try simp only [Act.put, List.setIfInBounds_toArray, List.set_cons_zero, List.set_cons_succ]
                  refine take_ (i := 5) (N := some 63) (v := .int .i64 j0) #[true, true, true, true, true, true, false, false, false, false, false] rfl rfl (by kernel_rfl) (fun _ _ _ h => h) (Or.inl ⟨wanted_none rfl, by intro w' hSw; go_split_ands; go_simp⟩) hS0 rfl ?_
                  try simp only [Act.put, List.setIfInBounds_toArray, List.set_cons_zero, List.set_cons_succ]
                  refine pure_ (i := 6) (N := some 64) (v := .pointer (some ⟨b, o + j0 * 3, Option.none⟩)) #[true, true, true, true, true, true, true, false, false, false, false] rfl rfl (by kernel_rfl) (fun _ _ _ h => h) (Or.inl ⟨wanted_none rfl, fun w => by go_simp⟩) rfl ?_
                  try simp only [Act.put, List.setIfInBounds_toArray, List.set_cons_zero, List.set_cons_succ]
                  refine take_ (i := 7) (N := some 65) (v := .agg #[.int .i64 kind, .int .i64 nn, .slice Ax lx cx]) #[true, true, true, true, true, true, true, true, false, false, false] rfl rfl (by kernel_rfl) (fun _ _ _ h => h) (Or.inl ⟨wanted_none rfl, by intro w' hSw; go_split_ands; go_simp⟩) hS0 rfl ?_
                  try simp only [Act.put, List.setIfInBounds_toArray, List.set_cons_zero, List.set_cons_succ]
                  refine two_ (i := 8) (j := 9) (oi := ({ dst := some 66, op := Op.call { callee := Callee.value (Operand.func 29), args := #[Operand.tmp 65], argTypes := #[32] }, type := 32, pos := "outright.go:160", after := #[{ on := 7, ground := Ground.data }], guard := Option.none } : Oper)) (oj := ({ dst := some 13, op := Op.alloc 32, type := 0, pos := "outright.go:160", after := #[], guard := Option.none } : Oper)) (Ni := some 66) (Nj := some 13) #[true, true, true, true, true, true, true, true, true, false, false] #[true, true, true, true, true, true, true, true, false, true, false] rfl rfl rfl rfl (by kernel_rfl) (by decide) (by decide) ?_ ?_
                  · intro KK hKK
                    refine goes_ Try.func29 (by kernel_rfl) rfl #[.agg #[.int .i64 kind, .int .i64 nn, .slice Ax lx cx]] (wanted_none rfl) rfl rfl (by simp [Act.eval]) ?_
                    refine (right_any kind nn Ax lx cx _ rn).mono ?_
                    rintro e w3 ⟨rfl, hk3⟩
                    rw [← HKN.out.1, ← HKN.out.2]
                    have hK3 : Keeps None w2 w3 := ((Keeps.refl None w2).drew).trans hk3
                    refine ⟨_, rfl, hKK.out _ _ (HELD.out _ (hK3)) (fun hS1 => ?_)⟩
                    try simp only [Act.put, List.setIfInBounds_toArray, List.set_cons_zero, List.set_cons_succ]
                    refine one_ (i := 9) (oi := ({ dst := some 13, op := Op.alloc 32, type := 0, pos := "outright.go:160", after := #[], guard := Option.none } : Oper)) (N := some 13) #[true, true, true, true, true, true, true, true, true, true, false] rfl rfl (by kernel_rfl) (by decide) ?_
                    intro KK hKK
                    refine value_ (wanted_none rfl) rfl (w1 := (w3).alloc (.cells #[.int .i64 0, .int .i64 0, .slice Option.none 0 0] 32)) (v := .pointer (some ⟨(w3).heap.size, 0, Option.none⟩)) (by go_simp) (hKK.out _ _ (HELD.out _ (((hK3).alloc _))) (fun hS2 => ?_))
                    try simp only [Act.put, List.setIfInBounds_toArray, List.set_cons_zero, List.set_cons_succ]
                    refine one_ (i := 10) (oi := ({ dst := Option.none, op := Op.store 32 (Operand.tmp 13) (Operand.tmp 66), type := 0, pos := "outright.go:160", after := #[{ on := 9, ground := Ground.data }, { on := 8, ground := Ground.data }, { on := 8, ground := Ground.chain }, { on := 0, ground := Ground.phase }, { on := 1, ground := Ground.phase }, { on := 2, ground := Ground.phase }, { on := 3, ground := Ground.phase }, { on := 4, ground := Ground.phase }, { on := 5, ground := Ground.phase }, { on := 6, ground := Ground.phase }, { on := 7, ground := Ground.phase }, { on := 8, ground := Ground.phase }, { on := 9, ground := Ground.phase }], guard := Option.none } : Oper)) (N := Option.none) #[true, true, true, true, true, true, true, true, true, true, true] rfl rfl (by kernel_rfl) (by decide) ?_
                    intro KK hKK
                    refine skip_ (wanted_none rfl) rfl (w1 := w3.alloc (.cells #[.int .i64 K, .int .i64 N, .slice Ax lx cx] 32)) (by go_simp) (hKK.out _ _ (HELD.out _ (hK3.alloc _)) (fun hS3 => ?_))
                    try simp only [Act.put, List.setIfInBounds_toArray, List.set_cons_zero, List.set_cons_succ]
                    refine done_ (by kernel_rfl) ?_
                    go_wp2_with fail
                    go_meet
                    exact ⟨_, rfl, Blk.new w3 _ _, hK3.size, hK3.alloc _⟩
                  · intro KK hKK
                    refine value_ (wanted_none rfl) rfl (w1 := (w2.drew).alloc (.cells #[.int .i64 0, .int .i64 0, .slice Option.none 0 0] 32)) (v := .pointer (some ⟨(w2.drew).heap.size, 0, Option.none⟩)) (by go_simp) (hKK.out _ _ (HELD.out _ ((((Keeps.refl None w2).drew).alloc _))) (fun hS4 => ?_))
                    try simp only [Act.put, List.setIfInBounds_toArray, List.set_cons_zero, List.set_cons_succ]
                    refine one_ (i := 8) (oi := ({ dst := some 66, op := Op.call { callee := Callee.value (Operand.func 29), args := #[Operand.tmp 65], argTypes := #[32] }, type := 32, pos := "outright.go:160", after := #[{ on := 7, ground := Ground.data }], guard := Option.none } : Oper)) (N := some 66) #[true, true, true, true, true, true, true, true, true, true, false] rfl rfl (by kernel_rfl) (by decide) ?_
                    intro KK hKK
                    refine goes_ Try.func29 (by kernel_rfl) rfl #[.agg #[.int .i64 kind, .int .i64 nn, .slice Ax lx cx]] (wanted_none rfl) rfl rfl (by simp [Act.eval]) ?_
                    refine (right_any kind nn Ax lx cx _ rn).mono ?_
                    rintro e w3 ⟨rfl, hk3⟩
                    rw [← HKN.out.1, ← HKN.out.2]
                    have hK3 : Keeps None w2 w3 := ((((Keeps.refl None w2).drew).alloc _)).trans hk3
                    have hz3 : Blk w3 w2.heap.size 32 [.int .i64 0, .int .i64 0, .slice Option.none 0 0] := (Blk.new w2.drew 32 [.int .i64 0, .int .i64 0, .slice Option.none 0 0]).grew hk3
                    have q0 := hz3.free 0
                    have q1 := hz3.free 1
                    have q2 := hz3.free 2
                    have r0 := hz3.cell 0 _ rfl
                    have r1 := hz3.cell 1 _ rfl
                    have r2 := hz3.cell 2 _ rfl
                    refine ⟨_, rfl, hKK.out _ _ (HELD.out _ (hK3)) (fun hS5 => ?_)⟩
                    try simp only [Act.put, List.setIfInBounds_toArray, List.set_cons_zero, List.set_cons_succ]
                    refine one_ (i := 10) (oi := ({ dst := Option.none, op := Op.store 32 (Operand.tmp 13) (Operand.tmp 66), type := 0, pos := "outright.go:160", after := #[{ on := 9, ground := Ground.data }, { on := 8, ground := Ground.data }, { on := 8, ground := Ground.chain }, { on := 0, ground := Ground.phase }, { on := 1, ground := Ground.phase }, { on := 2, ground := Ground.phase }, { on := 3, ground := Ground.phase }, { on := 4, ground := Ground.phase }, { on := 5, ground := Ground.phase }, { on := 6, ground := Ground.phase }, { on := 7, ground := Ground.phase }, { on := 8, ground := Ground.phase }, { on := 9, ground := Ground.phase }], guard := Option.none } : Oper)) (N := Option.none) #[true, true, true, true, true, true, true, true, true, true, true] rfl rfl (by kernel_rfl) (by decide) ?_
                    intro KK hKK
                    refine skip_ (wanted_none rfl) rfl (w1 := ((w3.setCell ⟨w2.heap.size, 0, Option.none⟩ (.int .i64 K)).setCell ⟨w2.heap.size, 1, Option.none⟩ (.int .i64 N)).setCell ⟨w2.heap.size, 2, Option.none⟩ (.slice Ax lx cx)) (by go_simp) (hKK.out _ _ (HELD.out _ (((hK3.setCell ⟨w2.heap.size, 0, Option.none⟩ (.int .i64 K) (by simp)).setCell ⟨w2.heap.size, 1, Option.none⟩ (.int .i64 N) (by simp)).setCell ⟨w2.heap.size, 2, Option.none⟩ (.slice Ax lx cx) (by simp))) (fun hS6 => ?_))
                    try simp only [Act.put, List.setIfInBounds_toArray, List.set_cons_zero, List.set_cons_succ]
                    refine done_ (by kernel_rfl) ?_
                    go_wp2_with fail
                    go_meet
                    exact ⟨_, rfl, ((hz3.set 0 _).set 1 _).set 2 _, Nat.le_refl _, ((hK3.setCell ⟨w2.heap.size, 0, Option.none⟩ (.int .i64 K) (by simp)).setCell ⟨w2.heap.size, 1, Option.none⟩ (.int .i64 N) (by simp)).setCell ⟨w2.heap.size, 2, Option.none⟩ (.slice Ax lx cx) (by simp)⟩
                case rest =>
                  obtain ⟨xb, rfl, hxb, hxl, hk3⟩ := hcut
                  have hk13 := hd2.trans hk3
                  have bW3 := bW1.grew hk13
                  have bN3 := bN1.grew hk13
                  have bL3 := bL1.grew hk13
                  have bA3 := bA1.grew hk13
                  have hBo3 := hBo1.grew hk13
                  have hK3 := hK1.trans hk13
                  have fA := bA3.free 0
                  have cA := bA3.cell 0 _ rfl
                  have gl1 := bW1.lt
                  have gl2 := bN1.lt
                  have gl3 := bL1.lt
                  have gl4 := bA1.lt
                  have s13 := hk13.size
                  have s12 := hd2.size
                  have s23 := hk3.size
                  have xlt := hxb.lt
                  have hka : Keeps (One gA) wc (wc.setCell ⟨gA, 0, Option.none⟩ (.int .i64 (j0 + 1))) := (Keeps.refl _ _).setCell _ _ (fun _ => rfl)
                  obtain ⟨w4, hw4⟩ : ∃ w4, w4 = wc.setCell ⟨gA, 0, Option.none⟩ (.int .i64 (j0 + 1)) := ⟨_, rfl⟩
                  have bW4 := bW3.keeps hka (fun e => by have : gW = gA := e; omega)
                  have bN4 := bN3.keeps hka (fun e => by have : gN = gA := e; omega)
                  have bL4 := bL3.keeps hka (fun e => by have : gL = gA := e; omega)
                  have bA4 := bA3.set 0 (.int .i64 (j0 + 1))
                  have hxb4 := hxb.keeps hka (fun e => by have : xb = gA := e; omega)
                  have hBo4 := hBo3.keeps hka (fun i e => by have : i = gA := e; omega)
                  have hK4 := hK3.andThen hka (fun i hi e => by have : i = gA := e; omega)
                  have s4 := hka.size
                  rw [← hw4] at bW4 bN4 bL4 bA4 hxb4 hBo4 hK4 s4
                  have HW4 := Lib.hid hw4
                  have e2 := hxb4.cell 2 _ rfl
                  clear hw4 hka bW3 bN3 bL3 bA3 hBo3 hK3 hxb
                  go_upto_region 16 with (fail)
                  rw [← HW4.out]
                  by_cases hlx : lx ≤ 65536
                  · have hd4 : Keeps None w4 w4.drew := (Keeps.refl None w4).drew
                    have hlt4 := hBo4.a.lt
                    have hlo4 := hBo4.b.lt
                    have hvlt := fun b (e : v0.ownBlock = some b) => hlt4.1 b e
                    have hNum : ∀ w', Keeps (Wt gW v0) w4.drew w' → Nums .u8 w' Ax bs := fun w' h =>
                      HR.out.nums.grew ((hK4.trans hd4).andThen h (fun i hi e => by
                        rcases e with e | e
                        · omega
                        · have := (hvlt i e).1; omega))
                    have hOk : It.Ok w ⟨K, N, Ax, lx, cx, bs⟩ := ⟨HR.out.nums, HR.out.len, HR.out.bytes, HR.out.nil, hNr, hlx⟩
                    have HOK := Lib.hid hOk
                    have hzl := hBo4.a.zl
                    have hgl := hBo4.a.gl
                    have hPut : Calls Try.prog 19 #[.pointer (some ⟨gW, 0, Option.none⟩), .agg #[.int .i64 K, .int .i64 N, .slice Ax lx cx]] w4.drew (apart.Putting 55 [] [v1, .bool false] gW (gA + 1) v0 (if K = 1 ∧ N < 0 then true else false) (if K = 1 ∧ N < 0 then z0 else z0 ++ itemF K N bs) w4.drew) :=
                      apart.putting_any (T := 55) (pre := []) (post := [v1, .bool false]) gW (gA + 1) v0 false z0 K N Ax lx cx bs w4.drew ⟨bW4.grew hd4, (hBo4.grew hd4).a.row, fun b e => by have := (hvlt b e).1; omega⟩ (by have := hd4.size; omega) hNum HOK.out.len hlx HOK.out.bytes hNr hKr (by omega)
                    have hPUT := Lib.hid hPut
                    have hxoff : ¬ Wt gW v0 xb := by
                      rintro (f | f)
                      · omega
                      · have := (hBo1.a.lt.1 _ f).2; omega
                    obtain ⟨AN, cN, hNe, hcN, hNI⟩ := hBo4.a.now.open_
                    obtain ⟨i3, hi, hz0, hz1, hz2⟩ := info_parts Try.infoItem
                    have HNE := Lib.hid hNe
                    clear hPut hNum hOk hNe
                    go_wp2_with fail
                    refine start_ (ds := []) (S := (fun w' => w'.cell? ⟨xb, 0, Option.none⟩ = some (.int .i64 K) ∧ w'.cell? ⟨xb, 1, Option.none⟩ = some (.int .i64 N) ∧ w'.cell? ⟨xb, 2, Option.none⟩ = some (.slice Ax lx cx))) #[false, false, false, false, false] (by kernel_rfl) rfl rfl (⟨(hxb4.grew hd4).cell 0 _ rfl, (hxb4.grew hd4).cell 1 _ rfl, (hxb4.grew hd4).cell 2 _ rfl⟩) (fun hS0 => ?_)
                    refine pure_ (i := 0) (N := some 77) (v := .int .i64 0) #[true, false, false, false, false] rfl rfl (by kernel_rfl) (fun _ _ _ h => h) (Or.inl ⟨wanted_none rfl, fun w => by rfl⟩) rfl ?_
                    try simp only [Act.put, List.setIfInBounds_toArray, List.set_cons_zero, List.set_cons_succ]
                    refine pure_ (i := 1) (N := some 78) (v := .pointer (some ⟨gW, 0, Option.none⟩)) #[true, true, false, false, false] rfl rfl (by kernel_rfl) (fun _ _ _ h => h) (Or.inl ⟨wanted_none rfl, fun w => by go_simp⟩) rfl ?_
                    try simp only [Act.put, List.setIfInBounds_toArray, List.set_cons_zero, List.set_cons_succ]
                    refine take_ (i := 2) (N := some 79) (v := .agg #[.int .i64 K, .int .i64 N, .slice Ax lx cx]) #[true, true, true, false, false] rfl rfl (by kernel_rfl) (fun _ _ _ h => h) (Or.inl ⟨wanted_none rfl, by intro w' hSw; go_split_ands; go_simp⟩) hS0 rfl ?_
                    try simp only [Act.put, List.setIfInBounds_toArray, List.set_cons_zero, List.set_cons_succ]
                    refine one_ (i := 3) (oi := ({ dst := some 80, op := Op.call { callee := Callee.value (Operand.func 19), args := #[Operand.tmp 78, Operand.tmp 79], argTypes := #[34, 32] }, type := 4, pos := "outright.go:165", after := #[{ on := 1, ground := Ground.data }, { on := 2, ground := Ground.data }], guard := Option.none } : Oper)) (N := some 80) #[true, true, true, true, false] rfl rfl (by kernel_rfl) (by decide) ?_
                    intro KK hKK
                    refine goes_ Try.func19 (by kernel_rfl) rfl #[.pointer (some ⟨gW, 0, Option.none⟩), .agg #[.int .i64 K, .int .i64 N, .slice Ax lx cx]] (wanted_none rfl) rfl rfl (by simp [Act.eval]) ?_
                    refine (hPUT.out).mono ?_
                    rintro e w5 ⟨rfl, v', hP, hk5, hn5⟩
                    rw [if_neg (fun h => by have := HNP.out h.1; omega), if_neg (fun h => by have := HNP.out h.1; omega)] at hP
                    have hxb5 := (hxb4.grew hd4).keeps hk5 hxoff
                    refine ⟨_, rfl, hKK.out _ _ (⟨hxb5.cell 0 _ rfl, hxb5.cell 1 _ rfl, hxb5.cell 2 _ rfl⟩) (fun hS1 => ?_)⟩
                    try simp only [Act.put, List.setIfInBounds_toArray, List.set_cons_zero, List.set_cons_succ]
                    refine pure_ (i := 4) (N := some 81) (v := .bool false) #[true, true, true, true, true] rfl rfl (by kernel_rfl) (fun _ _ _ h => h) (Or.inl ⟨wanted_none rfl, fun w => by go_simp⟩) rfl ?_
                    try simp only [Act.put, List.setIfInBounds_toArray, List.set_cons_zero, List.set_cons_succ]
                    refine done_ (by kernel_rfl) ?_
                    go_wp2_with fail
                    have s45 := hk5.size
                    have s44 := hd4.size
                    obtain ⟨hN5, hO5, p3, p4, p5⟩ := Both.put (g := gW) (hBo4.grew hd4) (by omega) hP.2.1 hk5 hn5
                    have hnlt := fun b (e : n0.ownBlock = some b) => World.ownsRow.lt hN5 b e
                    have bW5 : Blk w5 gW 55 [v', .bool false, v1, .bool false] := hP.1
                    have wtoff : ∀ i, i < gA + 1 → i ≠ gW → ¬ Wt gW v0 i := fun i h1 h2 e => by
                      rcases e with e | e
                      · exact h2 e
                      · have := (hvlt i e).1; omega
                    have bN5 := (bN4.grew hd4).keeps hk5 (wtoff gN (by omega) (by omega))
                    have bL5 := (bL4.grew hd4).keeps hk5 (wtoff gL (by omega) (by omega))
                    have bA5 := (bA4.grew hd4).keeps hk5 (wtoff gA (by omega) (by omega))
                    have h56 : Keeps None w5 (w5.drew.alloc (.cells #[.int .i64 K, .int .i64 N, .slice Ax lx cx] 32)) := (Keeps.refl None w5).drew.alloc _
                    have hnlt2 := fun b (e : n0.ownBlock = some b) => (hBo1.a.lt.2 b e).2
                    have hne := HNE.out
                    clear HNE
                    subst hne
                    have hnx := fun e => hnlt2 xb e
                    clear hnlt2
                    go_wp2_with fail
                    refine start_ (ds := [8]) (S := (fun w' => w'.cell? ⟨gN, 0, Option.none⟩ = some (.slice AN got0.length cN) ∧ w'.cell? ⟨xb, 0, Option.none⟩ = some (.int .i64 K) ∧ w'.cell? ⟨xb, 1, Option.none⟩ = some (.int .i64 N) ∧ w'.cell? ⟨xb, 2, Option.none⟩ = some (.slice Ax lx cx))) #[false, false, false, false, false, false, false, false, false] (by kernel_rfl) rfl rfl (⟨(bN5.grew ((Keeps.refl None w5).drew)).cell 0 _ rfl, (hxb5.grew ((Keeps.refl None w5).drew)).cell 0 _ rfl, (hxb5.grew ((Keeps.refl None w5).drew)).cell 1 _ rfl, (hxb5.grew ((Keeps.refl None w5).drew)).cell 2 _ rfl⟩) (fun hS0 => ?_)
                    refine pure_ (i := 0) (N := some 82) (v := .int .i64 0) #[true, false, false, false, false, false, false, false, false] rfl rfl (by kernel_rfl) (fun _ _ _ h => h) (Or.inl ⟨wanted_none rfl, fun w => by rfl⟩) rfl ?_
                    try simp only [Act.put, List.setIfInBounds_toArray, List.set_cons_zero, List.set_cons_succ]
                    refine pure_ (i := 1) (N := some 83) (v := .int .i64 0) #[true, true, false, false, false, false, false, false, false] rfl rfl (by kernel_rfl) (fun _ _ _ h => h) (Or.inl ⟨wanted_none rfl, fun w => by rfl⟩) rfl ?_
                    try simp only [Act.put, List.setIfInBounds_toArray, List.set_cons_zero, List.set_cons_succ]
                    refine pure_ (i := 2) (N := some 84) (v := .pointer (some ⟨gN, 0, Option.none⟩)) #[true, true, true, false, false, false, false, false, false] rfl rfl (by kernel_rfl) (fun _ _ _ h => h) (Or.inl ⟨wanted_none rfl, fun w => by go_simp⟩) rfl ?_
                    try simp only [Act.put, List.setIfInBounds_toArray, List.set_cons_zero, List.set_cons_succ]
                    refine take_ (i := 3) (N := some 85) (v := .slice AN got0.length cN) #[true, true, true, true, false, false, false, false, false] rfl rfl (by kernel_rfl) (fun _ _ _ h => h) (Or.inl ⟨wanted_none rfl, by intro w' hSw; go_split_ands; go_simp⟩) hS0 rfl ?_
                    try simp only [Act.put, List.setIfInBounds_toArray, List.set_cons_zero, List.set_cons_succ]
                    refine take_ (i := 4) (N := some 86) (v := .agg #[.int .i64 K, .int .i64 N, .slice Ax lx cx]) #[true, true, true, true, true, false, false, false, false] rfl rfl (by kernel_rfl) (fun _ _ _ h => h) (Or.inl ⟨wanted_none rfl, by intro w' hSw; go_split_ands; go_simp⟩) hS0 rfl ?_
                    try simp only [Act.put, List.setIfInBounds_toArray, List.set_cons_zero, List.set_cons_succ]
                    refine one_ (i := 5) (oi := ({ dst := some 87, op := Op.buildSlice 28 1 #[(0, Operand.tmp 86)], type := 28, pos := "outright.go:168", after := #[{ on := 4, ground := Ground.data }], guard := Option.none } : Oper)) (N := some 87) #[true, true, true, true, true, true, false, false, false] rfl rfl (by kernel_rfl) (by decide) ?_
                    intro KK hKK
                    refine value_ (wanted_none rfl) rfl (w1 := (w5.drew).alloc (.cells #[.int .i64 K, .int .i64 N, .slice Ax lx cx] 32)) (v := .slice (some ⟨(w5.drew).heap.size, 0, Option.none⟩) 1 1) (by go_simp) (hKK.out _ _ (⟨(bN5.grew ((((Keeps.refl None w5).drew).alloc _))).cell 0 _ rfl, (hxb5.grew ((((Keeps.refl None w5).drew).alloc _))).cell 0 _ rfl, (hxb5.grew ((((Keeps.refl None w5).drew).alloc _))).cell 1 _ rfl, (hxb5.grew ((((Keeps.refl None w5).drew).alloc _))).cell 2 _ rfl⟩) (fun hS1 => ?_))
                    try simp only [Act.put, List.setIfInBounds_toArray, List.set_cons_zero, List.set_cons_succ]
                    refine one_ (i := 6) (oi := ({ dst := some 88, op := Op.call { callee := Callee.builtin Builtin.append, args := #[Operand.tmp 85, Operand.tmp 87], argTypes := #[28, 28] }, type := 28, pos := "outright.go:168", after := #[{ on := 3, ground := Ground.data }, { on := 5, ground := Ground.data }], guard := Option.none } : Oper)) (N := some 88) #[true, true, true, true, true, true, true, false, false] rfl rfl (by kernel_rfl) (by decide) ?_
                    intro KK hKK
                    refine step_append_row _ (wanted_none rfl) rfl (.tmp 85) (.tmp 87) 28 rfl (gA + 1) 32 i3 (.agg #[.int .i64 0, .int .i64 0, .slice Option.none 0 0]) 3 40 Try.underlying28 hi hz0 hz1 hz2 rfl (by decide) _ got0.length _ rfl (hN5.keeps h56 (fun _ _ f => f)) (some ⟨w5.drew.heap.size, 0, Option.none⟩) 1 1 [.int .i64 K, .int .i64 N, .slice Ax lx cx] rfl rfl (fun e => by cases e) (src_new w5.drew 32 _ _ rfl) (by intro u hu; simp at hu; rcases hu with rfl | rfl | rfl <;> rfl) (by unfold maxLen; omega) (by omega) (by have := h56.size; omega) ?_
                    intro n' w7 hown hk7 hloc
                    obtain ⟨A', c', rfl⟩ := owns_slice hown
                    have bN7 := (bN5.grew h56).keeps hk7 (fun e => by have := (hnlt _ e).1; omega)
                    have hxb7 := (hxb5.grew h56).keeps hk7 (fun e => by have := hnx e; omega)
                    have fN := bN7.free 0
                    have cNN := bN7.cell 0 _ rfl
                    refine hKK.out _ _ (⟨bN7.cell 0 _ rfl, hxb7.cell 0 _ rfl, hxb7.cell 1 _ rfl, hxb7.cell 2 _ rfl⟩) (fun hS2 => ?_)
                    try simp only [Act.put, List.setIfInBounds_toArray, List.set_cons_zero, List.set_cons_succ]
                    refine pure_ (i := 7) (N := some 89) (v := .pointer (some ⟨gN, 0, Option.none⟩)) #[true, true, true, true, true, true, true, true, false] rfl rfl (by kernel_rfl) (fun _ _ _ h => h) (Or.inl ⟨wanted_none rfl, fun w => by go_simp⟩) rfl ?_
                    try simp only [Act.put, List.setIfInBounds_toArray, List.set_cons_zero, List.set_cons_succ]
                    refine last_ (i := 8) (oi := ({ dst := Option.none, op := Op.store 28 (Operand.tmp 89) (Operand.tmp 88), type := 0, pos := "outright.go:168", after := #[{ on := 7, ground := Ground.data }, { on := 6, ground := Ground.data }, { on := 6, ground := Ground.chain }, { on := 0, ground := Ground.phase }, { on := 1, ground := Ground.phase }, { on := 2, ground := Ground.phase }, { on := 3, ground := Ground.phase }, { on := 4, ground := Ground.phase }, { on := 5, ground := Ground.phase }, { on := 6, ground := Ground.phase }], guard := Option.none } : Oper)) (N := Option.none) #[true, true, true, true, true, true, true, true, true] rfl rfl (by kernel_rfl) (by decide) ?_
                    intro KK hKK
                    refine skip_ (wanted_none rfl) rfl (w1 := w7.setCell ⟨gN, 0, Option.none⟩ (.slice A' (got0.length + 1) c')) (by go_simp) (hKK.out _ _ ?_)
                    try simp only [Act.put, List.setIfInBounds_toArray, List.set_cons_zero, List.set_cons_succ]
                    refine done_ (by kernel_rfl) ?_
                    obtain ⟨hB7, hk47⟩ := Both.more (g := gW) ⟨K, N, Ax, lx, cx, bs⟩ (hBo4.grew hd4) ⟨HOK.out, hKr, HNP.out⟩ (by omega) hP.2.1 hk5 hn5 h56 hown hk7 hloc
                    have up : ∀ i, i < gA + 1 → i ≠ gW → ¬ Up gW (gA + 1) i := fun i h1 h2 e => by
                      rcases e with e | e <;> omega
                    have hkN : Keeps (One gN) w7 (w7.setCell ⟨gN, 0, Option.none⟩ (.slice A' (got0.length + 1) c')) := (Keeps.refl _ _).setCell _ _ (fun _ => rfl)
                    have bW7 : Blk w7 gW 55 [v', .bool false, v1, .bool false] := (bW5.grew h56).keeps hk7 (fun e => by have := (hnlt _ e).1; omega)
                    have bL8 := ((bL4.grew hd4).keeps hk47 (up gL (by omega) (by omega))).keeps hkN (fun e => by have : gL = gN := e; omega)
                    have bA8 := ((bA4.grew hd4).keeps hk47 (up gA (by omega) (by omega))).keeps hkN (fun e => by have : gA = gN := e; omega)
                    have bW8 := bW7.keeps hkN (fun e => by have : gW = gN := e; omega)
                    have hB8 := hB7.keeps hkN (fun i e => by have : i = gN := e; omega)
                    have hK8 : Keeps None w _ := ((hK4.trans hd4).andThen hk47 (fun i hi e => by rcases e with e | e <;> omega)).andThen hkN (fun i hi e => by have : i = gN := e; omega)
                    have bN8 := bN7.set 0 (.slice A' (got0.length + 1) c')
                    go_wp2_with fail
                    go_roundw
                    case rel => exact ⟨k + 1, by omega, by go_num, ⟨j0 + 1, j1, _, _, _, _, _, _, _, _, by omega, hj1, bW8, bN8, bL8, bA8, hB8, hK8⟩⟩
                    case measure => simp [intOf]; omega
                  · go_wp2_with fail
                    go_roundw
                    case rel => exact ⟨k + 1, by omega, by go_num, ⟨j0 + 1, j1, v0, n0, v1, n1, z0, z1, got0, got1, by omega, hj1, bW4, bN4, bL4, bA4, hBo4.next, hK4⟩⟩
                    case measure => simp [intOf]; omega
              · go_wp2_with fail
                go_quiet (fail)
                go_wp2_with fail
                go_meet
                exact ⟨k, hk4, ⟨j0, j1, v0, n0, v1, n1, z0, z1, got0, got1, hj0, hj1, bW1.grew ((Keeps.refl _ _).drewN _), bN1.grew ((Keeps.refl _ _).drewN _), bL1.grew ((Keeps.refl _ _).drewN _), bA1.grew ((Keeps.refl _ _).drewN _), hBo1.grew ((Keeps.refl _ _).drewN _), hK1.trans ((Keeps.refl _ _).drewN _)⟩⟩
            · have a0 := bA1.cell 1 _ rfl
              have l0 := bL1.cell 1 _ rfl
              by_cases hjl : j1 < jts.length
              · obtain ⟨x, hx⟩ : ∃ x, jts[j1]? = some x := ⟨_, List.getElem?_eq_getElem hjl⟩
                have raw := HRB.out x (List.mem_of_getElem? hx)
                obtain ⟨kind, nn, Ax, lx, cx, bs⟩ := x
                obtain ⟨b, o, rfl, c0, c1, c2⟩ := (HIB.out.grew hK1) j1 _ hx
                clear hx
                simp only at c0 c1 c2
                have HR := Lib.hid raw
                have rn := raw.n
                simp only at rn
                clear raw
                go_wp2_with fail
                go_quiet (fail)
                go_wp2_with fail
                obtain ⟨w2, hw2⟩ : ∃ w2, w2 = w1.drewN nq := ⟨_, rfl⟩
                have hd2 : Keeps None w1 w2 := by rw [hw2]; exact (Keeps.refl _ _).drewN nq
                rw [← hw2]
                clear hw2
                obtain ⟨K, hKK⟩ : ∃ K, K = rightK kind := ⟨_, rfl⟩
                obtain ⟨N, hNN⟩ : ∃ N, N = rightN kind nn := ⟨_, rfl⟩
                have hKr : 1 ≤ K ∧ K ≤ 4 := by rw [hKK]; exact rightK_in kind
                have hNr : -9223372036854775808 ≤ N ∧ N ≤ 9223372036854775807 := by rw [hNN]; exact rightN_in kind nn rn
                have hNp : K = 1 → 0 ≤ N := by rw [hKK, hNN]; exact rightN_pos kind nn
                have HNP := Lib.hid hNp
                have HKN := Lib.hid (And.intro hKK hNN)
                clear hKK hNN hNp
                have held : ∀ w', Keeps None w2 w' → (w'.cell? ⟨gA, 1, Option.none⟩ = some (.int .i64 j1) ∧ w'.cell? ⟨gL, 1, Option.none⟩ = some (.slice (some ⟨b, o, Option.none⟩) jts.length cap') ∧ w'.cell? ⟨b, o + j1 * 3, Option.none⟩ = some (.int .i64 kind) ∧ w'.cell? ⟨b, o + j1 * 3 + 1, Option.none⟩ = some (.int .i64 nn) ∧ w'.cell? ⟨b, o + j1 * 3 + 2, Option.none⟩ = some (.slice Ax lx cx)) :=
                  fun w' h => ⟨(hd2.trans h).cell a0 id, (hd2.trans h).cell l0 id, (hd2.trans h).cell c0 id, (hd2.trans h).cell c1 id, (hd2.trans h).cell c2 id⟩
                have HELD := Lib.hid held
                clear held
                go_upto_region 14 with (fail)
                go_cut [13] (fun x wx => ∃ xb, x = .pointer (some ⟨xb, 0, Option.none⟩) ∧ Blk wx xb 32 [.int .i64 K, .int .i64 N, .slice Ax lx cx] ∧ w2.heap.size ≤ xb ∧ Keeps None w2 wx)
                case first =>
                  refine start_ (ds := []) (S := (fun w' => w'.cell? ⟨gA, 1, Option.none⟩ = some (.int .i64 j1) ∧ w'.cell? ⟨gL, 1, Option.none⟩ = some (.slice (some ⟨b, o, Option.none⟩) jts.length cap') ∧ w'.cell? ⟨b, o + j1 * 3, Option.none⟩ = some (.int .i64 kind) ∧ w'.cell? ⟨b, o + j1 * 3 + 1, Option.none⟩ = some (.int .i64 nn) ∧ w'.cell? ⟨b, o + j1 * 3 + 2, Option.none⟩ = some (.slice Ax lx cx))) #[false, false, false, false, false, false, false, false, false, false, false] (by kernel_rfl) rfl rfl (HELD.out _ ((Keeps.refl None w2).drew)) (fun hS0 => ?_)
                  refine pure_ (i := 0) (N := some 58) (v := .int .i64 1) #[true, false, false, false, false, false, false, false, false, false, false] rfl rfl (by kernel_rfl) (fun _ _ _ h => h) (Or.inl ⟨wanted_none rfl, fun w => by rfl⟩) rfl ?_
                  try simp only [Act.put, List.setIfInBounds_toArray, List.set_cons_zero, List.set_cons_succ]
                  refine pure_ (i := 1) (N := some 59) (v := .pointer (some ⟨gL, 1, Option.none⟩)) #[true, true, false, false, false, false, false, false, false, false, false] rfl rfl (by kernel_rfl) (fun _ _ _ h => h) (Or.inl ⟨wanted_none rfl, fun w => by go_simp⟩) rfl ?_
                  try simp only [Act.put, List.setIfInBounds_toArray, List.set_cons_zero, List.set_cons_succ]
                  refine take_ (i := 2) (N := some 60) (v := .slice (some ⟨b, o, Option.none⟩) jts.length cap') #[true, true, true, false, false, false, false, false, false, false, false] rfl rfl (by kernel_rfl) (fun _ _ _ h => h) (Or.inl ⟨wanted_none rfl, by intro w' hSw; go_split_ands; go_simp⟩) hS0 rfl ?_
                  try simp only [Act.put, List.setIfInBounds_toArray, List.set_cons_zero, List.set_cons_succ]
                  refine pure_ (i := 3) (N := some 61) (v := .int .i64 1) #[true, true, true, true, false, false, false, false, false, false, false] rfl rfl (by kernel_rfl) (fun _ _ _ h => h) (Or.inl ⟨wanted_none rfl, fun w => by rfl⟩) rfl ?_
                  try simp only [Act.put, List.setIfInBounds_toArray, List.set_cons_zero, List.set_cons_succ]
                  refine pure_ (i := 4) (N := some 62) (v := .pointer (some ⟨gA, 1, Option.none⟩)) #[true, true, true, true, true, false, false, false, false, false, false] rfl rfl (by kernel_rfl) (fun _ _ _ h => h) (Or.inl ⟨wanted_none rfl, fun w => by go_simp⟩) rfl ?_
                  try simp only [Act.put, List.setIfInBounds_toArray, List.set_cons_zero, List.set_cons_succ]
                  refine take_ (i := 5) (N := some 63) (v := .int .i64 j1) #[true, true, true, true, true, true, false, false, false, false, false] rfl rfl (by kernel_rfl) (fun _ _ _ h => h) (Or.inl ⟨wanted_none rfl, by intro w' hSw; go_split_ands; go_simp⟩) hS0 rfl ?_
                  try simp only [Act.put, List.setIfInBounds_toArray, List.set_cons_zero, List.set_cons_succ]
                  refine pure_ (i := 6) (N := some 64) (v := .pointer (some ⟨b, o + j1 * 3, Option.none⟩)) #[true, true, true, true, true, true, true, false, false, false, false] rfl rfl (by kernel_rfl) (fun _ _ _ h => h) (Or.inl ⟨wanted_none rfl, fun w => by go_simp⟩) rfl ?_
                  try simp only [Act.put, List.setIfInBounds_toArray, List.set_cons_zero, List.set_cons_succ]
                  refine take_ (i := 7) (N := some 65) (v := .agg #[.int .i64 kind, .int .i64 nn, .slice Ax lx cx]) #[true, true, true, true, true, true, true, true, false, false, false] rfl rfl (by kernel_rfl) (fun _ _ _ h => h) (Or.inl ⟨wanted_none rfl, by intro w' hSw; go_split_ands; go_simp⟩) hS0 rfl ?_
                  try simp only [Act.put, List.setIfInBounds_toArray, List.set_cons_zero, List.set_cons_succ]
                  refine two_ (i := 8) (j := 9) (oi := ({ dst := some 66, op := Op.call { callee := Callee.value (Operand.func 29), args := #[Operand.tmp 65], argTypes := #[32] }, type := 32, pos := "outright.go:160", after := #[{ on := 7, ground := Ground.data }], guard := Option.none } : Oper)) (oj := ({ dst := some 13, op := Op.alloc 32, type := 0, pos := "outright.go:160", after := #[], guard := Option.none } : Oper)) (Ni := some 66) (Nj := some 13) #[true, true, true, true, true, true, true, true, true, false, false] #[true, true, true, true, true, true, true, true, false, true, false] rfl rfl rfl rfl (by kernel_rfl) (by decide) (by decide) ?_ ?_
                  · intro KK hKK
                    refine goes_ Try.func29 (by kernel_rfl) rfl #[.agg #[.int .i64 kind, .int .i64 nn, .slice Ax lx cx]] (wanted_none rfl) rfl rfl (by simp [Act.eval]) ?_
                    refine (right_any kind nn Ax lx cx _ rn).mono ?_
                    rintro e w3 ⟨rfl, hk3⟩
                    rw [← HKN.out.1, ← HKN.out.2]
                    have hK3 : Keeps None w2 w3 := ((Keeps.refl None w2).drew).trans hk3
                    refine ⟨_, rfl, hKK.out _ _ (HELD.out _ (hK3)) (fun hS1 => ?_)⟩
                    try simp only [Act.put, List.setIfInBounds_toArray, List.set_cons_zero, List.set_cons_succ]
                    refine one_ (i := 9) (oi := ({ dst := some 13, op := Op.alloc 32, type := 0, pos := "outright.go:160", after := #[], guard := Option.none } : Oper)) (N := some 13) #[true, true, true, true, true, true, true, true, true, true, false] rfl rfl (by kernel_rfl) (by decide) ?_
                    intro KK hKK
                    refine value_ (wanted_none rfl) rfl (w1 := (w3).alloc (.cells #[.int .i64 0, .int .i64 0, .slice Option.none 0 0] 32)) (v := .pointer (some ⟨(w3).heap.size, 0, Option.none⟩)) (by go_simp) (hKK.out _ _ (HELD.out _ (((hK3).alloc _))) (fun hS2 => ?_))
                    try simp only [Act.put, List.setIfInBounds_toArray, List.set_cons_zero, List.set_cons_succ]
                    refine one_ (i := 10) (oi := ({ dst := Option.none, op := Op.store 32 (Operand.tmp 13) (Operand.tmp 66), type := 0, pos := "outright.go:160", after := #[{ on := 9, ground := Ground.data }, { on := 8, ground := Ground.data }, { on := 8, ground := Ground.chain }, { on := 0, ground := Ground.phase }, { on := 1, ground := Ground.phase }, { on := 2, ground := Ground.phase }, { on := 3, ground := Ground.phase }, { on := 4, ground := Ground.phase }, { on := 5, ground := Ground.phase }, { on := 6, ground := Ground.phase }, { on := 7, ground := Ground.phase }, { on := 8, ground := Ground.phase }, { on := 9, ground := Ground.phase }], guard := Option.none } : Oper)) (N := Option.none) #[true, true, true, true, true, true, true, true, true, true, true] rfl rfl (by kernel_rfl) (by decide) ?_
                    intro KK hKK
                    refine skip_ (wanted_none rfl) rfl (w1 := w3.alloc (.cells #[.int .i64 K, .int .i64 N, .slice Ax lx cx] 32)) (by go_simp) (hKK.out _ _ (HELD.out _ (hK3.alloc _)) (fun hS3 => ?_))
                    try simp only [Act.put, List.setIfInBounds_toArray, List.set_cons_zero, List.set_cons_succ]
                    refine done_ (by kernel_rfl) ?_
                    go_wp2_with fail
                    go_meet
                    exact ⟨_, rfl, Blk.new w3 _ _, hK3.size, hK3.alloc _⟩
                  · intro KK hKK
                    refine value_ (wanted_none rfl) rfl (w1 := (w2.drew).alloc (.cells #[.int .i64 0, .int .i64 0, .slice Option.none 0 0] 32)) (v := .pointer (some ⟨(w2.drew).heap.size, 0, Option.none⟩)) (by go_simp) (hKK.out _ _ (HELD.out _ ((((Keeps.refl None w2).drew).alloc _))) (fun hS4 => ?_))
                    try simp only [Act.put, List.setIfInBounds_toArray, List.set_cons_zero, List.set_cons_succ]
                    refine one_ (i := 8) (oi := ({ dst := some 66, op := Op.call { callee := Callee.value (Operand.func 29), args := #[Operand.tmp 65], argTypes := #[32] }, type := 32, pos := "outright.go:160", after := #[{ on := 7, ground := Ground.data }], guard := Option.none } : Oper)) (N := some 66) #[true, true, true, true, true, true, true, true, true, true, false] rfl rfl (by kernel_rfl) (by decide) ?_
                    intro KK hKK
                    refine goes_ Try.func29 (by kernel_rfl) rfl #[.agg #[.int .i64 kind, .int .i64 nn, .slice Ax lx cx]] (wanted_none rfl) rfl rfl (by simp [Act.eval]) ?_
                    refine (right_any kind nn Ax lx cx _ rn).mono ?_
                    rintro e w3 ⟨rfl, hk3⟩
                    rw [← HKN.out.1, ← HKN.out.2]
                    have hK3 : Keeps None w2 w3 := ((((Keeps.refl None w2).drew).alloc _)).trans hk3
                    have hz3 : Blk w3 w2.heap.size 32 [.int .i64 0, .int .i64 0, .slice Option.none 0 0] := (Blk.new w2.drew 32 [.int .i64 0, .int .i64 0, .slice Option.none 0 0]).grew hk3
                    have q0 := hz3.free 0
                    have q1 := hz3.free 1
                    have q2 := hz3.free 2
                    have r0 := hz3.cell 0 _ rfl
                    have r1 := hz3.cell 1 _ rfl
                    have r2 := hz3.cell 2 _ rfl
                    refine ⟨_, rfl, hKK.out _ _ (HELD.out _ (hK3)) (fun hS5 => ?_)⟩
                    try simp only [Act.put, List.setIfInBounds_toArray, List.set_cons_zero, List.set_cons_succ]
                    refine one_ (i := 10) (oi := ({ dst := Option.none, op := Op.store 32 (Operand.tmp 13) (Operand.tmp 66), type := 0, pos := "outright.go:160", after := #[{ on := 9, ground := Ground.data }, { on := 8, ground := Ground.data }, { on := 8, ground := Ground.chain }, { on := 0, ground := Ground.phase }, { on := 1, ground := Ground.phase }, { on := 2, ground := Ground.phase }, { on := 3, ground := Ground.phase }, { on := 4, ground := Ground.phase }, { on := 5, ground := Ground.phase }, { on := 6, ground := Ground.phase }, { on := 7, ground := Ground.phase }, { on := 8, ground := Ground.phase }, { on := 9, ground := Ground.phase }], guard := Option.none } : Oper)) (N := Option.none) #[true, true, true, true, true, true, true, true, true, true, true] rfl rfl (by kernel_rfl) (by decide) ?_
                    intro KK hKK
                    refine skip_ (wanted_none rfl) rfl (w1 := ((w3.setCell ⟨w2.heap.size, 0, Option.none⟩ (.int .i64 K)).setCell ⟨w2.heap.size, 1, Option.none⟩ (.int .i64 N)).setCell ⟨w2.heap.size, 2, Option.none⟩ (.slice Ax lx cx)) (by go_simp) (hKK.out _ _ (HELD.out _ (((hK3.setCell ⟨w2.heap.size, 0, Option.none⟩ (.int .i64 K) (by simp)).setCell ⟨w2.heap.size, 1, Option.none⟩ (.int .i64 N) (by simp)).setCell ⟨w2.heap.size, 2, Option.none⟩ (.slice Ax lx cx) (by simp))) (fun hS6 => ?_))
                    try simp only [Act.put, List.setIfInBounds_toArray, List.set_cons_zero, List.set_cons_succ]
                    refine done_ (by kernel_rfl) ?_
                    go_wp2_with fail
                    go_meet
                    exact ⟨_, rfl, ((hz3.set 0 _).set 1 _).set 2 _, Nat.le_refl _, ((hK3.setCell ⟨w2.heap.size, 0, Option.none⟩ (.int .i64 K) (by simp)).setCell ⟨w2.heap.size, 1, Option.none⟩ (.int .i64 N) (by simp)).setCell ⟨w2.heap.size, 2, Option.none⟩ (.slice Ax lx cx) (by simp)⟩
                case rest =>
                  obtain ⟨xb, rfl, hxb, hxl, hk3⟩ := hcut
                  have hk13 := hd2.trans hk3
                  have bW3 := bW1.grew hk13
                  have bN3 := bN1.grew hk13
                  have bL3 := bL1.grew hk13
                  have bA3 := bA1.grew hk13
                  have hBo3 := hBo1.grew hk13
                  have hK3 := hK1.trans hk13
                  have fA := bA3.free 1
                  have cA := bA3.cell 1 _ rfl
                  have gl1 := bW1.lt
                  have gl2 := bN1.lt
                  have gl3 := bL1.lt
                  have gl4 := bA1.lt
                  have s13 := hk13.size
                  have s12 := hd2.size
                  have s23 := hk3.size
                  have xlt := hxb.lt
                  have hka : Keeps (One gA) wc (wc.setCell ⟨gA, 1, Option.none⟩ (.int .i64 (j1 + 1))) := (Keeps.refl _ _).setCell _ _ (fun _ => rfl)
                  obtain ⟨w4, hw4⟩ : ∃ w4, w4 = wc.setCell ⟨gA, 1, Option.none⟩ (.int .i64 (j1 + 1)) := ⟨_, rfl⟩
                  have bW4 := bW3.keeps hka (fun e => by have : gW = gA := e; omega)
                  have bN4 := bN3.keeps hka (fun e => by have : gN = gA := e; omega)
                  have bL4 := bL3.keeps hka (fun e => by have : gL = gA := e; omega)
                  have bA4 := bA3.set 1 (.int .i64 (j1 + 1))
                  have hxb4 := hxb.keeps hka (fun e => by have : xb = gA := e; omega)
                  have hBo4 := hBo3.keeps hka (fun i e => by have : i = gA := e; omega)
                  have hK4 := hK3.andThen hka (fun i hi e => by have : i = gA := e; omega)
                  have s4 := hka.size
                  rw [← hw4] at bW4 bN4 bL4 bA4 hxb4 hBo4 hK4 s4
                  have HW4 := Lib.hid hw4
                  have e2 := hxb4.cell 2 _ rfl
                  clear hw4 hka bW3 bN3 bL3 bA3 hBo3 hK3 hxb
                  go_upto_region 16 with (fail)
                  rw [← HW4.out]
                  by_cases hlx : lx ≤ 65536
                  · have hd4 : Keeps None w4 w4.drew := (Keeps.refl None w4).drew
                    have hlt4 := hBo4.b.lt
                    have hlo4 := hBo4.a.lt
                    have hvlt := fun b (e : v1.ownBlock = some b) => hlt4.1 b e
                    have hNum : ∀ w', Keeps (Wt gW v1) w4.drew w' → Nums .u8 w' Ax bs := fun w' h =>
                      HR.out.nums.grew ((hK4.trans hd4).andThen h (fun i hi e => by
                        rcases e with e | e
                        · omega
                        · have := (hvlt i e).1; omega))
                    have hOk : It.Ok w ⟨K, N, Ax, lx, cx, bs⟩ := ⟨HR.out.nums, HR.out.len, HR.out.bytes, HR.out.nil, hNr, hlx⟩
                    have HOK := Lib.hid hOk
                    have hzl := hBo4.b.zl
                    have hgl := hBo4.b.gl
                    have hPut : Calls Try.prog 19 #[.pointer (some ⟨gW, 2, Option.none⟩), .agg #[.int .i64 K, .int .i64 N, .slice Ax lx cx]] w4.drew (apart.Putting 55 [v0, .bool false] [] gW (gA + 1) v1 (if K = 1 ∧ N < 0 then true else false) (if K = 1 ∧ N < 0 then z1 else z1 ++ itemF K N bs) w4.drew) :=
                      apart.putting_any (T := 55) (pre := [v0, .bool false]) (post := []) gW (gA + 1) v1 false z1 K N Ax lx cx bs w4.drew ⟨bW4.grew hd4, (hBo4.grew hd4).b.row, fun b e => by have := (hvlt b e).1; omega⟩ (by have := hd4.size; omega) hNum HOK.out.len hlx HOK.out.bytes hNr hKr (by omega)
                    have hPUT := Lib.hid hPut
                    have hxoff : ¬ Wt gW v1 xb := by
                      rintro (f | f)
                      · omega
                      · have := (hBo1.b.lt.1 _ f).2; omega
                    obtain ⟨AN, cN, hNe, hcN, hNI⟩ := hBo4.b.now.open_
                    obtain ⟨i3, hi, hz0, hz1, hz2⟩ := info_parts Try.infoItem
                    have HNE := Lib.hid hNe
                    clear hPut hNum hOk hNe
                    go_wp2_with fail
                    refine start_ (ds := []) (S := (fun w' => w'.cell? ⟨xb, 0, Option.none⟩ = some (.int .i64 K) ∧ w'.cell? ⟨xb, 1, Option.none⟩ = some (.int .i64 N) ∧ w'.cell? ⟨xb, 2, Option.none⟩ = some (.slice Ax lx cx))) #[false, false, false, false, false] (by kernel_rfl) rfl rfl (⟨(hxb4.grew hd4).cell 0 _ rfl, (hxb4.grew hd4).cell 1 _ rfl, (hxb4.grew hd4).cell 2 _ rfl⟩) (fun hS0 => ?_)
                    refine pure_ (i := 0) (N := some 77) (v := .int .i64 1) #[true, false, false, false, false] rfl rfl (by kernel_rfl) (fun _ _ _ h => h) (Or.inl ⟨wanted_none rfl, fun w => by rfl⟩) rfl ?_
                    try simp only [Act.put, List.setIfInBounds_toArray, List.set_cons_zero, List.set_cons_succ]
                    refine pure_ (i := 1) (N := some 78) (v := .pointer (some ⟨gW, 2, Option.none⟩)) #[true, true, false, false, false] rfl rfl (by kernel_rfl) (fun _ _ _ h => h) (Or.inl ⟨wanted_none rfl, fun w => by go_simp⟩) rfl ?_
                    try simp only [Act.put, List.setIfInBounds_toArray, List.set_cons_zero, List.set_cons_succ]
                    refine take_ (i := 2) (N := some 79) (v := .agg #[.int .i64 K, .int .i64 N, .slice Ax lx cx]) #[true, true, true, false, false] rfl rfl (by kernel_rfl) (fun _ _ _ h => h) (Or.inl ⟨wanted_none rfl, by intro w' hSw; go_split_ands; go_simp⟩) hS0 rfl ?_
                    try simp only [Act.put, List.setIfInBounds_toArray, List.set_cons_zero, List.set_cons_succ]
                    refine one_ (i := 3) (oi := ({ dst := some 80, op := Op.call { callee := Callee.value (Operand.func 19), args := #[Operand.tmp 78, Operand.tmp 79], argTypes := #[34, 32] }, type := 4, pos := "outright.go:165", after := #[{ on := 1, ground := Ground.data }, { on := 2, ground := Ground.data }], guard := Option.none } : Oper)) (N := some 80) #[true, true, true, true, false] rfl rfl (by kernel_rfl) (by decide) ?_
                    intro KK hKK
                    refine goes_ Try.func19 (by kernel_rfl) rfl #[.pointer (some ⟨gW, 2, Option.none⟩), .agg #[.int .i64 K, .int .i64 N, .slice Ax lx cx]] (wanted_none rfl) rfl rfl (by simp [Act.eval]) ?_
                    refine (hPUT.out).mono ?_
                    rintro e w5 ⟨rfl, v', hP, hk5, hn5⟩
                    rw [if_neg (fun h => by have := HNP.out h.1; omega), if_neg (fun h => by have := HNP.out h.1; omega)] at hP
                    have hxb5 := (hxb4.grew hd4).keeps hk5 hxoff
                    refine ⟨_, rfl, hKK.out _ _ (⟨hxb5.cell 0 _ rfl, hxb5.cell 1 _ rfl, hxb5.cell 2 _ rfl⟩) (fun hS1 => ?_)⟩
                    try simp only [Act.put, List.setIfInBounds_toArray, List.set_cons_zero, List.set_cons_succ]
                    refine pure_ (i := 4) (N := some 81) (v := .bool false) #[true, true, true, true, true] rfl rfl (by kernel_rfl) (fun _ _ _ h => h) (Or.inl ⟨wanted_none rfl, fun w => by go_simp⟩) rfl ?_
                    try simp only [Act.put, List.setIfInBounds_toArray, List.set_cons_zero, List.set_cons_succ]
                    refine done_ (by kernel_rfl) ?_
                    go_wp2_with fail
                    have s45 := hk5.size
                    have s44 := hd4.size
                    obtain ⟨hN5, hO5, p3, p4, p5⟩ := Both.put (g := gW) (hBo4.swap.grew hd4) (by omega) hP.2.1 hk5 hn5
                    have hnlt := fun b (e : n1.ownBlock = some b) => World.ownsRow.lt hN5 b e
                    have bW5 : Blk w5 gW 55 [v0, .bool false, v', .bool false] := hP.1
                    have wtoff : ∀ i, i < gA + 1 → i ≠ gW → ¬ Wt gW v1 i := fun i h1 h2 e => by
                      rcases e with e | e
                      · exact h2 e
                      · have := (hvlt i e).1; omega
                    have bN5 := (bN4.grew hd4).keeps hk5 (wtoff gN (by omega) (by omega))
                    have bL5 := (bL4.grew hd4).keeps hk5 (wtoff gL (by omega) (by omega))
                    have bA5 := (bA4.grew hd4).keeps hk5 (wtoff gA (by omega) (by omega))
                    have h56 : Keeps None w5 (w5.drew.alloc (.cells #[.int .i64 K, .int .i64 N, .slice Ax lx cx] 32)) := (Keeps.refl None w5).drew.alloc _
                    have hnlt2 := fun b (e : n1.ownBlock = some b) => (hBo1.b.lt.2 b e).2
                    have hne := HNE.out
                    clear HNE
                    subst hne
                    have hnx := fun e => hnlt2 xb e
                    clear hnlt2
                    go_wp2_with fail
                    refine start_ (ds := [8]) (S := (fun w' => w'.cell? ⟨gN, 1, Option.none⟩ = some (.slice AN got1.length cN) ∧ w'.cell? ⟨xb, 0, Option.none⟩ = some (.int .i64 K) ∧ w'.cell? ⟨xb, 1, Option.none⟩ = some (.int .i64 N) ∧ w'.cell? ⟨xb, 2, Option.none⟩ = some (.slice Ax lx cx))) #[false, false, false, false, false, false, false, false, false] (by kernel_rfl) rfl rfl (⟨(bN5.grew ((Keeps.refl None w5).drew)).cell 1 _ rfl, (hxb5.grew ((Keeps.refl None w5).drew)).cell 0 _ rfl, (hxb5.grew ((Keeps.refl None w5).drew)).cell 1 _ rfl, (hxb5.grew ((Keeps.refl None w5).drew)).cell 2 _ rfl⟩) (fun hS0 => ?_)
                    refine pure_ (i := 0) (N := some 82) (v := .int .i64 1) #[true, false, false, false, false, false, false, false, false] rfl rfl (by kernel_rfl) (fun _ _ _ h => h) (Or.inl ⟨wanted_none rfl, fun w => by rfl⟩) rfl ?_
                    try simp only [Act.put, List.setIfInBounds_toArray, List.set_cons_zero, List.set_cons_succ]
                    refine pure_ (i := 1) (N := some 83) (v := .int .i64 1) #[true, true, false, false, false, false, false, false, false] rfl rfl (by kernel_rfl) (fun _ _ _ h => h) (Or.inl ⟨wanted_none rfl, fun w => by rfl⟩) rfl ?_
                    try simp only [Act.put, List.setIfInBounds_toArray, List.set_cons_zero, List.set_cons_succ]
                    refine pure_ (i := 2) (N := some 84) (v := .pointer (some ⟨gN, 1, Option.none⟩)) #[true, true, true, false, false, false, false, false, false] rfl rfl (by kernel_rfl) (fun _ _ _ h => h) (Or.inl ⟨wanted_none rfl, fun w => by go_simp⟩) rfl ?_
                    try simp only [Act.put, List.setIfInBounds_toArray, List.set_cons_zero, List.set_cons_succ]
                    refine take_ (i := 3) (N := some 85) (v := .slice AN got1.length cN) #[true, true, true, true, false, false, false, false, false] rfl rfl (by kernel_rfl) (fun _ _ _ h => h) (Or.inl ⟨wanted_none rfl, by intro w' hSw; go_split_ands; go_simp⟩) hS0 rfl ?_
                    try simp only [Act.put, List.setIfInBounds_toArray, List.set_cons_zero, List.set_cons_succ]
                    refine take_ (i := 4) (N := some 86) (v := .agg #[.int .i64 K, .int .i64 N, .slice Ax lx cx]) #[true, true, true, true, true, false, false, false, false] rfl rfl (by kernel_rfl) (fun _ _ _ h => h) (Or.inl ⟨wanted_none rfl, by intro w' hSw; go_split_ands; go_simp⟩) hS0 rfl ?_
                    try simp only [Act.put, List.setIfInBounds_toArray, List.set_cons_zero, List.set_cons_succ]
                    refine one_ (i := 5) (oi := ({ dst := some 87, op := Op.buildSlice 28 1 #[(0, Operand.tmp 86)], type := 28, pos := "outright.go:168", after := #[{ on := 4, ground := Ground.data }], guard := Option.none } : Oper)) (N := some 87) #[true, true, true, true, true, true, false, false, false] rfl rfl (by kernel_rfl) (by decide) ?_
                    intro KK hKK
                    refine value_ (wanted_none rfl) rfl (w1 := (w5.drew).alloc (.cells #[.int .i64 K, .int .i64 N, .slice Ax lx cx] 32)) (v := .slice (some ⟨(w5.drew).heap.size, 0, Option.none⟩) 1 1) (by go_simp) (hKK.out _ _ (⟨(bN5.grew ((((Keeps.refl None w5).drew).alloc _))).cell 1 _ rfl, (hxb5.grew ((((Keeps.refl None w5).drew).alloc _))).cell 0 _ rfl, (hxb5.grew ((((Keeps.refl None w5).drew).alloc _))).cell 1 _ rfl, (hxb5.grew ((((Keeps.refl None w5).drew).alloc _))).cell 2 _ rfl⟩) (fun hS1 => ?_))
                    try simp only [Act.put, List.setIfInBounds_toArray, List.set_cons_zero, List.set_cons_succ]
                    refine one_ (i := 6) (oi := ({ dst := some 88, op := Op.call { callee := Callee.builtin Builtin.append, args := #[Operand.tmp 85, Operand.tmp 87], argTypes := #[28, 28] }, type := 28, pos := "outright.go:168", after := #[{ on := 3, ground := Ground.data }, { on := 5, ground := Ground.data }], guard := Option.none } : Oper)) (N := some 88) #[true, true, true, true, true, true, true, false, false] rfl rfl (by kernel_rfl) (by decide) ?_
                    intro KK hKK
                    refine step_append_row _ (wanted_none rfl) rfl (.tmp 85) (.tmp 87) 28 rfl (gA + 1) 32 i3 (.agg #[.int .i64 0, .int .i64 0, .slice Option.none 0 0]) 3 40 Try.underlying28 hi hz0 hz1 hz2 rfl (by decide) _ got1.length _ rfl (hN5.keeps h56 (fun _ _ f => f)) (some ⟨w5.drew.heap.size, 0, Option.none⟩) 1 1 [.int .i64 K, .int .i64 N, .slice Ax lx cx] rfl rfl (fun e => by cases e) (src_new w5.drew 32 _ _ rfl) (by intro u hu; simp at hu; rcases hu with rfl | rfl | rfl <;> rfl) (by unfold maxLen; omega) (by omega) (by have := h56.size; omega) ?_
                    intro n' w7 hown hk7 hloc
                    obtain ⟨A', c', rfl⟩ := owns_slice hown
                    have bN7 := (bN5.grew h56).keeps hk7 (fun e => by have := (hnlt _ e).1; omega)
                    have hxb7 := (hxb5.grew h56).keeps hk7 (fun e => by have := hnx e; omega)
                    have fN := bN7.free 1
                    have cNN := bN7.cell 1 _ rfl
                    refine hKK.out _ _ (⟨bN7.cell 1 _ rfl, hxb7.cell 0 _ rfl, hxb7.cell 1 _ rfl, hxb7.cell 2 _ rfl⟩) (fun hS2 => ?_)
                    try simp only [Act.put, List.setIfInBounds_toArray, List.set_cons_zero, List.set_cons_succ]
                    refine pure_ (i := 7) (N := some 89) (v := .pointer (some ⟨gN, 1, Option.none⟩)) #[true, true, true, true, true, true, true, true, false] rfl rfl (by kernel_rfl) (fun _ _ _ h => h) (Or.inl ⟨wanted_none rfl, fun w => by go_simp⟩) rfl ?_
                    try simp only [Act.put, List.setIfInBounds_toArray, List.set_cons_zero, List.set_cons_succ]
                    refine last_ (i := 8) (oi := ({ dst := Option.none, op := Op.store 28 (Operand.tmp 89) (Operand.tmp 88), type := 0, pos := "outright.go:168", after := #[{ on := 7, ground := Ground.data }, { on := 6, ground := Ground.data }, { on := 6, ground := Ground.chain }, { on := 0, ground := Ground.phase }, { on := 1, ground := Ground.phase }, { on := 2, ground := Ground.phase }, { on := 3, ground := Ground.phase }, { on := 4, ground := Ground.phase }, { on := 5, ground := Ground.phase }, { on := 6, ground := Ground.phase }], guard := Option.none } : Oper)) (N := Option.none) #[true, true, true, true, true, true, true, true, true] rfl rfl (by kernel_rfl) (by decide) ?_
                    intro KK hKK
                    refine skip_ (wanted_none rfl) rfl (w1 := w7.setCell ⟨gN, 1, Option.none⟩ (.slice A' (got1.length + 1) c')) (by go_simp) (hKK.out _ _ ?_)
                    try simp only [Act.put, List.setIfInBounds_toArray, List.set_cons_zero, List.set_cons_succ]
                    refine done_ (by kernel_rfl) ?_
                    obtain ⟨hB7, hk47⟩ := Both.more (g := gW) ⟨K, N, Ax, lx, cx, bs⟩ (hBo4.swap.grew hd4) ⟨HOK.out, hKr, HNP.out⟩ (by omega) hP.2.1 hk5 hn5 h56 hown hk7 hloc
                    have up : ∀ i, i < gA + 1 → i ≠ gW → ¬ Up gW (gA + 1) i := fun i h1 h2 e => by
                      rcases e with e | e <;> omega
                    have hkN : Keeps (One gN) w7 (w7.setCell ⟨gN, 1, Option.none⟩ (.slice A' (got1.length + 1) c')) := (Keeps.refl _ _).setCell _ _ (fun _ => rfl)
                    have bW7 : Blk w7 gW 55 [v0, .bool false, v', .bool false] := (bW5.grew h56).keeps hk7 (fun e => by have := (hnlt _ e).1; omega)
                    have bL8 := ((bL4.grew hd4).keeps hk47 (up gL (by omega) (by omega))).keeps hkN (fun e => by have : gL = gN := e; omega)
                    have bA8 := ((bA4.grew hd4).keeps hk47 (up gA (by omega) (by omega))).keeps hkN (fun e => by have : gA = gN := e; omega)
                    have bW8 := bW7.keeps hkN (fun e => by have : gW = gN := e; omega)
                    have hB8 := hB7.keeps hkN (fun i e => by have : i = gN := e; omega)
                    have hK8 : Keeps None w _ := ((hK4.trans hd4).andThen hk47 (fun i hi e => by rcases e with e | e <;> omega)).andThen hkN (fun i hi e => by have : i = gN := e; omega)
                    have bN8 := bN7.set 1 (.slice A' (got1.length + 1) c')
                    go_wp2_with fail
                    go_roundw
                    case rel => exact ⟨k + 1, by omega, by go_num, ⟨j0, j1 + 1, _, _, _, _, _, _, _, _, hj0, by omega, bW8, bN8, bL8, bA8, hB8.swap, hK8⟩⟩
                    case measure => simp [intOf]; omega
                  · go_wp2_with fail
                    go_roundw
                    case rel => exact ⟨k + 1, by omega, by go_num, ⟨j0, j1 + 1, v0, n0, v1, n1, z0, z1, got0, got1, hj0, by omega, bW4, bN4, bL4, bA4, hBo4.next, hK4⟩⟩
                    case measure => simp [intOf]; omega
              · go_wp2_with fail
                go_quiet (fail)
                go_wp2_with fail
                go_meet
                exact ⟨k, hk4, ⟨j0, j1, v0, n0, v1, n1, z0, z1, got0, got1, hj0, hj1, bW1.grew ((Keeps.refl _ _).drewN _), bN1.grew ((Keeps.refl _ _).drewN _), bL1.grew ((Keeps.refl _ _).drewN _), bA1.grew ((Keeps.refl _ _).drewN _), hBo1.grew ((Keeps.refl _ _).drewN _), hK1.trans ((Keeps.refl _ _).drewN _)⟩⟩
      · go_wp2_with fail
        go_meet
        exact ⟨k, hk4, HINV.out⟩
  case rest =>
    rename World => wp
    obtain ⟨k, hk4, hInv⟩ := hcut
    obtain ⟨j0, j1, v0, n0, v1, n1, z0, z1, got0, got1, hj0, hj1, bW, bN, bL, bA, hBo, hK⟩ := hInv.out
    obtain ⟨AN, cN, rfl, hcN, -⟩ := hBo.a.now.open_
    obtain ⟨AM, cM, rfl, hcM, -⟩ := hBo.b.now.open_
    have hlt := hBo.a.lt
    have hlt2 := hBo.b.lt
    have hzr0 : z0.length ≤ 140737488351232 := by have := hBo.a.zl; omega
    have hzr1 : z1.length ≤ 140737488351232 := by have := hBo.b.zl; omega
    have HBY0 : Hid (Bytes z0) := Lib.hid (by rw [hBo.a.out]; exact outF_bytes got0 (fun x hx => (hBo.a.good x hx).ok.bytes))
    have HBY1 : Hid (Bytes z1) := Lib.hid (by rw [hBo.b.out]; exact outF_bytes got1 (fun x hx => (hBo.b.good x hx).ok.bytes))
    have HO0 := Lib.hid hBo.a.good
    have HO1 := Lib.hid hBo.b.good
    have HZ0 := Lib.hid hBo.a.out
    have HZ1 := Lib.hid hBo.b.out
    have hg0 := hBo.a.gl
    have hg1 := hBo.b.gl
    have gl1 := bW.lt
    have gl2 := bN.lt
    have gl4 := bA.lt
    have hNa := hBo.a.now
    have hNb := hBo.b.now
    have hla := fun b (e : (Value.slice AN got0.length cN).ownBlock = some b) => World.ownsRow.lt hNa b e
    have hlb := fun b (e : (Value.slice AM got1.length cM).ownBlock = some b) => World.ownsRow.lt hNb b e
    clear hInv
    have hD0 : Calls Try.prog 30 #[.pointer (some ⟨gW, 0, Option.none⟩)] wp (WDone false z0 wp) :=
      apart.wdone_any (T := 55) (pre := []) (post := [v1, .bool false]) gW (gA + 1) v0 false z0 wp ⟨bW, hBo.a.row, fun b e => by have := (hlt.1 b e).1; omega⟩ hzr0
    go_wp2_with fail
    refine hD0.mono ?_
    rintro e wa ⟨va, rfl, hva, hka⟩
    simp only [Bool.false_eq_true, if_false] at hva ⊢
    obtain ⟨A2, c2, rfl, -, n2, -⟩ := hva.open_
    clear hva hD0
    have hD1 : Calls Try.prog 30 #[.pointer (some ⟨gW, 2, Option.none⟩)] wa (WDone false z1 wa) :=
      apart.wdone_any (T := 55) (pre := [v0, .bool false]) (post := []) gW (gA + 1) v1 false z1 wa ⟨bW.grew hka, hBo.b.row.grew hka, fun b e => by have := (hlt2.1 b e).1; omega⟩ hzr1
    go_wp2_with fail
    refine hD1.mono ?_
    rintro e wb ⟨vb, rfl, hvb, hkb⟩
    simp only [Bool.false_eq_true, if_false] at hvb ⊢
    obtain ⟨A3, c3, rfl, -, n3, -⟩ := hvb.open_
    clear hvb hD1
    go_wp2_with fail
    refine (read_any A2 z0.length c2 z0 wb (n2.grew hkb) rfl hzr0).mono ?_
    rintro e wd ⟨g1, v1', rfl, hs1, hkd⟩
    go_wp2_with fail
    refine (read_any A3 z1.length c3 z1 wd (n3.grew hkd) rfl hzr1).mono ?_
    rintro e we ⟨g2, v2', rfl, hs2, hke⟩
    have sa := hka.size
    have sb := hkb.size
    have sd := hkd.size
    have se := hke.size
    have hgb1 := Rd.hb hs1
    have hgb2 := Rd.hb hs2
    have hgl1 := (Rd.blk hs1).lt
    have hgl2 := (Rd.blk hs2).lt
    have hpe := ((hka.trans hkb).trans hkd).trans hke
    have hs1e : St.at ⟨0, 0, 0⟩ we g1 wb.heap.size v1' z0 := Rd.grew hs1 hke
    have hvl1 := fun b (e : v1'.ownBlock = some b) => (Rd.row hs1).lt b e
    have hKe := hK.trans hpe
    have hNae := hNa.keeps hpe (fun _ _ f => f)
    have hNbe := hNb.keeps hpe (fun _ _ f => f)
    have hbNe := bN.grew hpe
    have hK0 := hK.size
    clear hBo hNa hNb bW bN bL bA hs1 n2 n3 hka hkb hkd hke hK hpe
    go_wp2_with fail
    go_loopw [20] (fun i wr => ∃ (j : Nat), (j ≤ got0.length ∨ j ≤ got1.length) ∧ i = .int .i64 j ∧ St.at ⟨(outF (got0.take j)).length, 0, 0⟩ wr g1 wb.heap.size v1' z0 ∧ St.at ⟨(outF (got1.take j)).length, 0, 0⟩ wr g2 wd.heap.size v2' z1 ∧ Blk wr gN 56 [.slice AN got0.length cN, .slice AM got1.length cM] ∧ Now wr (gA + 1) (.slice AN got0.length cN) got0 ∧ Now wr (gA + 1) (.slice AM got1.length cM) got1 ∧ Keeps None w wr) (fun i _ => got0.length + got1.length - (intOf i).toNat)
    case atStart => exact ⟨0, by omega, rfl, hs1e, hs2, hbNe, hNae, hNbe, hKe⟩
    case round =>
      clear hs1e hs2 hbNe hNae hNbe hKe
      obtain ⟨j, hj, rfl, hsp, hsq, hbN, hNa, hNb, hKr⟩ := hrel
      have hcn0 := hbN.cell 0 _ rfl
      have hcn1 := hbN.cell 1 _ rfl
      by_cases hmore : j < got0.length ∨ j < got1.length
      · have HMORE := Lib.hid hmore
        clear hmore
        have hjb : j ≤ 400 := by omega
        have hcond : Hid (j < got0.length ∨ j < got1.length) := HMORE
        by_cases hl0 : j < got0.length
        · skip
          go_upto_region 29 with (fail)
          go_cut [153] (fun x wx => x = .bool false ∧ St.at ⟨(outF (got0.take (j + 1))).length, 0, 0⟩ wx g1 wb.heap.size v1' z0 ∧ St.at ⟨(outF (got1.take j)).length, 0, 0⟩ wx g2 wd.heap.size v2' z1 ∧ Blk wx gN 56 [.slice AN got0.length cN, .slice AM got1.length cM] ∧ Now wx (gA + 1) (.slice AN got0.length cN) got0 ∧ Now wx (gA + 1) (.slice AM got1.length cM) got1 ∧ Keeps None w wx)
          case first =>
            have hlj : j < got0.length := hl0
            obtain ⟨x, hx⟩ : ∃ x, got0[j]? = some x := ⟨_, List.getElem?_eq_getElem hlj⟩
            have HGOOD := Lib.hid (HO0.out x (List.mem_of_getElem? hx))
            have HTJ := Lib.hid (take_succ_of hx)
            have hdrop : z0.drop (outF (got0.take j)).length = x.out ++ outF (got0.drop (j + 1)) := by
              have e1 : got0 = got0.take j ++ x :: got0.drop (j + 1) := by
                obtain ⟨hl', he⟩ := List.getElem?_eq_some_iff.1 hx
                rw [← he, List.getElem_cons_drop hl', List.take_append_drop]
              have e2 : outF got0 = outF (got0.take j) ++ (x.out ++ outF (got0.drop (j + 1))) := by
                conv => lhs; rw [e1]
                simp [outF]
              rw [HZ0.out, e2, List.drop_left]
            obtain ⟨P, hP⟩ : ∃ P, P = (outF (got0.take j)).length := ⟨_, rfl⟩
            rw [← hP] at hdrop
            have hsP : St.at ⟨P, 0, 0⟩ wr g1 wb.heap.size v1' z0 := by rw [hP]; exact hsp
            have HPP := Lib.hid hP
            have HDROP := Lib.hid hdrop
            obtain ⟨A', c', ev', hc', hI⟩ := hNa.open_
            cases ev'
            obtain ⟨b, o, rfl, u0, u1, u2⟩ := hI j _ hx
            obtain ⟨kd, nn, Ay, ly, cy, bs⟩ := x
            simp only at u0 u1 u2
            have hbl := (hla b rfl).2
            have held : ∀ w', Keeps (One g1) wr w' → (w'.cell? ⟨gN, 0, Option.none⟩ = some (.slice (some ⟨b, o, Option.none⟩) got0.length cN) ∧ w'.cell? ⟨b, o + j * 3, Option.none⟩ = some (.int .i64 kd) ∧ w'.cell? ⟨b, o + j * 3 + 1, Option.none⟩ = some (.int .i64 nn) ∧ w'.cell? ⟨b, o + j * 3 + 2, Option.none⟩ = some (.slice Ay ly cy)) :=
              fun w' h => ⟨h.cell (hbN.cell 0 _ rfl) (fun e => by have : gN = g1 := e; omega), h.cell u0 (fun e => by have : b = g1 := e; omega), h.cell u1 (fun e => by have : b = g1 := e; omega), h.cell u2 (fun e => by have : b = g1 := e; omega)⟩
            have HELD := Lib.hid held
            have HNUM : Hid (∀ w', Keeps (One g1) wr w' → Nums .u8 w' Ay bs) := Lib.hid (fun w' h => HGOOD.out.ok.nums.grew (hKr.andThen h (fun i hi e => by have : i = g1 := e; omega)))
            have hly : ly ≤ 65536 := HGOOD.out.ok.long
            clear hI hx hP hdrop held u0 u1 u2
            refine start_ (ds := []) (S := (fun w' => w'.cell? ⟨gN, 0, Option.none⟩ = some (.slice (some ⟨b, o, Option.none⟩) got0.length cN) ∧ w'.cell? ⟨b, o + j * 3, Option.none⟩ = some (.int .i64 kd) ∧ w'.cell? ⟨b, o + j * 3 + 1, Option.none⟩ = some (.int .i64 nn) ∧ w'.cell? ⟨b, o + j * 3 + 2, Option.none⟩ = some (.slice Ay ly cy))) #[false, false, false, false, false, false, false, false, false, false, false, false, false, false, false, false, false, false, false, false, false, false] (by kernel_rfl) rfl rfl (HELD.out _ ((Keeps.refl (One g1) _).drew)) (fun hS0 => ?_)
            refine pure_ (i := 0) (N := some 132) (v := .int .i64 j) #[true, false, false, false, false, false, false, false, false, false, false, false, false, false, false, false, false, false, false, false, false, false] rfl rfl (by kernel_rfl) (fun _ _ _ h => h) (Or.inl ⟨wanted_none rfl, fun w => by rfl⟩) rfl ?_
            try simp only [Act.put, List.setIfInBounds_toArray, List.set_cons_zero, List.set_cons_succ]
            refine pure_ (i := 1) (N := some 133) (v := .pointer (some ⟨gN, 0, Option.none⟩)) #[true, true, false, false, false, false, false, false, false, false, false, false, false, false, false, false, false, false, false, false, false, false] rfl rfl (by kernel_rfl) (fun _ _ _ h => h) (Or.inl ⟨wanted_none rfl, fun w => by go_simp⟩) rfl ?_
            try simp only [Act.put, List.setIfInBounds_toArray, List.set_cons_zero, List.set_cons_succ]
            refine take_ (i := 2) (N := some 134) (v := .slice (some ⟨b, o, Option.none⟩) got0.length cN) #[true, true, true, false, false, false, false, false, false, false, false, false, false, false, false, false, false, false, false, false, false, false] rfl rfl (by kernel_rfl) (fun _ _ _ h => h) (Or.inl ⟨wanted_none rfl, by intro w' hSw; go_split_ands; go_simp⟩) hS0 rfl ?_
            try simp only [Act.put, List.setIfInBounds_toArray, List.set_cons_zero, List.set_cons_succ]
            refine pure_ (i := 3) (N := some 135) (v := .int .i64 got0.length) #[true, true, true, true, false, false, false, false, false, false, false, false, false, false, false, false, false, false, false, false, false, false] rfl rfl (by kernel_rfl) (fun _ _ _ h => h) (Or.inl ⟨wanted_none rfl, fun w => by go_simp⟩) rfl ?_
            try simp only [Act.put, List.setIfInBounds_toArray, List.set_cons_zero, List.set_cons_succ]
            refine pure_ (i := 4) (N := some 136) (v := .bool true) #[true, true, true, true, true, false, false, false, false, false, false, false, false, false, false, false, false, false, false, false, false, false] rfl rfl (by kernel_rfl) (fun _ _ _ h => h) (Or.inl ⟨wanted_none rfl, fun w => by go_simp⟩) rfl ?_
            try simp only [Act.put, List.setIfInBounds_toArray, List.set_cons_zero, List.set_cons_succ]
            refine pure_ (i := 5) (N := some 137) (v := .bool true) #[true, true, true, true, true, true, false, false, false, false, false, false, false, false, false, false, false, false, false, false, false, false] rfl rfl (by kernel_rfl) (fun _ _ _ h => h) (Or.inl ⟨wanted_none rfl, fun w => by rfl⟩) rfl ?_
            try simp only [Act.put, List.setIfInBounds_toArray, List.set_cons_zero, List.set_cons_succ]
            refine pure_ (i := 6) (N := some 138) (v := .pointer (some ⟨g1, 0, Option.none⟩)) #[true, true, true, true, true, true, true, false, false, false, false, false, false, false, false, false, false, false, false, false, false, false] rfl rfl (by kernel_rfl) (fun _ _ _ h => h) (Or.inl ⟨by rfl, fun w => by rfl⟩) rfl ?_
            try simp only [Act.put, List.setIfInBounds_toArray, List.set_cons_zero, List.set_cons_succ]
            refine pure_ (i := 7) (N := some 139) (v := .pointer (some ⟨gN, 0, Option.none⟩)) #[true, true, true, true, true, true, true, true, false, false, false, false, false, false, false, false, false, false, false, false, false, false] rfl rfl (by kernel_rfl) (fun _ _ _ h => h) (Or.inl ⟨by rfl, fun w => by go_simp⟩) rfl ?_
            try simp only [Act.put, List.setIfInBounds_toArray, List.set_cons_zero, List.set_cons_succ]
            refine take_ (i := 8) (N := some 140) (v := .slice (some ⟨b, o, Option.none⟩) got0.length cN) #[true, true, true, true, true, true, true, true, true, false, false, false, false, false, false, false, false, false, false, false, false, false] rfl rfl (by kernel_rfl) (fun _ _ _ h => h) (Or.inl ⟨by rfl, by intro w' hSw; go_split_ands; go_simp⟩) hS0 rfl ?_
            try simp only [Act.put, List.setIfInBounds_toArray, List.set_cons_zero, List.set_cons_succ]
            refine pure_ (i := 9) (N := some 141) (v := .int .i64 j) #[true, true, true, true, true, true, true, true, true, true, false, false, false, false, false, false, false, false, false, false, false, false] rfl rfl (by kernel_rfl) (fun _ _ _ h => h) (Or.inl ⟨by rfl, fun w => by rfl⟩) rfl ?_
            try simp only [Act.put, List.setIfInBounds_toArray, List.set_cons_zero, List.set_cons_succ]
            refine pure_ (i := 10) (N := some 142) (v := .pointer (some ⟨b, o + j * 3, Option.none⟩)) #[true, true, true, true, true, true, true, true, true, true, true, false, false, false, false, false, false, false, false, false, false, false] rfl rfl (by kernel_rfl) (fun _ _ _ h => h) (Or.inl ⟨by rfl, fun w => by go_simp⟩) rfl ?_
            try simp only [Act.put, List.setIfInBounds_toArray, List.set_cons_zero, List.set_cons_succ]
            refine pure_ (i := 11) (N := some 143) (v := .pointer (some ⟨b, o + j * 3, Option.none⟩)) #[true, true, true, true, true, true, true, true, true, true, true, true, false, false, false, false, false, false, false, false, false, false] rfl rfl (by kernel_rfl) (fun _ _ _ h => h) (Or.inl ⟨by rfl, fun w => by go_simp⟩) rfl ?_
            try simp only [Act.put, List.setIfInBounds_toArray, List.set_cons_zero, List.set_cons_succ]
            refine take_ (i := 12) (N := some 144) (v := .int .i64 kd) #[true, true, true, true, true, true, true, true, true, true, true, true, true, false, false, false, false, false, false, false, false, false] rfl rfl (by kernel_rfl) (fun _ _ _ h => h) (Or.inl ⟨by rfl, by intro w' hSw; go_split_ands; go_simp⟩) hS0 rfl ?_
            try simp only [Act.put, List.setIfInBounds_toArray, List.set_cons_zero, List.set_cons_succ]
            refine pure_ (i := 14) (N := some 146) (v := .pointer (some ⟨gN, 0, Option.none⟩)) #[true, true, true, true, true, true, true, true, true, true, true, true, true, false, true, false, false, false, false, false, false, false] rfl rfl (by kernel_rfl) (fun _ _ _ h => h) (Or.inl ⟨by rfl, fun w => by go_simp⟩) rfl ?_
            try simp only [Act.put, List.setIfInBounds_toArray, List.set_cons_zero, List.set_cons_succ]
            refine take_ (i := 15) (N := some 147) (v := .slice (some ⟨b, o, Option.none⟩) got0.length cN) #[true, true, true, true, true, true, true, true, true, true, true, true, true, false, true, true, false, false, false, false, false, false] rfl rfl (by kernel_rfl) (fun _ _ _ h => h) (Or.inl ⟨by rfl, by intro w' hSw; go_split_ands; go_simp⟩) hS0 rfl ?_
            try simp only [Act.put, List.setIfInBounds_toArray, List.set_cons_zero, List.set_cons_succ]
            refine pure_ (i := 16) (N := some 148) (v := .int .i64 j) #[true, true, true, true, true, true, true, true, true, true, true, true, true, false, true, true, true, false, false, false, false, false] rfl rfl (by kernel_rfl) (fun _ _ _ h => h) (Or.inl ⟨by rfl, fun w => by rfl⟩) rfl ?_
            try simp only [Act.put, List.setIfInBounds_toArray, List.set_cons_zero, List.set_cons_succ]
            refine pure_ (i := 17) (N := some 149) (v := .pointer (some ⟨b, o + j * 3, Option.none⟩)) #[true, true, true, true, true, true, true, true, true, true, true, true, true, false, true, true, true, true, false, false, false, false] rfl rfl (by kernel_rfl) (fun _ _ _ h => h) (Or.inl ⟨by rfl, fun w => by go_simp⟩) rfl ?_
            try simp only [Act.put, List.setIfInBounds_toArray, List.set_cons_zero, List.set_cons_succ]
            refine take_ (i := 18) (N := some 150) (v := .agg #[.int .i64 kd, .int .i64 nn, .slice Ay ly cy]) #[true, true, true, true, true, true, true, true, true, true, true, true, true, false, true, true, true, true, true, false, false, false] rfl rfl (by kernel_rfl) (fun _ _ _ h => h) (Or.inl ⟨by rfl, by intro w' hSw; go_split_ands; go_simp⟩) hS0 rfl ?_
            try simp only [Act.put, List.setIfInBounds_toArray, List.set_cons_zero, List.set_cons_succ]
            refine one_ (i := 13) (oi := ({ dst := some 145, op := Op.call { callee := Callee.value (Operand.func 33), args := #[Operand.tmp 138, Operand.tmp 144], argTypes := #[47, 3] }, type := 32, pos := "outright.go:178", after := #[{ on := 6, ground := Ground.data }, { on := 12, ground := Ground.data }, { on := 5, ground := Ground.chain }, { on := 5, ground := Ground.guard }], guard := some (5, true) } : Oper)) (N := some 145) #[true, true, true, true, true, true, true, true, true, true, true, true, true, true, true, true, true, true, true, false, false, false] rfl rfl (by kernel_rfl) (by decide) ?_
            intro KK hKK
            refine goes_ Try.func33 (by kernel_rfl) rfl #[.pointer (some ⟨g1, 0, Option.none⟩), .int .i64 kd] (by rfl) rfl rfl (by simp [Act.eval]) ?_
            refine (cread_back g1 wb.heap.size v1' z0 (outF (got0.drop (j + 1))) ⟨kd, nn, Ay, ly, cy, bs⟩ P _ w (Rd.grew hsP (Keeps.refl None _).drew) hzr0 HBY0.out HGOOD.out HDROP.out).mono ?_
            rintro e w3 ⟨nn2, A2, l2, c2, rfl, hn2, hb2, hs3, hk3⟩
            have HN2 := Lib.hid hn2
            have HB2 := Lib.hid hb2
            clear hn2 hb2
            have hk13 : Keeps (One g1) wr w3 := (Keeps.refl _ _).drew.trans hk3
            refine ⟨_, rfl, hKK.out _ _ (HELD.out _ (hk13)) (fun hS1 => ?_)⟩
            try simp only [Act.put, List.setIfInBounds_toArray, List.set_cons_zero, List.set_cons_succ]
            refine one_ (i := 19) (oi := ({ dst := some 151, op := Op.call { callee := Callee.value (Operand.func 32), args := #[Operand.tmp 145, Operand.tmp 150], argTypes := #[32, 32] }, type := 4, pos := "outright.go:178", after := #[{ on := 13, ground := Ground.data }, { on := 18, ground := Ground.data }, { on := 13, ground := Ground.chain }, { on := 5, ground := Ground.guard }], guard := some (5, true) } : Oper)) (N := some 151) #[true, true, true, true, true, true, true, true, true, true, true, true, true, true, true, true, true, true, true, true, false, false] rfl rfl (by kernel_rfl) (by decide) ?_
            intro KK hKK
            refine goes_ Try.func32 (by kernel_rfl) rfl #[.agg #[.int .i64 kd, .int .i64 nn2, .slice A2 l2 c2], .agg #[.int .i64 kd, .int .i64 nn, .slice Ay ly cy]] (by rfl) rfl rfl (by simp [Act.eval]) ?_
            refine (sameitem_any kd nn2 nn bs A2 l2 c2 Ay ly cy _ HN2.out HB2.out (HNUM.out _ hk13) HGOOD.out.ok.len (by omega)).mono ?_
            rintro e w4 ⟨rfl, hk4⟩
            have hk14 : Keeps (One g1) wr w4 := hk13.trans hk4.of_none
            refine ⟨_, rfl, hKK.out _ _ (HELD.out _ (hk14)) (fun hS2 => ?_)⟩
            try simp only [Act.put, List.setIfInBounds_toArray, List.set_cons_zero, List.set_cons_succ]
            refine pure_ (i := 20) (N := some 152) (v := .bool false) #[true, true, true, true, true, true, true, true, true, true, true, true, true, true, true, true, true, true, true, true, true, false] rfl rfl (by kernel_rfl) (fun _ _ _ h => h) (Or.inl ⟨by rfl, fun w => by go_simp⟩) rfl ?_
            try simp only [Act.put, List.setIfInBounds_toArray, List.set_cons_zero, List.set_cons_succ]
            refine pure_ (i := 21) (N := some 153) (v := .bool false) #[true, true, true, true, true, true, true, true, true, true, true, true, true, true, true, true, true, true, true, true, true, true] rfl rfl (by kernel_rfl) (fun _ _ _ h => h) (Or.inl ⟨wanted_none rfl, fun w => by go_simp⟩) rfl ?_
            try simp only [Act.put, List.setIfInBounds_toArray, List.set_cons_zero, List.set_cons_succ]
            refine done_ (by kernel_rfl) ?_
            go_wp2_with fail
            go_meet
            have hfin : St.at ⟨(outF (got0.take (j + 1))).length, 0, 0⟩ w4 g1 wb.heap.size v1' z0 := by
              rw [HTJ.out, outF_snoc, List.length_append, ← HPP.out]
              exact Rd.grew hs3 hk4
            exact ⟨rfl, hfin, (Rd.keeps hsq hk14 (fun e => by have : g2 = g1 := e; omega) (fun b e f => by have : b = g1 := f; have := ((Rd.row hsq).lt b e); omega)), hbN.keeps hk14 (fun e => by have : gN = g1 := e; omega), hNa.keeps hk14 (fun b e f => by have : b = g1 := f; have := (hla b e).2; omega), hNb.keeps hk14 (fun b e f => by have : b = g1 := f; have := (hlb b e).2; omega), hKr.andThen hk14 (fun i hi e => by have : i = g1 := e; omega)⟩
          case rest =>
            obtain ⟨rfl, hsp2, hsq2, hbN2, hNa2, hNb2, hKr2⟩ := hcut
            clear hsp hsq hbN hNa hNb hKr hcn0 hcn1
            rename World => w8
            have hsp := hsp2
            have hsq := hsq2
            have hbN := hbN2
            have hNa := hNa2
            have hNb := hNb2
            have hKr := hKr2
            clear hsp2 hsq2 hbN2 hNa2 hNb2 hKr2
            have hcn0 := hbN.cell 0 _ rfl
            have hcn1 := hbN.cell 1 _ rfl
            go_upto_region 31 with (fail)
            go_cut [175] (fun x wx => x = .bool false ∧ St.at ⟨(outF (got0.take (j + 1))).length, 0, 0⟩ wx g1 wb.heap.size v1' z0 ∧ St.at ⟨(outF (got1.take (j + 1))).length, 0, 0⟩ wx g2 wd.heap.size v2' z1 ∧ Blk wx gN 56 [.slice AN got0.length cN, .slice AM got1.length cM] ∧ Now wx (gA + 1) (.slice AN got0.length cN) got0 ∧ Now wx (gA + 1) (.slice AM got1.length cM) got1 ∧ Keeps None w wx)
            case first =>
              by_cases hlj : j < got1.length
              · obtain ⟨x, hx⟩ : ∃ x, got1[j]? = some x := ⟨_, List.getElem?_eq_getElem hlj⟩
                have HGOOD := Lib.hid (HO1.out x (List.mem_of_getElem? hx))
                have HTJ := Lib.hid (take_succ_of hx)
                have hdrop : z1.drop (outF (got1.take j)).length = x.out ++ outF (got1.drop (j + 1)) := by
                  have e1 : got1 = got1.take j ++ x :: got1.drop (j + 1) := by
                    obtain ⟨hl', he⟩ := List.getElem?_eq_some_iff.1 hx
                    rw [← he, List.getElem_cons_drop hl', List.take_append_drop]
                  have e2 : outF got1 = outF (got1.take j) ++ (x.out ++ outF (got1.drop (j + 1))) := by
                    conv => lhs; rw [e1]
                    simp [outF]
                  rw [HZ1.out, e2, List.drop_left]
                obtain ⟨P, hP⟩ : ∃ P, P = (outF (got1.take j)).length := ⟨_, rfl⟩
                rw [← hP] at hdrop
                have hsP : St.at ⟨P, 0, 0⟩ w8 g2 wd.heap.size v2' z1 := by rw [hP]; exact hsq
                have HPP := Lib.hid hP
                have HDROP := Lib.hid hdrop
                obtain ⟨A', c', ev', hc', hI⟩ := hNb.open_
                cases ev'
                obtain ⟨b, o, rfl, u0, u1, u2⟩ := hI j _ hx
                obtain ⟨kd, nn, Ay, ly, cy, bs⟩ := x
                simp only at u0 u1 u2
                have hbl := (hlb b rfl).2
                have held : ∀ w', Keeps (One g2) w8 w' → (w'.cell? ⟨gN, 1, Option.none⟩ = some (.slice (some ⟨b, o, Option.none⟩) got1.length cM) ∧ w'.cell? ⟨b, o + j * 3, Option.none⟩ = some (.int .i64 kd) ∧ w'.cell? ⟨b, o + j * 3 + 1, Option.none⟩ = some (.int .i64 nn) ∧ w'.cell? ⟨b, o + j * 3 + 2, Option.none⟩ = some (.slice Ay ly cy)) :=
                  fun w' h => ⟨h.cell (hbN.cell 1 _ rfl) (fun e => by have : gN = g2 := e; omega), h.cell u0 (fun e => by have : b = g2 := e; omega), h.cell u1 (fun e => by have : b = g2 := e; omega), h.cell u2 (fun e => by have : b = g2 := e; omega)⟩
                have HELD := Lib.hid held
                have HNUM : Hid (∀ w', Keeps (One g2) w8 w' → Nums .u8 w' Ay bs) := Lib.hid (fun w' h => HGOOD.out.ok.nums.grew (hKr.andThen h (fun i hi e => by have : i = g2 := e; omega)))
                have hly : ly ≤ 65536 := HGOOD.out.ok.long
                clear hI hx hP hdrop held u0 u1 u2
                refine start_ (ds := []) (S := (fun w' => w'.cell? ⟨gN, 1, Option.none⟩ = some (.slice (some ⟨b, o, Option.none⟩) got1.length cM) ∧ w'.cell? ⟨b, o + j * 3, Option.none⟩ = some (.int .i64 kd) ∧ w'.cell? ⟨b, o + j * 3 + 1, Option.none⟩ = some (.int .i64 nn) ∧ w'.cell? ⟨b, o + j * 3 + 2, Option.none⟩ = some (.slice Ay ly cy))) #[false, false, false, false, false, false, false, false, false, false, false, false, false, false, false, false, false, false, false, false, false, false] (by kernel_rfl) rfl rfl (HELD.out _ ((Keeps.refl (One g2) _).drew)) (fun hS0 => ?_)
                refine pure_ (i := 0) (N := some 154) (v := .int .i64 j) #[true, false, false, false, false, false, false, false, false, false, false, false, false, false, false, false, false, false, false, false, false, false] rfl rfl (by kernel_rfl) (fun _ _ _ h => h) (Or.inl ⟨wanted_none rfl, fun w => by rfl⟩) rfl ?_
                try simp only [Act.put, List.setIfInBounds_toArray, List.set_cons_zero, List.set_cons_succ]
                refine pure_ (i := 1) (N := some 155) (v := .pointer (some ⟨gN, 1, Option.none⟩)) #[true, true, false, false, false, false, false, false, false, false, false, false, false, false, false, false, false, false, false, false, false, false] rfl rfl (by kernel_rfl) (fun _ _ _ h => h) (Or.inl ⟨wanted_none rfl, fun w => by go_simp⟩) rfl ?_
                try simp only [Act.put, List.setIfInBounds_toArray, List.set_cons_zero, List.set_cons_succ]
                refine take_ (i := 2) (N := some 156) (v := .slice (some ⟨b, o, Option.none⟩) got1.length cM) #[true, true, true, false, false, false, false, false, false, false, false, false, false, false, false, false, false, false, false, false, false, false] rfl rfl (by kernel_rfl) (fun _ _ _ h => h) (Or.inl ⟨wanted_none rfl, by intro w' hSw; go_split_ands; go_simp⟩) hS0 rfl ?_
                try simp only [Act.put, List.setIfInBounds_toArray, List.set_cons_zero, List.set_cons_succ]
                refine pure_ (i := 3) (N := some 157) (v := .int .i64 got1.length) #[true, true, true, true, false, false, false, false, false, false, false, false, false, false, false, false, false, false, false, false, false, false] rfl rfl (by kernel_rfl) (fun _ _ _ h => h) (Or.inl ⟨wanted_none rfl, fun w => by go_simp⟩) rfl ?_
                try simp only [Act.put, List.setIfInBounds_toArray, List.set_cons_zero, List.set_cons_succ]
                refine pure_ (i := 4) (N := some 158) (v := .bool true) #[true, true, true, true, true, false, false, false, false, false, false, false, false, false, false, false, false, false, false, false, false, false] rfl rfl (by kernel_rfl) (fun _ _ _ h => h) (Or.inl ⟨wanted_none rfl, fun w => by go_simp⟩) rfl ?_
                try simp only [Act.put, List.setIfInBounds_toArray, List.set_cons_zero, List.set_cons_succ]
                refine pure_ (i := 5) (N := some 159) (v := .bool true) #[true, true, true, true, true, true, false, false, false, false, false, false, false, false, false, false, false, false, false, false, false, false] rfl rfl (by kernel_rfl) (fun _ _ _ h => h) (Or.inl ⟨wanted_none rfl, fun w => by rfl⟩) rfl ?_
                try simp only [Act.put, List.setIfInBounds_toArray, List.set_cons_zero, List.set_cons_succ]
                refine pure_ (i := 6) (N := some 160) (v := .pointer (some ⟨g2, 0, Option.none⟩)) #[true, true, true, true, true, true, true, false, false, false, false, false, false, false, false, false, false, false, false, false, false, false] rfl rfl (by kernel_rfl) (fun _ _ _ h => h) (Or.inl ⟨by rfl, fun w => by rfl⟩) rfl ?_
                try simp only [Act.put, List.setIfInBounds_toArray, List.set_cons_zero, List.set_cons_succ]
                refine pure_ (i := 7) (N := some 161) (v := .pointer (some ⟨gN, 1, Option.none⟩)) #[true, true, true, true, true, true, true, true, false, false, false, false, false, false, false, false, false, false, false, false, false, false] rfl rfl (by kernel_rfl) (fun _ _ _ h => h) (Or.inl ⟨by rfl, fun w => by go_simp⟩) rfl ?_
                try simp only [Act.put, List.setIfInBounds_toArray, List.set_cons_zero, List.set_cons_succ]
                refine take_ (i := 8) (N := some 162) (v := .slice (some ⟨b, o, Option.none⟩) got1.length cM) #[true, true, true, true, true, true, true, true, true, false, false, false, false, false, false, false, false, false, false, false, false, false] rfl rfl (by kernel_rfl) (fun _ _ _ h => h) (Or.inl ⟨by rfl, by intro w' hSw; go_split_ands; go_simp⟩) hS0 rfl ?_
                try simp only [Act.put, List.setIfInBounds_toArray, List.set_cons_zero, List.set_cons_succ]
                refine pure_ (i := 9) (N := some 163) (v := .int .i64 j) #[true, true, true, true, true, true, true, true, true, true, false, false, false, false, false, false, false, false, false, false, false, false] rfl rfl (by kernel_rfl) (fun _ _ _ h => h) (Or.inl ⟨by rfl, fun w => by rfl⟩) rfl ?_
                try simp only [Act.put, List.setIfInBounds_toArray, List.set_cons_zero, List.set_cons_succ]
                refine pure_ (i := 10) (N := some 164) (v := .pointer (some ⟨b, o + j * 3, Option.none⟩)) #[true, true, true, true, true, true, true, true, true, true, true, false, false, false, false, false, false, false, false, false, false, false] rfl rfl (by kernel_rfl) (fun _ _ _ h => h) (Or.inl ⟨by rfl, fun w => by go_simp⟩) rfl ?_
                try simp only [Act.put, List.setIfInBounds_toArray, List.set_cons_zero, List.set_cons_succ]
                refine pure_ (i := 11) (N := some 165) (v := .pointer (some ⟨b, o + j * 3, Option.none⟩)) #[true, true, true, true, true, true, true, true, true, true, true, true, false, false, false, false, false, false, false, false, false, false] rfl rfl (by kernel_rfl) (fun _ _ _ h => h) (Or.inl ⟨by rfl, fun w => by go_simp⟩) rfl ?_
                try simp only [Act.put, List.setIfInBounds_toArray, List.set_cons_zero, List.set_cons_succ]
                refine take_ (i := 12) (N := some 166) (v := .int .i64 kd) #[true, true, true, true, true, true, true, true, true, true, true, true, true, false, false, false, false, false, false, false, false, false] rfl rfl (by kernel_rfl) (fun _ _ _ h => h) (Or.inl ⟨by rfl, by intro w' hSw; go_split_ands; go_simp⟩) hS0 rfl ?_
                try simp only [Act.put, List.setIfInBounds_toArray, List.set_cons_zero, List.set_cons_succ]
                refine pure_ (i := 14) (N := some 168) (v := .pointer (some ⟨gN, 1, Option.none⟩)) #[true, true, true, true, true, true, true, true, true, true, true, true, true, false, true, false, false, false, false, false, false, false] rfl rfl (by kernel_rfl) (fun _ _ _ h => h) (Or.inl ⟨by rfl, fun w => by go_simp⟩) rfl ?_
                try simp only [Act.put, List.setIfInBounds_toArray, List.set_cons_zero, List.set_cons_succ]
                refine take_ (i := 15) (N := some 169) (v := .slice (some ⟨b, o, Option.none⟩) got1.length cM) #[true, true, true, true, true, true, true, true, true, true, true, true, true, false, true, true, false, false, false, false, false, false] rfl rfl (by kernel_rfl) (fun _ _ _ h => h) (Or.inl ⟨by rfl, by intro w' hSw; go_split_ands; go_simp⟩) hS0 rfl ?_
                try simp only [Act.put, List.setIfInBounds_toArray, List.set_cons_zero, List.set_cons_succ]
                refine pure_ (i := 16) (N := some 170) (v := .int .i64 j) #[true, true, true, true, true, true, true, true, true, true, true, true, true, false, true, true, true, false, false, false, false, false] rfl rfl (by kernel_rfl) (fun _ _ _ h => h) (Or.inl ⟨by rfl, fun w => by rfl⟩) rfl ?_
                try simp only [Act.put, List.setIfInBounds_toArray, List.set_cons_zero, List.set_cons_succ]
                refine pure_ (i := 17) (N := some 171) (v := .pointer (some ⟨b, o + j * 3, Option.none⟩)) #[true, true, true, true, true, true, true, true, true, true, true, true, true, false, true, true, true, true, false, false, false, false] rfl rfl (by kernel_rfl) (fun _ _ _ h => h) (Or.inl ⟨by rfl, fun w => by go_simp⟩) rfl ?_
                try simp only [Act.put, List.setIfInBounds_toArray, List.set_cons_zero, List.set_cons_succ]
                refine take_ (i := 18) (N := some 172) (v := .agg #[.int .i64 kd, .int .i64 nn, .slice Ay ly cy]) #[true, true, true, true, true, true, true, true, true, true, true, true, true, false, true, true, true, true, true, false, false, false] rfl rfl (by kernel_rfl) (fun _ _ _ h => h) (Or.inl ⟨by rfl, by intro w' hSw; go_split_ands; go_simp⟩) hS0 rfl ?_
                try simp only [Act.put, List.setIfInBounds_toArray, List.set_cons_zero, List.set_cons_succ]
                refine one_ (i := 13) (oi := ({ dst := some 167, op := Op.call { callee := Callee.value (Operand.func 33), args := #[Operand.tmp 160, Operand.tmp 166], argTypes := #[47, 3] }, type := 32, pos := "outright.go:181", after := #[{ on := 6, ground := Ground.data }, { on := 12, ground := Ground.data }, { on := 5, ground := Ground.chain }, { on := 5, ground := Ground.guard }], guard := some (5, true) } : Oper)) (N := some 167) #[true, true, true, true, true, true, true, true, true, true, true, true, true, true, true, true, true, true, true, false, false, false] rfl rfl (by kernel_rfl) (by decide) ?_
                intro KK hKK
                refine goes_ Try.func33 (by kernel_rfl) rfl #[.pointer (some ⟨g2, 0, Option.none⟩), .int .i64 kd] (by rfl) rfl rfl (by simp [Act.eval]) ?_
                refine (cread_back g2 wd.heap.size v2' z1 (outF (got1.drop (j + 1))) ⟨kd, nn, Ay, ly, cy, bs⟩ P _ w (Rd.grew hsP (Keeps.refl None _).drew) hzr1 HBY1.out HGOOD.out HDROP.out).mono ?_
                rintro e w3 ⟨nn2, A2, l2, c2, rfl, hn2, hb2, hs3, hk3⟩
                have HN2 := Lib.hid hn2
                have HB2 := Lib.hid hb2
                clear hn2 hb2
                have hk13 : Keeps (One g2) w8 w3 := (Keeps.refl _ _).drew.trans hk3
                refine ⟨_, rfl, hKK.out _ _ (HELD.out _ (hk13)) (fun hS1 => ?_)⟩
                try simp only [Act.put, List.setIfInBounds_toArray, List.set_cons_zero, List.set_cons_succ]
                refine one_ (i := 19) (oi := ({ dst := some 173, op := Op.call { callee := Callee.value (Operand.func 32), args := #[Operand.tmp 167, Operand.tmp 172], argTypes := #[32, 32] }, type := 4, pos := "outright.go:181", after := #[{ on := 13, ground := Ground.data }, { on := 18, ground := Ground.data }, { on := 13, ground := Ground.chain }, { on := 5, ground := Ground.guard }], guard := some (5, true) } : Oper)) (N := some 173) #[true, true, true, true, true, true, true, true, true, true, true, true, true, true, true, true, true, true, true, true, false, false] rfl rfl (by kernel_rfl) (by decide) ?_
                intro KK hKK
                refine goes_ Try.func32 (by kernel_rfl) rfl #[.agg #[.int .i64 kd, .int .i64 nn2, .slice A2 l2 c2], .agg #[.int .i64 kd, .int .i64 nn, .slice Ay ly cy]] (by rfl) rfl rfl (by simp [Act.eval]) ?_
                refine (sameitem_any kd nn2 nn bs A2 l2 c2 Ay ly cy _ HN2.out HB2.out (HNUM.out _ hk13) HGOOD.out.ok.len (by omega)).mono ?_
                rintro e w4 ⟨rfl, hk4⟩
                have hk14 : Keeps (One g2) w8 w4 := hk13.trans hk4.of_none
                refine ⟨_, rfl, hKK.out _ _ (HELD.out _ (hk14)) (fun hS2 => ?_)⟩
                try simp only [Act.put, List.setIfInBounds_toArray, List.set_cons_zero, List.set_cons_succ]
                refine pure_ (i := 20) (N := some 174) (v := .bool false) #[true, true, true, true, true, true, true, true, true, true, true, true, true, true, true, true, true, true, true, true, true, false] rfl rfl (by kernel_rfl) (fun _ _ _ h => h) (Or.inl ⟨by rfl, fun w => by go_simp⟩) rfl ?_
                try simp only [Act.put, List.setIfInBounds_toArray, List.set_cons_zero, List.set_cons_succ]
                refine pure_ (i := 21) (N := some 175) (v := .bool false) #[true, true, true, true, true, true, true, true, true, true, true, true, true, true, true, true, true, true, true, true, true, true] rfl rfl (by kernel_rfl) (fun _ _ _ h => h) (Or.inl ⟨wanted_none rfl, fun w => by go_simp⟩) rfl ?_
                try simp only [Act.put, List.setIfInBounds_toArray, List.set_cons_zero, List.set_cons_succ]
                refine done_ (by kernel_rfl) ?_
                go_wp2_with fail
                go_meet
                have hfin : St.at ⟨(outF (got1.take (j + 1))).length, 0, 0⟩ w4 g2 wd.heap.size v2' z1 := by
                  rw [HTJ.out, outF_snoc, List.length_append, ← HPP.out]
                  exact Rd.grew hs3 hk4
                exact ⟨rfl, (Rd.keeps hsp hk14 (fun e => by have : g1 = g2 := e; omega) (fun b e f => by have : b = g2 := f; have := hvl1 b e; have := ((Rd.row hsp).lt b e); omega)) , hfin, hbN.keeps hk14 (fun e => by have : gN = g2 := e; omega), hNa.keeps hk14 (fun b e f => by have : b = g2 := f; have := (hla b e).2; omega), hNb.keeps hk14 (fun b e f => by have : b = g2 := f; have := (hlb b e).2; omega), hKr.andThen hk14 (fun i hi e => by have : i = g2 := e; omega)⟩
              · have hg' : ¬ j < got1.length := hlj
                have HELD : Hid (∀ w', Keeps (One g2) w8 w' → (w'.cell? ⟨gN, 1, Option.none⟩ = some (.slice AM got1.length cM))) := Lib.hid (fun w' h => h.cell (hbN.cell 1 _ rfl) (fun e => by have : gN = g2 := e; omega))
                have hkd : Keeps (One g2) w8 w8.drew := (Keeps.refl _ _).drew
                have hfin : St.at ⟨(outF (got1.take (j + 1))).length, 0, 0⟩ w8.drew g2 wd.heap.size v2' z1 := by
                  have e : got1.take (j + 1) = got1.take j := by rw [List.take_of_length_le (by omega), List.take_of_length_le (by omega)]
                  rw [e]
                  exact Rd.grew hsq (Keeps.refl _ _).drew
                refine start_ (ds := []) (S := (fun w' => w'.cell? ⟨gN, 1, Option.none⟩ = some (.slice AM got1.length cM))) #[false, false, false, false, false, false, false, false, false, false, false, false, false, false, false, false, false, false, false, false, false, false] (by kernel_rfl) rfl rfl (HELD.out _ ((Keeps.refl (One g2) _).drew)) (fun hS0 => ?_)
                refine pure_ (i := 0) (N := some 154) (v := .int .i64 j) #[true, false, false, false, false, false, false, false, false, false, false, false, false, false, false, false, false, false, false, false, false, false] rfl rfl (by kernel_rfl) (fun _ _ _ h => h) (Or.inl ⟨wanted_none rfl, fun w => by rfl⟩) rfl ?_
                try simp only [Act.put, List.setIfInBounds_toArray, List.set_cons_zero, List.set_cons_succ]
                refine pure_ (i := 1) (N := some 155) (v := .pointer (some ⟨gN, 1, Option.none⟩)) #[true, true, false, false, false, false, false, false, false, false, false, false, false, false, false, false, false, false, false, false, false, false] rfl rfl (by kernel_rfl) (fun _ _ _ h => h) (Or.inl ⟨wanted_none rfl, fun w => by go_simp⟩) rfl ?_
                try simp only [Act.put, List.setIfInBounds_toArray, List.set_cons_zero, List.set_cons_succ]
                refine take_ (i := 2) (N := some 156) (v := .slice AM got1.length cM) #[true, true, true, false, false, false, false, false, false, false, false, false, false, false, false, false, false, false, false, false, false, false] rfl rfl (by kernel_rfl) (fun _ _ _ h => h) (Or.inl ⟨wanted_none rfl, by intro w' hSw; go_split_ands; go_simp⟩) hS0 rfl ?_
                try simp only [Act.put, List.setIfInBounds_toArray, List.set_cons_zero, List.set_cons_succ]
                refine pure_ (i := 3) (N := some 157) (v := .int .i64 got1.length) #[true, true, true, true, false, false, false, false, false, false, false, false, false, false, false, false, false, false, false, false, false, false] rfl rfl (by kernel_rfl) (fun _ _ _ h => h) (Or.inl ⟨wanted_none rfl, fun w => by go_simp⟩) rfl ?_
                try simp only [Act.put, List.setIfInBounds_toArray, List.set_cons_zero, List.set_cons_succ]
                refine pure_ (i := 4) (N := some 158) (v := .bool false) #[true, true, true, true, true, false, false, false, false, false, false, false, false, false, false, false, false, false, false, false, false, false] rfl rfl (by kernel_rfl) (fun _ _ _ h => h) (Or.inl ⟨wanted_none rfl, fun w => by go_simp⟩) rfl ?_
                try simp only [Act.put, List.setIfInBounds_toArray, List.set_cons_zero, List.set_cons_succ]
                refine pure_ (i := 5) (N := some 159) (v := .bool false) #[true, true, true, true, true, true, false, false, false, false, false, false, false, false, false, false, false, false, false, false, false, false] rfl rfl (by kernel_rfl) (fun _ _ _ h => h) (Or.inl ⟨wanted_none rfl, fun w => by rfl⟩) rfl ?_
                try simp only [Act.put, List.setIfInBounds_toArray, List.set_cons_zero, List.set_cons_succ]
                refine pure_ (i := 6) (N := some 160) (v := undef) #[true, true, true, true, true, true, true, false, false, false, false, false, false, false, false, false, false, false, false, false, false, false] rfl rfl (by kernel_rfl) (fun _ _ _ h => h) (Or.inr ⟨by rfl, rfl⟩) rfl ?_
                try simp only [Act.put, List.setIfInBounds_toArray, List.set_cons_zero, List.set_cons_succ]
                refine pure_ (i := 7) (N := some 161) (v := undef) #[true, true, true, true, true, true, true, true, false, false, false, false, false, false, false, false, false, false, false, false, false, false] rfl rfl (by kernel_rfl) (fun _ _ _ h => h) (Or.inr ⟨by rfl, rfl⟩) rfl ?_
                try simp only [Act.put, List.setIfInBounds_toArray, List.set_cons_zero, List.set_cons_succ]
                refine pure_ (i := 8) (N := some 162) (v := undef) #[true, true, true, true, true, true, true, true, true, false, false, false, false, false, false, false, false, false, false, false, false, false] rfl rfl (by kernel_rfl) (fun _ _ _ h => h) (Or.inr ⟨by rfl, rfl⟩) rfl ?_
                try simp only [Act.put, List.setIfInBounds_toArray, List.set_cons_zero, List.set_cons_succ]
                refine pure_ (i := 9) (N := some 163) (v := undef) #[true, true, true, true, true, true, true, true, true, true, false, false, false, false, false, false, false, false, false, false, false, false] rfl rfl (by kernel_rfl) (fun _ _ _ h => h) (Or.inr ⟨by rfl, rfl⟩) rfl ?_
                try simp only [Act.put, List.setIfInBounds_toArray, List.set_cons_zero, List.set_cons_succ]
                refine pure_ (i := 10) (N := some 164) (v := undef) #[true, true, true, true, true, true, true, true, true, true, true, false, false, false, false, false, false, false, false, false, false, false] rfl rfl (by kernel_rfl) (fun _ _ _ h => h) (Or.inr ⟨by rfl, rfl⟩) rfl ?_
                try simp only [Act.put, List.setIfInBounds_toArray, List.set_cons_zero, List.set_cons_succ]
                refine pure_ (i := 11) (N := some 165) (v := undef) #[true, true, true, true, true, true, true, true, true, true, true, true, false, false, false, false, false, false, false, false, false, false] rfl rfl (by kernel_rfl) (fun _ _ _ h => h) (Or.inr ⟨by rfl, rfl⟩) rfl ?_
                try simp only [Act.put, List.setIfInBounds_toArray, List.set_cons_zero, List.set_cons_succ]
                refine pure_ (i := 12) (N := some 166) (v := undef) #[true, true, true, true, true, true, true, true, true, true, true, true, true, false, false, false, false, false, false, false, false, false] rfl rfl (by kernel_rfl) (fun _ _ _ h => h) (Or.inr ⟨by rfl, rfl⟩) rfl ?_
                try simp only [Act.put, List.setIfInBounds_toArray, List.set_cons_zero, List.set_cons_succ]
                refine pure_ (i := 13) (N := some 167) (v := undef) #[true, true, true, true, true, true, true, true, true, true, true, true, true, true, false, false, false, false, false, false, false, false] rfl rfl (by kernel_rfl) (fun _ _ _ h => h) (Or.inr ⟨by rfl, rfl⟩) rfl ?_
                try simp only [Act.put, List.setIfInBounds_toArray, List.set_cons_zero, List.set_cons_succ]
                refine pure_ (i := 14) (N := some 168) (v := undef) #[true, true, true, true, true, true, true, true, true, true, true, true, true, true, true, false, false, false, false, false, false, false] rfl rfl (by kernel_rfl) (fun _ _ _ h => h) (Or.inr ⟨by rfl, rfl⟩) rfl ?_
                try simp only [Act.put, List.setIfInBounds_toArray, List.set_cons_zero, List.set_cons_succ]
                refine pure_ (i := 15) (N := some 169) (v := undef) #[true, true, true, true, true, true, true, true, true, true, true, true, true, true, true, true, false, false, false, false, false, false] rfl rfl (by kernel_rfl) (fun _ _ _ h => h) (Or.inr ⟨by rfl, rfl⟩) rfl ?_
                try simp only [Act.put, List.setIfInBounds_toArray, List.set_cons_zero, List.set_cons_succ]
                refine pure_ (i := 16) (N := some 170) (v := undef) #[true, true, true, true, true, true, true, true, true, true, true, true, true, true, true, true, true, false, false, false, false, false] rfl rfl (by kernel_rfl) (fun _ _ _ h => h) (Or.inr ⟨by rfl, rfl⟩) rfl ?_
                try simp only [Act.put, List.setIfInBounds_toArray, List.set_cons_zero, List.set_cons_succ]
                refine pure_ (i := 17) (N := some 171) (v := undef) #[true, true, true, true, true, true, true, true, true, true, true, true, true, true, true, true, true, true, false, false, false, false] rfl rfl (by kernel_rfl) (fun _ _ _ h => h) (Or.inr ⟨by rfl, rfl⟩) rfl ?_
                try simp only [Act.put, List.setIfInBounds_toArray, List.set_cons_zero, List.set_cons_succ]
                refine pure_ (i := 18) (N := some 172) (v := undef) #[true, true, true, true, true, true, true, true, true, true, true, true, true, true, true, true, true, true, true, false, false, false] rfl rfl (by kernel_rfl) (fun _ _ _ h => h) (Or.inr ⟨by rfl, rfl⟩) rfl ?_
                try simp only [Act.put, List.setIfInBounds_toArray, List.set_cons_zero, List.set_cons_succ]
                refine pure_ (i := 19) (N := some 173) (v := undef) #[true, true, true, true, true, true, true, true, true, true, true, true, true, true, true, true, true, true, true, true, false, false] rfl rfl (by kernel_rfl) (fun _ _ _ h => h) (Or.inr ⟨by rfl, rfl⟩) rfl ?_
                try simp only [Act.put, List.setIfInBounds_toArray, List.set_cons_zero, List.set_cons_succ]
                refine pure_ (i := 20) (N := some 174) (v := undef) #[true, true, true, true, true, true, true, true, true, true, true, true, true, true, true, true, true, true, true, true, true, false] rfl rfl (by kernel_rfl) (fun _ _ _ h => h) (Or.inr ⟨by rfl, rfl⟩) rfl ?_
                try simp only [Act.put, List.setIfInBounds_toArray, List.set_cons_zero, List.set_cons_succ]
                refine pure_ (i := 21) (N := some 175) (v := .bool false) #[true, true, true, true, true, true, true, true, true, true, true, true, true, true, true, true, true, true, true, true, true, true] rfl rfl (by kernel_rfl) (fun _ _ _ h => h) (Or.inl ⟨wanted_none rfl, fun w => by go_simp⟩) rfl ?_
                try simp only [Act.put, List.setIfInBounds_toArray, List.set_cons_zero, List.set_cons_succ]
                refine done_ (by kernel_rfl) ?_
                go_wp2_with fail
                go_meet
                exact ⟨rfl, (Rd.keeps hsp hkd (fun e => by have : g1 = g2 := e; omega) (fun b e f => by have : b = g2 := f; have := hvl1 b e; have := ((Rd.row hsp).lt b e); omega)) , hfin, hbN.keeps hkd (fun e => by have : gN = g2 := e; omega), hNa.keeps hkd (fun b e f => by have : b = g2 := f; have := (hla b e).2; omega), hNb.keeps hkd (fun b e f => by have : b = g2 := f; have := (hlb b e).2; omega), hKr.andThen hkd (fun i hi e => by have : i = g2 := e; omega)⟩
            case rest =>
              obtain ⟨rfl, hsp2, hsq2, hbN2, hNa2, hNb2, hKr2⟩ := hcut
              go_wp2_with fail
              go_roundw
              case rel => exact ⟨j + 1, by have := HMORE.out; omega, by go_num, hsp2, hsq2, hbN2, hNa2, hNb2, hKr2⟩
              case measure => have := HMORE.out; simp [intOf]; omega
        · have hl1 : j < got1.length := by (rcases HMORE.out with h | h; (exact absurd h hl0); exact h)
          go_upto_region 29 with (fail)
          go_cut [153] (fun x wx => x = .bool false ∧ St.at ⟨(outF (got0.take (j + 1))).length, 0, 0⟩ wx g1 wb.heap.size v1' z0 ∧ St.at ⟨(outF (got1.take j)).length, 0, 0⟩ wx g2 wd.heap.size v2' z1 ∧ Blk wx gN 56 [.slice AN got0.length cN, .slice AM got1.length cM] ∧ Now wx (gA + 1) (.slice AN got0.length cN) got0 ∧ Now wx (gA + 1) (.slice AM got1.length cM) got1 ∧ Keeps None w wx)
          case first =>
            have hlj : ¬ j < got0.length := hl0
            have hg' : ¬ j < got0.length := hlj
            have HELD : Hid (∀ w', Keeps (One g1) wr w' → (w'.cell? ⟨gN, 0, Option.none⟩ = some (.slice AN got0.length cN))) := Lib.hid (fun w' h => h.cell (hbN.cell 0 _ rfl) (fun e => by have : gN = g1 := e; omega))
            have hkd : Keeps (One g1) wr wr.drew := (Keeps.refl _ _).drew
            have hfin : St.at ⟨(outF (got0.take (j + 1))).length, 0, 0⟩ wr.drew g1 wb.heap.size v1' z0 := by
              have e : got0.take (j + 1) = got0.take j := by rw [List.take_of_length_le (by omega), List.take_of_length_le (by omega)]
              rw [e]
              exact Rd.grew hsp (Keeps.refl _ _).drew
            refine start_ (ds := []) (S := (fun w' => w'.cell? ⟨gN, 0, Option.none⟩ = some (.slice AN got0.length cN))) #[false, false, false, false, false, false, false, false, false, false, false, false, false, false, false, false, false, false, false, false, false, false] (by kernel_rfl) rfl rfl (HELD.out _ ((Keeps.refl (One g1) _).drew)) (fun hS0 => ?_)
            refine pure_ (i := 0) (N := some 132) (v := .int .i64 j) #[true, false, false, false, false, false, false, false, false, false, false, false, false, false, false, false, false, false, false, false, false, false] rfl rfl (by kernel_rfl) (fun _ _ _ h => h) (Or.inl ⟨wanted_none rfl, fun w => by rfl⟩) rfl ?_
            try simp only [Act.put, List.setIfInBounds_toArray, List.set_cons_zero, List.set_cons_succ]
            refine pure_ (i := 1) (N := some 133) (v := .pointer (some ⟨gN, 0, Option.none⟩)) #[true, true, false, false, false, false, false, false, false, false, false, false, false, false, false, false, false, false, false, false, false, false] rfl rfl (by kernel_rfl) (fun _ _ _ h => h) (Or.inl ⟨wanted_none rfl, fun w => by go_simp⟩) rfl ?_
            try simp only [Act.put, List.setIfInBounds_toArray, List.set_cons_zero, List.set_cons_succ]
            refine take_ (i := 2) (N := some 134) (v := .slice AN got0.length cN) #[true, true, true, false, false, false, false, false, false, false, false, false, false, false, false, false, false, false, false, false, false, false] rfl rfl (by kernel_rfl) (fun _ _ _ h => h) (Or.inl ⟨wanted_none rfl, by intro w' hSw; go_split_ands; go_simp⟩) hS0 rfl ?_
            try simp only [Act.put, List.setIfInBounds_toArray, List.set_cons_zero, List.set_cons_succ]
            refine pure_ (i := 3) (N := some 135) (v := .int .i64 got0.length) #[true, true, true, true, false, false, false, false, false, false, false, false, false, false, false, false, false, false, false, false, false, false] rfl rfl (by kernel_rfl) (fun _ _ _ h => h) (Or.inl ⟨wanted_none rfl, fun w => by go_simp⟩) rfl ?_
            try simp only [Act.put, List.setIfInBounds_toArray, List.set_cons_zero, List.set_cons_succ]
            refine pure_ (i := 4) (N := some 136) (v := .bool false) #[true, true, true, true, true, false, false, false, false, false, false, false, false, false, false, false, false, false, false, false, false, false] rfl rfl (by kernel_rfl) (fun _ _ _ h => h) (Or.inl ⟨wanted_none rfl, fun w => by go_simp⟩) rfl ?_
            try simp only [Act.put, List.setIfInBounds_toArray, List.set_cons_zero, List.set_cons_succ]
            refine pure_ (i := 5) (N := some 137) (v := .bool false) #[true, true, true, true, true, true, false, false, false, false, false, false, false, false, false, false, false, false, false, false, false, false] rfl rfl (by kernel_rfl) (fun _ _ _ h => h) (Or.inl ⟨wanted_none rfl, fun w => by rfl⟩) rfl ?_
            try simp only [Act.put, List.setIfInBounds_toArray, List.set_cons_zero, List.set_cons_succ]
            refine pure_ (i := 6) (N := some 138) (v := undef) #[true, true, true, true, true, true, true, false, false, false, false, false, false, false, false, false, false, false, false, false, false, false] rfl rfl (by kernel_rfl) (fun _ _ _ h => h) (Or.inr ⟨by rfl, rfl⟩) rfl ?_
            try simp only [Act.put, List.setIfInBounds_toArray, List.set_cons_zero, List.set_cons_succ]
            refine pure_ (i := 7) (N := some 139) (v := undef) #[true, true, true, true, true, true, true, true, false, false, false, false, false, false, false, false, false, false, false, false, false, false] rfl rfl (by kernel_rfl) (fun _ _ _ h => h) (Or.inr ⟨by rfl, rfl⟩) rfl ?_
            try simp only [Act.put, List.setIfInBounds_toArray, List.set_cons_zero, List.set_cons_succ]
            refine pure_ (i := 8) (N := some 140) (v := undef) #[true, true, true, true, true, true, true, true, true, false, false, false, false, false, false, false, false, false, false, false, false, false] rfl rfl (by kernel_rfl) (fun _ _ _ h => h) (Or.inr ⟨by rfl, rfl⟩) rfl ?_
            try simp only [Act.put, List.setIfInBounds_toArray, List.set_cons_zero, List.set_cons_succ]
            refine pure_ (i := 9) (N := some 141) (v := undef) #[true, true, true, true, true, true, true, true, true, true, false, false, false, false, false, false, false, false, false, false, false, false] rfl rfl (by kernel_rfl) (fun _ _ _ h => h) (Or.inr ⟨by rfl, rfl⟩) rfl ?_
            try simp only [Act.put, List.setIfInBounds_toArray, List.set_cons_zero, List.set_cons_succ]
            refine pure_ (i := 10) (N := some 142) (v := undef) #[true, true, true, true, true, true, true, true, true, true, true, false, false, false, false, false, false, false, false, false, false, false] rfl rfl (by kernel_rfl) (fun _ _ _ h => h) (Or.inr ⟨by rfl, rfl⟩) rfl ?_
            try simp only [Act.put, List.setIfInBounds_toArray, List.set_cons_zero, List.set_cons_succ]
            refine pure_ (i := 11) (N := some 143) (v := undef) #[true, true, true, true, true, true, true, true, true, true, true, true, false, false, false, false, false, false, false, false, false, false] rfl rfl (by kernel_rfl) (fun _ _ _ h => h) (Or.inr ⟨by rfl, rfl⟩) rfl ?_
            try simp only [Act.put, List.setIfInBounds_toArray, List.set_cons_zero, List.set_cons_succ]
            refine pure_ (i := 12) (N := some 144) (v := undef) #[true, true, true, true, true, true, true, true, true, true, true, true, true, false, false, false, false, false, false, false, false, false] rfl rfl (by kernel_rfl) (fun _ _ _ h => h) (Or.inr ⟨by rfl, rfl⟩) rfl ?_
            try simp only [Act.put, List.setIfInBounds_toArray, List.set_cons_zero, List.set_cons_succ]
            refine pure_ (i := 13) (N := some 145) (v := undef) #[true, true, true, true, true, true, true, true, true, true, true, true, true, true, false, false, false, false, false, false, false, false] rfl rfl (by kernel_rfl) (fun _ _ _ h => h) (Or.inr ⟨by rfl, rfl⟩) rfl ?_
            try simp only [Act.put, List.setIfInBounds_toArray, List.set_cons_zero, List.set_cons_succ]
            refine pure_ (i := 14) (N := some 146) (v := undef) #[true, true, true, true, true, true, true, true, true, true, true, true, true, true, true, false, false, false, false, false, false, false] rfl rfl (by kernel_rfl) (fun _ _ _ h => h) (Or.inr ⟨by rfl, rfl⟩) rfl ?_
            try simp only [Act.put, List.setIfInBounds_toArray, List.set_cons_zero, List.set_cons_succ]
            refine pure_ (i := 15) (N := some 147) (v := undef) #[true, true, true, true, true, true, true, true, true, true, true, true, true, true, true, true, false, false, false, false, false, false] rfl rfl (by kernel_rfl) (fun _ _ _ h => h) (Or.inr ⟨by rfl, rfl⟩) rfl ?_
            try simp only [Act.put, List.setIfInBounds_toArray, List.set_cons_zero, List.set_cons_succ]
            refine pure_ (i := 16) (N := some 148) (v := undef) #[true, true, true, true, true, true, true, true, true, true, true, true, true, true, true, true, true, false, false, false, false, false] rfl rfl (by kernel_rfl) (fun _ _ _ h => h) (Or.inr ⟨by rfl, rfl⟩) rfl ?_
            try simp only [Act.put, List.setIfInBounds_toArray, List.set_cons_zero, List.set_cons_succ]
            refine pure_ (i := 17) (N := some 149) (v := undef) #[true, true, true, true, true, true, true, true, true, true, true, true, true, true, true, true, true, true, false, false, false, false] rfl rfl (by kernel_rfl) (fun _ _ _ h => h) (Or.inr ⟨by rfl, rfl⟩) rfl ?_
            try simp only [Act.put, List.setIfInBounds_toArray, List.set_cons_zero, List.set_cons_succ]
            refine pure_ (i := 18) (N := some 150) (v := undef) #[true, true, true, true, true, true, true, true, true, true, true, true, true, true, true, true, true, true, true, false, false, false] rfl rfl (by kernel_rfl) (fun _ _ _ h => h) (Or.inr ⟨by rfl, rfl⟩) rfl ?_
            try simp only [Act.put, List.setIfInBounds_toArray, List.set_cons_zero, List.set_cons_succ]
            refine pure_ (i := 19) (N := some 151) (v := undef) #[true, true, true, true, true, true, true, true, true, true, true, true, true, true, true, true, true, true, true, true, false, false] rfl rfl (by kernel_rfl) (fun _ _ _ h => h) (Or.inr ⟨by rfl, rfl⟩) rfl ?_
            try simp only [Act.put, List.setIfInBounds_toArray, List.set_cons_zero, List.set_cons_succ]
            refine pure_ (i := 20) (N := some 152) (v := undef) #[true, true, true, true, true, true, true, true, true, true, true, true, true, true, true, true, true, true, true, true, true, false] rfl rfl (by kernel_rfl) (fun _ _ _ h => h) (Or.inr ⟨by rfl, rfl⟩) rfl ?_
            try simp only [Act.put, List.setIfInBounds_toArray, List.set_cons_zero, List.set_cons_succ]
            refine pure_ (i := 21) (N := some 153) (v := .bool false) #[true, true, true, true, true, true, true, true, true, true, true, true, true, true, true, true, true, true, true, true, true, true] rfl rfl (by kernel_rfl) (fun _ _ _ h => h) (Or.inl ⟨wanted_none rfl, fun w => by go_simp⟩) rfl ?_
            try simp only [Act.put, List.setIfInBounds_toArray, List.set_cons_zero, List.set_cons_succ]
            refine done_ (by kernel_rfl) ?_
            go_wp2_with fail
            go_meet
            exact ⟨rfl, hfin, (Rd.keeps hsq hkd (fun e => by have : g2 = g1 := e; omega) (fun b e f => by have : b = g1 := f; have := ((Rd.row hsq).lt b e); omega)), hbN.keeps hkd (fun e => by have : gN = g1 := e; omega), hNa.keeps hkd (fun b e f => by have : b = g1 := f; have := (hla b e).2; omega), hNb.keeps hkd (fun b e f => by have : b = g1 := f; have := (hlb b e).2; omega), hKr.andThen hkd (fun i hi e => by have : i = g1 := e; omega)⟩
          case rest =>
            obtain ⟨rfl, hsp2, hsq2, hbN2, hNa2, hNb2, hKr2⟩ := hcut
            clear hsp hsq hbN hNa hNb hKr hcn0 hcn1
            rename World => w8
            have hsp := hsp2
            have hsq := hsq2
            have hbN := hbN2
            have hNa := hNa2
            have hNb := hNb2
            have hKr := hKr2
            clear hsp2 hsq2 hbN2 hNa2 hNb2 hKr2
            have hcn0 := hbN.cell 0 _ rfl
            have hcn1 := hbN.cell 1 _ rfl
            go_upto_region 31 with (fail)
            go_cut [175] (fun x wx => x = .bool false ∧ St.at ⟨(outF (got0.take (j + 1))).length, 0, 0⟩ wx g1 wb.heap.size v1' z0 ∧ St.at ⟨(outF (got1.take (j + 1))).length, 0, 0⟩ wx g2 wd.heap.size v2' z1 ∧ Blk wx gN 56 [.slice AN got0.length cN, .slice AM got1.length cM] ∧ Now wx (gA + 1) (.slice AN got0.length cN) got0 ∧ Now wx (gA + 1) (.slice AM got1.length cM) got1 ∧ Keeps None w wx)
            case first =>
              have hlj : j < got1.length := hl1
              obtain ⟨x, hx⟩ : ∃ x, got1[j]? = some x := ⟨_, List.getElem?_eq_getElem hlj⟩
              have HGOOD := Lib.hid (HO1.out x (List.mem_of_getElem? hx))
              have HTJ := Lib.hid (take_succ_of hx)
              have hdrop : z1.drop (outF (got1.take j)).length = x.out ++ outF (got1.drop (j + 1)) := by
                have e1 : got1 = got1.take j ++ x :: got1.drop (j + 1) := by
                  obtain ⟨hl', he⟩ := List.getElem?_eq_some_iff.1 hx
                  rw [← he, List.getElem_cons_drop hl', List.take_append_drop]
                have e2 : outF got1 = outF (got1.take j) ++ (x.out ++ outF (got1.drop (j + 1))) := by
                  conv => lhs; rw [e1]
                  simp [outF]
                rw [HZ1.out, e2, List.drop_left]
              obtain ⟨P, hP⟩ : ∃ P, P = (outF (got1.take j)).length := ⟨_, rfl⟩
              rw [← hP] at hdrop
              have hsP : St.at ⟨P, 0, 0⟩ w8 g2 wd.heap.size v2' z1 := by rw [hP]; exact hsq
              have HPP := Lib.hid hP
              have HDROP := Lib.hid hdrop
              obtain ⟨A', c', ev', hc', hI⟩ := hNb.open_
              cases ev'
              obtain ⟨b, o, rfl, u0, u1, u2⟩ := hI j _ hx
              obtain ⟨kd, nn, Ay, ly, cy, bs⟩ := x
              simp only at u0 u1 u2
              have hbl := (hlb b rfl).2
              have held : ∀ w', Keeps (One g2) w8 w' → (w'.cell? ⟨gN, 1, Option.none⟩ = some (.slice (some ⟨b, o, Option.none⟩) got1.length cM) ∧ w'.cell? ⟨b, o + j * 3, Option.none⟩ = some (.int .i64 kd) ∧ w'.cell? ⟨b, o + j * 3 + 1, Option.none⟩ = some (.int .i64 nn) ∧ w'.cell? ⟨b, o + j * 3 + 2, Option.none⟩ = some (.slice Ay ly cy)) :=
                fun w' h => ⟨h.cell (hbN.cell 1 _ rfl) (fun e => by have : gN = g2 := e; omega), h.cell u0 (fun e => by have : b = g2 := e; omega), h.cell u1 (fun e => by have : b = g2 := e; omega), h.cell u2 (fun e => by have : b = g2 := e; omega)⟩
              have HELD := Lib.hid held
              have HNUM : Hid (∀ w', Keeps (One g2) w8 w' → Nums .u8 w' Ay bs) := Lib.hid (fun w' h => HGOOD.out.ok.nums.grew (hKr.andThen h (fun i hi e => by have : i = g2 := e; omega)))
              have hly : ly ≤ 65536 := HGOOD.out.ok.long
              clear hI hx hP hdrop held u0 u1 u2
              refine start_ (ds := []) (S := (fun w' => w'.cell? ⟨gN, 1, Option.none⟩ = some (.slice (some ⟨b, o, Option.none⟩) got1.length cM) ∧ w'.cell? ⟨b, o + j * 3, Option.none⟩ = some (.int .i64 kd) ∧ w'.cell? ⟨b, o + j * 3 + 1, Option.none⟩ = some (.int .i64 nn) ∧ w'.cell? ⟨b, o + j * 3 + 2, Option.none⟩ = some (.slice Ay ly cy))) #[false, false, false, false, false, false, false, false, false, false, false, false, false, false, false, false, false, false, false, false, false, false] (by kernel_rfl) rfl rfl (HELD.out _ ((Keeps.refl (One g2) _).drew)) (fun hS0 => ?_)
              refine pure_ (i := 0) (N := some 154) (v := .int .i64 j) #[true, false, false, false, false, false, false, false, false, false, false, false, false, false, false, false, false, false, false, false, false, false] rfl rfl (by kernel_rfl) (fun _ _ _ h => h) (Or.inl ⟨wanted_none rfl, fun w => by rfl⟩) rfl ?_
              try simp only [Act.put, List.setIfInBounds_toArray, List.set_cons_zero, List.set_cons_succ]
              refine pure_ (i := 1) (N := some 155) (v := .pointer (some ⟨gN, 1, Option.none⟩)) #[true, true, false, false, false, false, false, false, false, false, false, false, false, false, false, false, false, false, false, false, false, false] rfl rfl (by kernel_rfl) (fun _ _ _ h => h) (Or.inl ⟨wanted_none rfl, fun w => by go_simp⟩) rfl ?_
              try simp only [Act.put, List.setIfInBounds_toArray, List.set_cons_zero, List.set_cons_succ]
              refine take_ (i := 2) (N := some 156) (v := .slice (some ⟨b, o, Option.none⟩) got1.length cM) #[true, true, true, false, false, false, false, false, false, false, false, false, false, false, false, false, false, false, false, false, false, false] rfl rfl (by kernel_rfl) (fun _ _ _ h => h) (Or.inl ⟨wanted_none rfl, by intro w' hSw; go_split_ands; go_simp⟩) hS0 rfl ?_
              try simp only [Act.put, List.setIfInBounds_toArray, List.set_cons_zero, List.set_cons_succ]
              refine pure_ (i := 3) (N := some 157) (v := .int .i64 got1.length) #[true, true, true, true, false, false, false, false, false, false, false, false, false, false, false, false, false, false, false, false, false, false] rfl rfl (by kernel_rfl) (fun _ _ _ h => h) (Or.inl ⟨wanted_none rfl, fun w => by go_simp⟩) rfl ?_
              try simp only [Act.put, List.setIfInBounds_toArray, List.set_cons_zero, List.set_cons_succ]
              refine pure_ (i := 4) (N := some 158) (v := .bool true) #[true, true, true, true, true, false, false, false, false, false, false, false, false, false, false, false, false, false, false, false, false, false] rfl rfl (by kernel_rfl) (fun _ _ _ h => h) (Or.inl ⟨wanted_none rfl, fun w => by go_simp⟩) rfl ?_
              try simp only [Act.put, List.setIfInBounds_toArray, List.set_cons_zero, List.set_cons_succ]
              refine pure_ (i := 5) (N := some 159) (v := .bool true) #[true, true, true, true, true, true, false, false, false, false, false, false, false, false, false, false, false, false, false, false, false, false] rfl rfl (by kernel_rfl) (fun _ _ _ h => h) (Or.inl ⟨wanted_none rfl, fun w => by rfl⟩) rfl ?_
              try simp only [Act.put, List.setIfInBounds_toArray, List.set_cons_zero, List.set_cons_succ]
              refine pure_ (i := 6) (N := some 160) (v := .pointer (some ⟨g2, 0, Option.none⟩)) #[true, true, true, true, true, true, true, false, false, false, false, false, false, false, false, false, false, false, false, false, false, false] rfl rfl (by kernel_rfl) (fun _ _ _ h => h) (Or.inl ⟨by rfl, fun w => by rfl⟩) rfl ?_
              try simp only [Act.put, List.setIfInBounds_toArray, List.set_cons_zero, List.set_cons_succ]
              refine pure_ (i := 7) (N := some 161) (v := .pointer (some ⟨gN, 1, Option.none⟩)) #[true, true, true, true, true, true, true, true, false, false, false, false, false, false, false, false, false, false, false, false, false, false] rfl rfl (by kernel_rfl) (fun _ _ _ h => h) (Or.inl ⟨by rfl, fun w => by go_simp⟩) rfl ?_
              try simp only [Act.put, List.setIfInBounds_toArray, List.set_cons_zero, List.set_cons_succ]
              refine take_ (i := 8) (N := some 162) (v := .slice (some ⟨b, o, Option.none⟩) got1.length cM) #[true, true, true, true, true, true, true, true, true, false, false, false, false, false, false, false, false, false, false, false, false, false] rfl rfl (by kernel_rfl) (fun _ _ _ h => h) (Or.inl ⟨by rfl, by intro w' hSw; go_split_ands; go_simp⟩) hS0 rfl ?_
              try simp only [Act.put, List.setIfInBounds_toArray, List.set_cons_zero, List.set_cons_succ]
              refine pure_ (i := 9) (N := some 163) (v := .int .i64 j) #[true, true, true, true, true, true, true, true, true, true, false, false, false, false, false, false, false, false, false, false, false, false] rfl rfl (by kernel_rfl) (fun _ _ _ h => h) (Or.inl ⟨by rfl, fun w => by rfl⟩) rfl ?_
              try simp only [Act.put, List.setIfInBounds_toArray, List.set_cons_zero, List.set_cons_succ]
              refine pure_ (i := 10) (N := some 164) (v := .pointer (some ⟨b, o + j * 3, Option.none⟩)) #[true, true, true, true, true, true, true, true, true, true, true, false, false, false, false, false, false, false, false, false, false, false] rfl rfl (by kernel_rfl) (fun _ _ _ h => h) (Or.inl ⟨by rfl, fun w => by go_simp⟩) rfl ?_
              try simp only [Act.put, List.setIfInBounds_toArray, List.set_cons_zero, List.set_cons_succ]
              refine pure_ (i := 11) (N := some 165) (v := .pointer (some ⟨b, o + j * 3, Option.none⟩)) #[true, true, true, true, true, true, true, true, true, true, true, true, false, false, false, false, false, false, false, false, false, false] rfl rfl (by kernel_rfl) (fun _ _ _ h => h) (Or.inl ⟨by rfl, fun w => by go_simp⟩) rfl ?_
              try simp only [Act.put, List.setIfInBounds_toArray, List.set_cons_zero, List.set_cons_succ]
              refine take_ (i := 12) (N := some 166) (v := .int .i64 kd) #[true, true, true, true, true, true, true, true, true, true, true, true, true, false, false, false, false, false, false, false, false, false] rfl rfl (by kernel_rfl) (fun _ _ _ h => h) (Or.inl ⟨by rfl, by intro w' hSw; go_split_ands; go_simp⟩) hS0 rfl ?_
              try simp only [Act.put, List.setIfInBounds_toArray, List.set_cons_zero, List.set_cons_succ]
              refine pure_ (i := 14) (N := some 168) (v := .pointer (some ⟨gN, 1, Option.none⟩)) #[true, true, true, true, true, true, true, true, true, true, true, true, true, false, true, false, false, false, false, false, false, false] rfl rfl (by kernel_rfl) (fun _ _ _ h => h) (Or.inl ⟨by rfl, fun w => by go_simp⟩) rfl ?_
              try simp only [Act.put, List.setIfInBounds_toArray, List.set_cons_zero, List.set_cons_succ]
              refine take_ (i := 15) (N := some 169) (v := .slice (some ⟨b, o, Option.none⟩) got1.length cM) #[true, true, true, true, true, true, true, true, true, true, true, true, true, false, true, true, false, false, false, false, false, false] rfl rfl (by kernel_rfl) (fun _ _ _ h => h) (Or.inl ⟨by rfl, by intro w' hSw; go_split_ands; go_simp⟩) hS0 rfl ?_
              try simp only [Act.put, List.setIfInBounds_toArray, List.set_cons_zero, List.set_cons_succ]
              refine pure_ (i := 16) (N := some 170) (v := .int .i64 j) #[true, true, true, true, true, true, true, true, true, true, true, true, true, false, true, true, true, false, false, false, false, false] rfl rfl (by kernel_rfl) (fun _ _ _ h => h) (Or.inl ⟨by rfl, fun w => by rfl⟩) rfl ?_
              try simp only [Act.put, List.setIfInBounds_toArray, List.set_cons_zero, List.set_cons_succ]
              refine pure_ (i := 17) (N := some 171) (v := .pointer (some ⟨b, o + j * 3, Option.none⟩)) #[true, true, true, true, true, true, true, true, true, true, true, true, true, false, true, true, true, true, false, false, false, false] rfl rfl (by kernel_rfl) (fun _ _ _ h => h) (Or.inl ⟨by rfl, fun w => by go_simp⟩) rfl ?_
              try simp only [Act.put, List.setIfInBounds_toArray, List.set_cons_zero, List.set_cons_succ]
              refine take_ (i := 18) (N := some 172) (v := .agg #[.int .i64 kd, .int .i64 nn, .slice Ay ly cy]) #[true, true, true, true, true, true, true, true, true, true, true, true, true, false, true, true, true, true, true, false, false, false] rfl rfl (by kernel_rfl) (fun _ _ _ h => h) (Or.inl ⟨by rfl, by intro w' hSw; go_split_ands; go_simp⟩) hS0 rfl ?_
              try simp only [Act.put, List.setIfInBounds_toArray, List.set_cons_zero, List.set_cons_succ]
              refine one_ (i := 13) (oi := ({ dst := some 167, op := Op.call { callee := Callee.value (Operand.func 33), args := #[Operand.tmp 160, Operand.tmp 166], argTypes := #[47, 3] }, type := 32, pos := "outright.go:181", after := #[{ on := 6, ground := Ground.data }, { on := 12, ground := Ground.data }, { on := 5, ground := Ground.chain }, { on := 5, ground := Ground.guard }], guard := some (5, true) } : Oper)) (N := some 167) #[true, true, true, true, true, true, true, true, true, true, true, true, true, true, true, true, true, true, true, false, false, false] rfl rfl (by kernel_rfl) (by decide) ?_
              intro KK hKK
              refine goes_ Try.func33 (by kernel_rfl) rfl #[.pointer (some ⟨g2, 0, Option.none⟩), .int .i64 kd] (by rfl) rfl rfl (by simp [Act.eval]) ?_
              refine (cread_back g2 wd.heap.size v2' z1 (outF (got1.drop (j + 1))) ⟨kd, nn, Ay, ly, cy, bs⟩ P _ w (Rd.grew hsP (Keeps.refl None _).drew) hzr1 HBY1.out HGOOD.out HDROP.out).mono ?_
              rintro e w3 ⟨nn2, A2, l2, c2, rfl, hn2, hb2, hs3, hk3⟩
              have HN2 := Lib.hid hn2
              have HB2 := Lib.hid hb2
              clear hn2 hb2
              have hk13 : Keeps (One g2) w8 w3 := (Keeps.refl _ _).drew.trans hk3
              refine ⟨_, rfl, hKK.out _ _ (HELD.out _ (hk13)) (fun hS1 => ?_)⟩
              try simp only [Act.put, List.setIfInBounds_toArray, List.set_cons_zero, List.set_cons_succ]
              refine one_ (i := 19) (oi := ({ dst := some 173, op := Op.call { callee := Callee.value (Operand.func 32), args := #[Operand.tmp 167, Operand.tmp 172], argTypes := #[32, 32] }, type := 4, pos := "outright.go:181", after := #[{ on := 13, ground := Ground.data }, { on := 18, ground := Ground.data }, { on := 13, ground := Ground.chain }, { on := 5, ground := Ground.guard }], guard := some (5, true) } : Oper)) (N := some 173) #[true, true, true, true, true, true, true, true, true, true, true, true, true, true, true, true, true, true, true, true, false, false] rfl rfl (by kernel_rfl) (by decide) ?_
              intro KK hKK
              refine goes_ Try.func32 (by kernel_rfl) rfl #[.agg #[.int .i64 kd, .int .i64 nn2, .slice A2 l2 c2], .agg #[.int .i64 kd, .int .i64 nn, .slice Ay ly cy]] (by rfl) rfl rfl (by simp [Act.eval]) ?_
              refine (sameitem_any kd nn2 nn bs A2 l2 c2 Ay ly cy _ HN2.out HB2.out (HNUM.out _ hk13) HGOOD.out.ok.len (by omega)).mono ?_
              rintro e w4 ⟨rfl, hk4⟩
              have hk14 : Keeps (One g2) w8 w4 := hk13.trans hk4.of_none
              refine ⟨_, rfl, hKK.out _ _ (HELD.out _ (hk14)) (fun hS2 => ?_)⟩
              try simp only [Act.put, List.setIfInBounds_toArray, List.set_cons_zero, List.set_cons_succ]
              refine pure_ (i := 20) (N := some 174) (v := .bool false) #[true, true, true, true, true, true, true, true, true, true, true, true, true, true, true, true, true, true, true, true, true, false] rfl rfl (by kernel_rfl) (fun _ _ _ h => h) (Or.inl ⟨by rfl, fun w => by go_simp⟩) rfl ?_
              try simp only [Act.put, List.setIfInBounds_toArray, List.set_cons_zero, List.set_cons_succ]
              refine pure_ (i := 21) (N := some 175) (v := .bool false) #[true, true, true, true, true, true, true, true, true, true, true, true, true, true, true, true, true, true, true, true, true, true] rfl rfl (by kernel_rfl) (fun _ _ _ h => h) (Or.inl ⟨wanted_none rfl, fun w => by go_simp⟩) rfl ?_
              try simp only [Act.put, List.setIfInBounds_toArray, List.set_cons_zero, List.set_cons_succ]
              refine done_ (by kernel_rfl) ?_
              go_wp2_with fail
              go_meet
              have hfin : St.at ⟨(outF (got1.take (j + 1))).length, 0, 0⟩ w4 g2 wd.heap.size v2' z1 := by
                rw [HTJ.out, outF_snoc, List.length_append, ← HPP.out]
                exact Rd.grew hs3 hk4
              exact ⟨rfl, (Rd.keeps hsp hk14 (fun e => by have : g1 = g2 := e; omega) (fun b e f => by have : b = g2 := f; have := hvl1 b e; have := ((Rd.row hsp).lt b e); omega)) , hfin, hbN.keeps hk14 (fun e => by have : gN = g2 := e; omega), hNa.keeps hk14 (fun b e f => by have : b = g2 := f; have := (hla b e).2; omega), hNb.keeps hk14 (fun b e f => by have : b = g2 := f; have := (hlb b e).2; omega), hKr.andThen hk14 (fun i hi e => by have : i = g2 := e; omega)⟩
            case rest =>
              obtain ⟨rfl, hsp2, hsq2, hbN2, hNa2, hNb2, hKr2⟩ := hcut
              go_wp2_with fail
              go_roundw
              case rel => exact ⟨j + 1, by have := HMORE.out; omega, by go_num, hsp2, hsq2, hbN2, hNa2, hNb2, hKr2⟩
              case measure => have := HMORE.out; simp [intOf]; omega
      · have h0 : ¬ j < got0.length := by omega
        have h1 : ¬ j < got1.length := by omega
        rw [List.take_of_length_le (by omega), ← HZ0.out] at hsp
        rw [List.take_of_length_le (by omega), ← HZ1.out] at hsq
        go_wp2_with fail
        refine (rmore_any g1 wb.heap.size v1' z0 ⟨z0.length, 0, 0⟩ wr hsp hzr0).mono ?_
        rintro e w2 ⟨rfl, hd2⟩
        rw [show (decide ((⟨z0.length, 0, 0⟩ : St).err = 0) && decide ((⟨z0.length, 0, 0⟩ : St).p < z0.length)) = false by simp]
        have hsq2 : St.at ⟨z1.length, 0, 0⟩ w2 g2 wd.heap.size v2' z1 := Rd.grew hsq (hd2.keeps None)
        go_wp2_with fail
        refine (rmore_any g2 wd.heap.size v2' z1 ⟨z1.length, 0, 0⟩ w2 hsq2 hzr1).mono ?_
        rintro e w3 ⟨rfl, hd3⟩
        rw [show (decide ((⟨z1.length, 0, 0⟩ : St).err = 0) && decide ((⟨z1.length, 0, 0⟩ : St).p < z1.length)) = false by simp]
        have hK3 := (hKr.trans (hd2.keeps None)).trans (hd3.keeps None)
        go_wp2_with fail
        go_ret
        exact ⟨rfl, hK3.to_below⟩
end Go.Proofs.Ytnhhmkgcgogddaa.apart
