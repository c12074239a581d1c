/- RegisterNewer's walk. -/
import Derived.Test.YtcihfjfbcfgidaaBlocks
import Derived.Test.YtcihfjfbcfgidaaHead
import Derived.Deep.DeepCutAuto
import Derived.Deep.CutBlock
namespace Go.Proofs.Ytcihfjfbcfgidaa
open Go.RowKit Go.Maps Go.Proofs.YtcihfjfbcfgidaaW.PrintLast

/-- What the loop holds: what the document's server holds and what the program's does. -/
structure NwInv (w wr : World) (s1 s2 : Int) (An : Option Addr) (cn : Nat) (v : Value) (xs : List Int) : Prop where
  now : Blk wr (w.heap.size + 1) 26 [.int .i64 s1, .int .i64 s2, .slice An xs.length cn]
  mine : Blk wr (w.heap.size + 1 + 1) 26 [.int .i64 s1, .int .i64 s2, v]
  nums : Nums .u8 w An xs
  row : Row .u8 5 wr (w.heap.size + 3) v xs
  most : xs.length ≤ 140737488351232
  keep : Keeps None w wr

theorem newer_call (s1 s2 t1 t2 : Int) (A : Option Addr) (cap : Nat) (xs : List Int) (B : Option Addr) (cap' : Nat) (ys ds : List Int) (u1 u2 : Int) (L : Bool) (w : World) (hX : Nums .u8 w A xs) (hY : Nums .u8 w B ys) (hx : xs.length ≤ 140737488351232) (hy : ys.length ≤ 140737488351232)
    (h1 : u1 = (newF (s1, s2) (t1, t2) xs ys).1.1) (h2 : u2 = (newF (s1, s2) (t1, t2) xs ys).1.2) (h3 : ds = (newF (s1, s2) (t1, t2) xs ys).2) (h4 : L = lessF (s1, s2) (t1, t2)) :
    Calls Try.prog 10 #[.agg #[.int .i64 s1, .int .i64 s2, .slice A xs.length cap], .agg #[.int .i64 t1, .int .i64 t2], .slice B ys.length cap'] w fun e w' =>
      ∃ Ax cx, e = .returned (.tuple #[.agg #[.int .i64 u1, .int .i64 u2, .slice Ax ds.length cx], .bool L]) ∧ Row .u8 5 w' w.heap.size (.slice Ax ds.length cx) ds ∧ Keeps None w w' := by
  refine (newer_any s1 s2 A cap xs t1 t2 B cap' ys w hX hY hx hy).mono ?_
  rintro e w' ⟨v, rfl, hR, hk⟩
  subst h1 h2 h3 h4
  obtain ⟨Ax, cx, rfl⟩ := hR.slice
  exact ⟨Ax, cx, rfl, hR, hk⟩

theorem refnewer_call (s1 s2 t1 t2 : Int) (A : Option Addr) (cap : Nat) (xs : List Int) (B : Option Addr) (cap' : Nat) (ys ds : List Int) (u1 u2 : Int) (L : Bool) (w0 : World) (hX : Nums .u8 w0 A xs) (hY : Nums .u8 w0 B ys)
    (h1 : u1 = (newF (s1, s2) (t1, t2) xs ys).1.1) (h2 : u2 = (newF (s1, s2) (t1, t2) xs ys).1.2) (h3 : ds = (newF (s1, s2) (t1, t2) xs ys).2) (h4 : L = lessF (s1, s2) (t1, t2)) :
    ∃ Aw cw, Nums .u8 w0 Aw ds ∧ ∀ w, Calls Try.prog 11 #[.agg #[.int .i64 s1, .int .i64 s2, .slice A xs.length cap], .agg #[.int .i64 t1, .int .i64 t2], .slice B ys.length cap'] w fun e w' =>
      e = .returned (.tuple #[.agg #[.int .i64 u1, .int .i64 u2, .slice Aw ds.length cw], .bool L]) ∧ Keeps None w w' := by
  subst h1 h2 h3 h4
  cases hL : lessF (s1, s2) (t1, t2)
  · refine ⟨A, cap, by simpa [newF, hL] using hX, fun w => (refnewer_any s1 s2 A xs.length cap t1 t2 B ys.length cap' w).mono ?_⟩
    rintro e w' ⟨rfl, hk⟩
    exact ⟨by simp [newF, hL, blkV], hk⟩
  · refine ⟨B, cap', by simpa [newF, hL] using hY, fun w => (refnewer_any s1 s2 A xs.length cap t1 t2 B ys.length cap' w).mono ?_⟩
    rintro e w' ⟨rfl, hk⟩
    exact ⟨by simp [newF, hL, blkV], hk⟩

theorem newF_most (s t : Int × Int) (xs ys : List Int) (n : Nat) (hx : xs.length ≤ n) (hy : ys.length ≤ n) : (newF s t xs ys).2.length ≤ n := by
  unfold newF; split
  · exact hy
  · exact hx

set_option maxRecDepth 100000 in
set_option maxHeartbeats 4000000 in
theorem rnewer_any (held : Bk) (A : Option Addr) (n cap : Nat) (puts : List Bk) (w : World) (hH : held.Raw w) (hA : BksAt w A puts) (hP : ∀ x ∈ puts, x.Raw w) (hn : puts.length = n) (hr : n ≤ 140737488351232) :
    Calls Try.prog 3 #[.agg held.cells.toArray, .slice A n cap] w fun e w' => e = .returned (.bool true) ∧ Keeps None w w' := by
  obtain ⟨i0, hi, hz0, hz1, hz2⟩ := info_parts Try.infoU8
  subst hn
  obtain ⟨s1, s2, Ah, lh, ch, xs⟩ := held
  obtain ⟨h1, h2, h3, h4, h5, h6, h7⟩ := hH
  simp only at h1 h2 h3 h4 h5 h6 h7
  subst h2
  simp only [Bk.cells]
  go_enter Try.func3, Try.ntmps3
  have kZ : Keeps None w ((((w.alloc (.cells #[.int .i64 s1, .int .i64 s2, .slice Ah xs.length ch] 26)).alloc (.cells #[.int .i64 s1, .int .i64 s2, .slice Ah xs.length ch] 26)).alloc (.cells #[.int .i64 s1, .int .i64 s2, .slice Ah xs.length ch] 26)).alloc (.cells #[] 5)) := ((((Keeps.refl None w).alloc _).alloc _).alloc _).alloc _
  have hNow : Blk ((((w.alloc (.cells #[.int .i64 s1, .int .i64 s2, .slice Ah xs.length ch] 26)).alloc (.cells #[.int .i64 s1, .int .i64 s2, .slice Ah xs.length ch] 26)).alloc (.cells #[.int .i64 s1, .int .i64 s2, .slice Ah xs.length ch] 26)).alloc (.cells #[] 5)) (w.heap.size + 1) 26 [.int .i64 s1, .int .i64 s2, .slice Ah xs.length ch] := by
    have := ((Blk.new (w.alloc (.cells #[.int .i64 s1, .int .i64 s2, .slice Ah xs.length ch] 26)) 26 [.int .i64 s1, .int .i64 s2, .slice Ah xs.length ch]).alloc (.cells #[.int .i64 s1, .int .i64 s2, .slice Ah xs.length ch] 26)).alloc (.cells #[] 5)
    rwa [World.size_alloc] at this
  have hMine : Blk ((((w.alloc (.cells #[.int .i64 s1, .int .i64 s2, .slice Ah xs.length ch] 26)).alloc (.cells #[.int .i64 s1, .int .i64 s2, .slice Ah xs.length ch] 26)).alloc (.cells #[.int .i64 s1, .int .i64 s2, .slice Ah xs.length ch] 26)).alloc (.cells #[] 5)) (w.heap.size + 1 + 1) 26 [.int .i64 s1, .int .i64 s2, .slice Ah xs.length ch] := by
    have := (Blk.new ((w.alloc (.cells #[.int .i64 s1, .int .i64 s2, .slice Ah xs.length ch] 26)).alloc (.cells #[.int .i64 s1, .int .i64 s2, .slice Ah xs.length ch] 26)) 26 [.int .i64 s1, .int .i64 s2, .slice Ah xs.length ch]).alloc (.cells #[] 5)
    rwa [World.size_alloc, World.size_alloc] at this
  have hE : Row .u8 5 ((((w.alloc (.cells #[.int .i64 s1, .int .i64 s2, .slice Ah xs.length ch] 26)).alloc (.cells #[.int .i64 s1, .int .i64 s2, .slice Ah xs.length ch] 26)).alloc (.cells #[.int .i64 s1, .int .i64 s2, .slice Ah xs.length ch] 26)).alloc (.cells #[] 5)) (w.heap.size + 3) (.slice (some ⟨w.heap.size + 1 + 1 + 1, 0, Option.none⟩) 0 0) [] := by
    have hb := Blk.new (((w.alloc (.cells #[.int .i64 s1, .int .i64 s2, .slice Ah xs.length ch] 26)).alloc (.cells #[.int .i64 s1, .int .i64 s2, .slice Ah xs.length ch] 26)).alloc (.cells #[.int .i64 s1, .int .i64 s2, .slice Ah xs.length ch] 26)) 5 []
    rw [World.size_alloc, World.size_alloc, World.size_alloc] at hb
    exact Row.of_blk (zs := []) hb (by omega) (by unfold maxLen; simp)
  have hZs : ((((w.alloc (.cells #[.int .i64 s1, .int .i64 s2, .slice Ah xs.length ch] 26)).alloc (.cells #[.int .i64 s1, .int .i64 s2, .slice Ah xs.length ch] 26)).alloc (.cells #[.int .i64 s1, .int .i64 s2, .slice Ah xs.length ch] 26)).alloc (.cells #[] 5)).heap.size = w.heap.size + 4 := by simp only [World.size_alloc]
  have m2' := hMine.has 2 (by simp)
  go_wp2_with (at_builtin; refine wpList_append_row _ rfl (.tmp 16) (.tmp 18) 24 rfl (w.heap.size + 3) 5 i0 (.int .u8 0) 1 1 Try.underlying24 hi hz0 hz1 hz2 rfl (by decide) _ 0 _ rfl hE.raw Ah xs.length ch (xs.map (Value.int .u8)) rfl (by simp) h4 (h1.grew kZ).src (ints_oneCell _ xs) (by unfold maxLen; omega) (by omega) (by rw [hZs]; omega) ?_; intro v' w1 hown hk1 hloc; have hr1 : Row .u8 5 w1 (w.heap.size + 3) v' ([] ++ xs) := Row.of_append rfl rfl hown; have hv3 : ∀ b, v'.ownBlock = some b → b ≠ w.heap.size + 1 ∧ b ≠ w.heap.size + 1 + 1 := (fun b e => by have := (hr1.lt b e).1; omega); have hM1 := hMine.keeps hk1 (fun e => by have := OwnB.is e; omega); have hN1 := hNow.keeps hk1 (fun e => by have := OwnB.is e; omega); have q2 := hM1.cell 2 _ rfl; have f2 := hM1.free 2; have hk2 : Keeps None w w1 := kZ.andThen hk1 (fun i hi e => by have := OwnB.is e; omega); obtain ⟨Av, cv, ev⟩ := hr1.slice; obtain rfl : v' = .slice Av xs.length cv := ev.trans (by simp); clear hown hk1 hloc hE hMine hNow kZ hZs m2' ev)
  simp only [List.nil_append] at hr1
  have hM2 := hM1.set 2 (.slice Av xs.length cv)
  simp only [List.set] at hM2
  have ks : Keeps (One (w.heap.size + 1 + 1)) w1 (w1.setCell ⟨w.heap.size + 1 + 1, 2, Option.none⟩ (.slice Av xs.length cv)) := (Keeps.refl _ _).setCell _ _ (fun _ => rfl)
  have hI0 : NwInv w (w1.setCell ⟨w.heap.size + 1 + 1, 2, Option.none⟩ (.slice Av xs.length cv)) s1 s2 Ah ch (.slice Av xs.length cv) xs :=
    ⟨hN1.keeps ks (fun e => by simp only [One] at e; omega), hM2, h1, hr1.keeps ks (fun b e f => (hv3 b e).2 f), h7, hk2.andThen ks (fun i hi e => by simp only [One] at e; omega)⟩
  clear h1 h3 h4 h5 h6 h7 hN1 hM1 q2 f2 hr1 hv3 hk2 hM2 ks
  go_loopw [7] (fun i wr => ∃ (k : Nat) (s1 s2 : Int) (An : Option Addr) (cn : Nat) (v : Value) (xs : List Int), k ≤ puts.length ∧ k ≤ 200 ∧ i = .int .i64 k ∧ NwInv w wr s1 s2 An cn v xs) (fun i _ => 200 - (intOf i).toNat)
  case atStart => exact ⟨0, s1, s2, Ah, ch, _, xs, Nat.zero_le _, by omega, rfl, hI0⟩
  case round =>
    clear hI0
    obtain ⟨k, s1, s2, An, cn, v, xs, hk1, hk2, rfl, hI⟩ := hrel
    by_cases hlt : k < puts.length ∧ k < 200
    · obtain ⟨hl1, hl2⟩ := hlt
      obtain ⟨y, hy⟩ : ∃ y, puts[k]? = some y := ⟨_, List.getElem?_eq_getElem hl1⟩
      obtain ⟨b, o, rfl, hcell⟩ := hA k y hy
      have hY := hP y (List.mem_of_getElem? hy)
      have p0' : w.cell? ⟨b, o + k * 3, Option.none⟩ = some (.int .i64 y.s1) := hcell 0 _ rfl
      have p1' : w.cell? ⟨b, o + k * 3 + 1, Option.none⟩ = some (.int .i64 y.s2) := hcell 1 _ rfl
      have p2' : w.cell? ⟨b, o + k * 3 + 2, Option.none⟩ = some (.slice y.A y.bs.length y.cap) := by rw [hY.len]; exact hcell 2 _ rfl
      have hyl : y.bs.length ≤ 140737488351232 := by rw [hY.len]; exact hY.most
      have hxl := hI.most
      have hYN := hY.nums
      have p0 := hI.keep.cell p0' id
      have p1 := hI.keep.cell p1' id
      have p2 := hI.keep.cell p2' id
      clear hy hY hcell
      go_wp2_with fail
      refine (lend_any y.A y.bs.length y.cap y.bs wr (hYN.grew hI.keep) rfl hyl).mono ?_
      rintro e W ⟨gl, rfl, hgl, hL, hkL⟩
      have hI1 : NwInv w W s1 s2 An cn v xs := ⟨hI.now.grew hkL, hI.mine.grew hkL, hI.nums, hI.row.grew hkL, hI.most, hI.keep.trans hkL⟩
      have hgw := hI.keep.size
      have hvl := Lib.hid (fun b (e : v.ownBlock = some b) => (hI.row.lt b e).2)
      have hml := hI.mine.lt
      clear hI p0 p1 p2
      have p0 := hI1.keep.cell p0' id
      have p1 := hI1.keep.cell p1' id
      have p2 := hI1.keep.cell p2' id
      obtain ⟨Am, cm, rfl⟩ := hI1.row.slice
      have m0 := hI1.mine.cell 0 _ rfl
      have m1 := hI1.mine.cell 1 _ rfl
      have m2 := hI1.mine.cell 2 _ rfl
      have hMN := (Nums.row hI1.row).1
      have hLN := lentCells_nums hL
      obtain ⟨u1, hu1⟩ : ∃ u, u = (newF (s1, s2) (y.s1, y.s2) xs y.bs).1.1 := ⟨_, rfl⟩
      obtain ⟨u2, hu2⟩ : ∃ u, u = (newF (s1, s2) (y.s1, y.s2) xs y.bs).1.2 := ⟨_, rfl⟩
      obtain ⟨ds, hds⟩ : ∃ u, u = (newF (s1, s2) (y.s1, y.s2) xs y.bs).2 := ⟨_, rfl⟩
      obtain ⟨L, hLL⟩ : ∃ u, u = lessF (s1, s2) (y.s1, y.s2) := ⟨_, rfl⟩
      have hdl : ds.length ≤ 140737488351232 := by rw [hds]; exact newF_most _ _ _ _ _ hxl hyl
      have hNW := fun (W' : World) (h : Keeps None W W') => newer_call s1 s2 y.s1 y.s2 Am cm xs (some ⟨gl, 0, Option.none⟩) (y.bs.length + 5) y.bs ds u1 u2 L W' (hMN.grew h) (hLN.grew h) hxl hyl hu1 hu2 hds hLL
      obtain ⟨Aw, cw, hWN, hRW⟩ := refnewer_call s1 s2 y.s1 y.s2 An cn xs y.A y.cap y.bs ds u1 u2 L w hI1.nums hYN hu1 hu2 hds hLL
      clear hu1 hu2 hds hLL
      go_upto_region 8 with (fail)
      go_cut [9, 10] (fun x okv wx => ∃ xb Ax cx, x = .pointer (some ⟨xb, 0, Option.none⟩) ∧ okv = .bool L ∧ Blk wx xb 26 [.int .i64 u1, .int .i64 u2, .slice Ax ds.length cx] ∧ W.heap.size ≤ xb ∧ (Row .u8 5 wx W.heap.size (.slice Ax ds.length cx) ds ∧ ∀ b, (Value.slice Ax ds.length cx).ownBlock = some b → b ≠ xb) ∧ Keeps None W wx)
      case first =>
          refine start_ (ds := []) (S := (fun w' => Keeps None W w')) #[false, false, false, false, false, false, false, false, false, false, false, false, false, false] (by kernel_rfl) rfl rfl ((Keeps.refl _ _).drew) (fun hS0 => ?_)
          refine take_ (i := 0) (N := some 38) (v := .agg #[.int .i64 s1, .int .i64 s2, .slice Am xs.length cm]) #[true, false, false, false, false, false, false, false, false, false, false, false, false, false] rfl rfl (by kernel_rfl) (fun _ _ _ h => h) (Or.inl ⟨wanted_none rfl, by intro w' hSw; have q0 := hSw.cell m0 id; have q1 := hSw.cell m1 id; have q2 := hSw.cell m2 id; go_simp⟩) hS0 rfl ?_
          try simp only [Act.put, List.setIfInBounds_toArray, List.set_cons_zero, List.set_cons_succ]
          refine pure_ (i := 1) (N := some 39) (v := .slice (some ⟨b, o, Option.none⟩) puts.length cap) #[true, true, false, false, false, false, false, false, false, false, false, false, false, false] rfl rfl (by kernel_rfl) (fun _ _ _ h => h) (Or.inl ⟨wanted_none rfl, fun w => by rfl⟩) rfl ?_
          try simp only [Act.put, List.setIfInBounds_toArray, List.set_cons_zero, List.set_cons_succ]
          refine pure_ (i := 2) (N := some 40) (v := .int .i64 (k : Int)) #[true, true, true, false, false, false, false, false, false, false, false, false, false, false] rfl rfl (by kernel_rfl) (fun _ _ _ h => h) (Or.inl ⟨wanted_none rfl, fun w => by rfl⟩) rfl ?_
          try simp only [Act.put, List.setIfInBounds_toArray, List.set_cons_zero, List.set_cons_succ]
          refine pure_ (i := 3) (N := some 41) (v := .pointer (some ⟨b, o + k * 3, Option.none⟩)) #[true, true, true, true, false, false, false, false, false, false, false, false, false, false] rfl rfl (by kernel_rfl) (fun _ _ _ h => h) (Or.inl ⟨wanted_none rfl, fun w => by go_simp⟩) rfl ?_
          try simp only [Act.put, List.setIfInBounds_toArray, List.set_cons_zero, List.set_cons_succ]
          refine pure_ (i := 4) (N := some 42) (v := .pointer (some ⟨b, o + k * 3, Option.none⟩)) #[true, true, true, true, true, false, false, false, false, false, false, false, false, false] rfl rfl (by kernel_rfl) (fun _ _ _ h => h) (Or.inl ⟨wanted_none rfl, fun w => by go_simp⟩) rfl ?_
          try simp only [Act.put, List.setIfInBounds_toArray, List.set_cons_zero, List.set_cons_succ]
          refine take_ (i := 5) (N := some 43) (v := .agg #[.int .i64 y.s1, .int .i64 y.s2]) #[true, true, true, true, true, true, false, false, false, false, false, false, false, false] rfl rfl (by kernel_rfl) (fun _ _ _ h => h) (Or.inl ⟨wanted_none rfl, by intro w' hSw; have q0 := hSw.cell p0 id; have q1 := hSw.cell p1 id; go_simp⟩) hS0 rfl ?_
          try simp only [Act.put, List.setIfInBounds_toArray, List.set_cons_zero, List.set_cons_succ]
          refine pure_ (i := 6) (N := some 44) (v := .slice (some ⟨gl, 0, Option.none⟩) y.bs.length (y.bs.length + 5)) #[true, true, true, true, true, true, true, false, false, false, false, false, false, false] rfl rfl (by kernel_rfl) (fun _ _ _ h => h) (Or.inl ⟨wanted_none rfl, fun w => by rfl⟩) rfl ?_
          try simp only [Act.put, List.setIfInBounds_toArray, List.set_cons_zero, List.set_cons_succ]
          refine two_ (i := 7) (j := 11) (oi := ({ dst := some 45, op := Op.call { callee := Callee.value (Operand.func 10), args := #[Operand.tmp 38, Operand.tmp 43, Operand.tmp 44], argTypes := #[26, 23, 24] }, type := 29, pos := "law.go:238", after := #[{ on := 0, ground := Ground.data }, { on := 5, ground := Ground.data }, { on := 6, ground := Ground.data }], guard := Option.none } : Oper)) (oj := ({ dst := some 9, op := Op.alloc 26, type := 0, pos := "law.go:238", after := #[], guard := Option.none } : Oper)) (Ni := some 45) (Nj := some 9) #[true, true, true, true, true, true, true, true, false, false, false, false, false, false] #[true, true, true, true, true, true, true, false, false, false, false, true, false, false] rfl rfl rfl rfl (by kernel_rfl) (by decide) (by decide) ?_ ?_
          · intro KK hKK
            refine goes_ Try.func10 (by kernel_rfl) rfl #[.agg #[.int .i64 s1, .int .i64 s2, .slice Am xs.length cm], .agg #[.int .i64 y.s1, .int .i64 y.s2], .slice (some ⟨gl, 0, Option.none⟩) y.bs.length (y.bs.length + 5)] (wanted_none rfl) rfl rfl (by simp [Act.eval]) ?_
            refine (hNW _ (hS0)).mono ?_
            rintro e w3 ⟨Ax, cx, rfl, hX3, hk3⟩
            have hm3 := hS0.trans hk3
            refine ⟨_, rfl, hKK.out _ _ hm3 (fun hS1 => ?_)⟩
            try simp only [Act.put, List.setIfInBounds_toArray, List.set_cons_zero, List.set_cons_succ]
            refine pure_ (i := 8) (N := some 37) (v := .tuple #[.agg #[.int .i64 u1, .int .i64 u2, .slice Ax ds.length cx], .bool L]) #[true, true, true, true, true, true, true, true, true, false, false, false, false, false] rfl rfl (by kernel_rfl) (fun _ _ _ h => h) (Or.inl ⟨wanted_none rfl, fun w => by rfl⟩) rfl ?_
            try simp only [Act.put, List.setIfInBounds_toArray, List.set_cons_zero, List.set_cons_succ]
            refine pure_ (i := 9) (N := some 46) (v := .agg #[.int .i64 u1, .int .i64 u2, .slice Ax ds.length cx]) #[true, true, true, true, true, true, true, true, true, true, false, false, false, false] rfl rfl (by kernel_rfl) (fun _ _ _ h => h) (Or.inl ⟨wanted_none rfl, fun w => by rfl⟩) rfl ?_
            try simp only [Act.put, List.setIfInBounds_toArray, List.set_cons_zero, List.set_cons_succ]
            refine pure_ (i := 10) (N := some 47) (v := .bool L) #[true, true, true, true, true, true, true, true, true, true, true, false, false, false] rfl rfl (by kernel_rfl) (fun _ _ _ h => h) (Or.inl ⟨wanted_none rfl, fun w => by rfl⟩) rfl ?_
            try simp only [Act.put, List.setIfInBounds_toArray, List.set_cons_zero, List.set_cons_succ]
            refine one_ (i := 11) (oi := ({ dst := some 9, op := Op.alloc 26, type := 0, pos := "law.go:238", after := #[], guard := Option.none } : Oper)) (N := some 9) #[true, true, true, true, true, true, true, true, true, true, true, true, false, false] rfl rfl (by kernel_rfl) (by decide) ?_
            intro KK hKK
            refine value_ (wanted_none rfl) rfl (w1 := (w3.alloc (.cells #[.int .i64 0, .int .i64 0, .slice Option.none 0 0] 26))) (v := .pointer (some ⟨w3.heap.size, 0, Option.none⟩)) (by go_simp) (hKK.out _ _ (hS1.alloc _) (fun hS2 => ?_))
            try simp only [Act.put, List.setIfInBounds_toArray, List.set_cons_zero, List.set_cons_succ]
            have hY0 := Blk.new (w3) 26 [.int .i64 0, .int .i64 0, .slice Option.none 0 0]
            have hY := hY0
            have hb9 : W.heap.size ≤ w3.heap.size := hm3.size
            have hX4 := hX3.grew ((Keeps.refl None w3).alloc (.cells #[.int .i64 0, .int .i64 0, .slice Option.none 0 0] 26))
            have hXn : ∀ b, (Value.slice Ax ds.length cx).ownBlock = some b → b ≠ w3.heap.size := fun b e => by have := (hX3.lt b e).2; omega
            have g0 := hY.cell 0 _ rfl
            have g1 := hY.cell 1 _ rfl
            have g2 := hY.cell 2 _ rfl
            have e0 := hY.free 0
            have e1 := hY.free 1
            have e2 := hY.free 2
            refine one_ (i := 12) (oi := ({ dst := Option.none, op := Op.store 26 (Operand.tmp 9) (Operand.tmp 46), type := 0, pos := "law.go:238", after := #[{ on := 11, ground := Ground.data }, { on := 9, ground := Ground.data }, { on := 7, ground := Ground.chain }, { on := 0, ground := Ground.phase }, { on := 1, ground := Ground.phase }, { on := 2, ground := Ground.phase }, { on := 3, ground := Ground.phase }, { on := 4, ground := Ground.phase }, { on := 5, ground := Ground.phase }, { on := 6, ground := Ground.phase }, { on := 7, ground := Ground.phase }, { on := 8, ground := Ground.phase }, { on := 9, ground := Ground.phase }, { on := 10, ground := Ground.textOnly Departure.lateStores }, { on := 11, ground := Ground.phase }], guard := Option.none } : Oper)) (N := Option.none) #[true, true, true, true, true, true, true, true, true, true, true, true, true, false] rfl rfl (by kernel_rfl) (by decide) ?_
            intro KK hKK
            refine skip_ (wanted_none rfl) rfl (w1 := w3.alloc (.cells #[.int .i64 u1, .int .i64 u2, .slice Ax ds.length cx] 26)) (by go_simp) (hKK.out _ _ ((hm3.alloc _)) (fun hS3 => ?_))
            try simp only [Act.put, List.setIfInBounds_toArray, List.set_cons_zero, List.set_cons_succ]
            refine pure_ (i := 13) (N := some 10) (v := .bool L) #[true, true, true, true, true, true, true, true, true, true, true, true, true, true] rfl rfl (by kernel_rfl) (fun _ _ _ h => h) (Or.inl ⟨wanted_none rfl, fun w => by rfl⟩) rfl ?_
            try simp only [Act.put, List.setIfInBounds_toArray, List.set_cons_zero, List.set_cons_succ]
            refine done_ (by kernel_rfl) ?_
            go_wp2_with fail
            go_meet
            refine ⟨w3.heap.size, Ax, cx, rfl, rfl, ?_, hb9, ?_, hS3⟩
            · exact Blk.new w3 _ _
            · exact ⟨((hX3.grew ((Keeps.refl None w3).alloc _)).down (by simp)), hXn⟩
          · intro KK hKK
            refine value_ (wanted_none rfl) rfl (w1 := (W.drew.alloc (.cells #[.int .i64 0, .int .i64 0, .slice Option.none 0 0] 26))) (v := .pointer (some ⟨W.heap.size, 0, Option.none⟩)) (by go_simp) (hKK.out _ _ (hS0.alloc _) (fun hS4 => ?_))
            try simp only [Act.put, List.setIfInBounds_toArray, List.set_cons_zero, List.set_cons_succ]
            refine one_ (i := 7) (oi := ({ dst := some 45, op := Op.call { callee := Callee.value (Operand.func 10), args := #[Operand.tmp 38, Operand.tmp 43, Operand.tmp 44], argTypes := #[26, 23, 24] }, type := 29, pos := "law.go:238", after := #[{ on := 0, ground := Ground.data }, { on := 5, ground := Ground.data }, { on := 6, ground := Ground.data }], guard := Option.none } : Oper)) (N := some 45) #[true, true, true, true, true, true, true, true, false, false, false, true, false, false] rfl rfl (by kernel_rfl) (by decide) ?_
            intro KK hKK
            refine goes_ Try.func10 (by kernel_rfl) rfl #[.agg #[.int .i64 s1, .int .i64 s2, .slice Am xs.length cm], .agg #[.int .i64 y.s1, .int .i64 y.s2], .slice (some ⟨gl, 0, Option.none⟩) y.bs.length (y.bs.length + 5)] (wanted_none rfl) rfl rfl (by simp [Act.eval]) ?_
            refine (hNW _ (hS4)).mono ?_
            rintro e w3 ⟨Ax, cx, rfl, hX3, hk3⟩
            have hm3 := hS4.trans hk3
            refine ⟨_, rfl, hKK.out _ _ hm3 (fun hS5 => ?_)⟩
            try simp only [Act.put, List.setIfInBounds_toArray, List.set_cons_zero, List.set_cons_succ]
            refine pure_ (i := 8) (N := some 37) (v := .tuple #[.agg #[.int .i64 u1, .int .i64 u2, .slice Ax ds.length cx], .bool L]) #[true, true, true, true, true, true, true, true, true, false, false, true, false, false] rfl rfl (by kernel_rfl) (fun _ _ _ h => h) (Or.inl ⟨wanted_none rfl, fun w => by rfl⟩) rfl ?_
            try simp only [Act.put, List.setIfInBounds_toArray, List.set_cons_zero, List.set_cons_succ]
            refine pure_ (i := 9) (N := some 46) (v := .agg #[.int .i64 u1, .int .i64 u2, .slice Ax ds.length cx]) #[true, true, true, true, true, true, true, true, true, true, false, true, false, false] rfl rfl (by kernel_rfl) (fun _ _ _ h => h) (Or.inl ⟨wanted_none rfl, fun w => by rfl⟩) rfl ?_
            try simp only [Act.put, List.setIfInBounds_toArray, List.set_cons_zero, List.set_cons_succ]
            refine pure_ (i := 10) (N := some 47) (v := .bool L) #[true, true, true, true, true, true, true, true, true, true, true, true, false, false] rfl rfl (by kernel_rfl) (fun _ _ _ h => h) (Or.inl ⟨wanted_none rfl, fun w => by rfl⟩) rfl ?_
            try simp only [Act.put, List.setIfInBounds_toArray, List.set_cons_zero, List.set_cons_succ]
            have hY0 := Blk.new (W.drew) 26 [.int .i64 0, .int .i64 0, .slice Option.none 0 0]
            have hb9 : W.heap.size ≤ W.heap.size := Nat.le_refl _
            have hY : Blk w3 (W.heap.size) 26 [.int .i64 0, .int .i64 0, .slice Option.none 0 0] := hY0.grew hk3
            have hX4 := hX3
            have hXn : ∀ b, (Value.slice Ax ds.length cx).ownBlock = some b → b ≠ W.heap.size := fun b e => by have := (hX3.lt b e).1; rw [World.size_alloc] at this; have h0 : W.drew.heap.size = W.heap.size := rfl; omega
            have g0 := hY.cell 0 _ rfl
            have g1 := hY.cell 1 _ rfl
            have g2 := hY.cell 2 _ rfl
            have e0 := hY.free 0
            have e1 := hY.free 1
            have e2 := hY.free 2
            refine one_ (i := 12) (oi := ({ dst := Option.none, op := Op.store 26 (Operand.tmp 9) (Operand.tmp 46), type := 0, pos := "law.go:238", after := #[{ on := 11, ground := Ground.data }, { on := 9, ground := Ground.data }, { on := 7, ground := Ground.chain }, { on := 0, ground := Ground.phase }, { on := 1, ground := Ground.phase }, { on := 2, ground := Ground.phase }, { on := 3, ground := Ground.phase }, { on := 4, ground := Ground.phase }, { on := 5, ground := Ground.phase }, { on := 6, ground := Ground.phase }, { on := 7, ground := Ground.phase }, { on := 8, ground := Ground.phase }, { on := 9, ground := Ground.phase }, { on := 10, ground := Ground.textOnly Departure.lateStores }, { on := 11, ground := Ground.phase }], guard := Option.none } : Oper)) (N := Option.none) #[true, true, true, true, true, true, true, true, true, true, true, true, true, false] rfl rfl (by kernel_rfl) (by decide) ?_
            intro KK hKK
            refine skip_ (wanted_none rfl) rfl (w1 := ((w3.setCell ⟨W.heap.size, 0, Option.none⟩ (.int .i64 u1)).setCell ⟨W.heap.size, 1, Option.none⟩ (.int .i64 u2)).setCell ⟨W.heap.size, 2, Option.none⟩ (.slice Ax ds.length cx)) (by go_simp) (hKK.out _ _ (((hm3.setCell _ _ (fun h => by simp at h <;> omega)).setCell _ _ (fun h => by simp at h <;> omega)).setCell _ _ (fun h => by simp at h <;> omega)) (fun hS6 => ?_))
            try simp only [Act.put, List.setIfInBounds_toArray, List.set_cons_zero, List.set_cons_succ]
            refine pure_ (i := 13) (N := some 10) (v := .bool L) #[true, true, true, true, true, true, true, true, true, true, true, true, true, true] rfl rfl (by kernel_rfl) (fun _ _ _ h => h) (Or.inl ⟨wanted_none rfl, fun w => by rfl⟩) rfl ?_
            try simp only [Act.put, List.setIfInBounds_toArray, List.set_cons_zero, List.set_cons_succ]
            refine done_ (by kernel_rfl) ?_
            go_wp2_with fail
            go_meet
            have hY4 := ((hY.set 0 (.int .i64 u1)).set 1 (.int .i64 u2)).set 2 (.slice Ax ds.length cx)
            refine ⟨_, Ax, cx, rfl, rfl, hY4, hb9, ?_, hS6⟩
            exact ⟨(hX3.keeps (keeps_three w3 _ _ _ _) (fun b e f => hXn b e f)).down (by simp), hXn⟩
      case rest =>
        obtain ⟨xb, Ax, cx, rfl, rfl, hXB, hxb, ⟨hXR, hXn⟩, hk8⟩ := hcut
        have hI2 : NwInv w wc s1 s2 An cn (.slice Am xs.length cm) xs := ⟨hI1.now.grew hk8, hI1.mine.grew hk8, hI1.nums, hI1.row.grew hk8, hI1.most, hI1.keep.trans hk8⟩
        have hL2 := hL.grew hk8
        clear p0 p1 p2 m0 m1 m2 hMN hLN hNW
        have p0 := hI2.keep.cell p0' id
        have p1 := hI2.keep.cell p1' id
        have p2 := hI2.keep.cell p2' id
        have n0 := hI2.now.cell 0 _ rfl
        have n1 := hI2.now.cell 1 _ rfl
        have n2 := hI2.now.cell 2 _ rfl
        go_upto_region 9 with (fail)
        go_cut [11, 12] (fun x okv wx => ∃ wb, x = .pointer (some ⟨wb, 0, Option.none⟩) ∧ okv = .bool L ∧ Blk wx wb 26 [.int .i64 u1, .int .i64 u2, .slice Aw ds.length cw] ∧ wc.heap.size ≤ wb ∧ Keeps None wc wx)
        case first =>
          refine start_ (ds := []) (S := (fun w' => Keeps None wc w')) #[false, false, false, false, false, false, false, false, false, false, false, false, false, false, false, false, false, false] (by kernel_rfl) rfl rfl ((Keeps.refl _ _).drew) (fun hS0 => ?_)
          refine take_ (i := 0) (N := some 49) (v := .agg #[.int .i64 s1, .int .i64 s2, .slice An xs.length cn]) #[true, false, false, false, false, false, false, false, false, false, false, false, false, false, false, false, false, false] rfl rfl (by kernel_rfl) (fun _ _ _ h => h) (Or.inl ⟨wanted_none rfl, by intro w' hSw; have q0 := hSw.cell n0 id; have q1 := hSw.cell n1 id; have q2 := hSw.cell n2 id; go_simp⟩) hS0 rfl ?_
          try simp only [Act.put, List.setIfInBounds_toArray, List.set_cons_zero, List.set_cons_succ]
          refine pure_ (i := 1) (N := some 50) (v := .slice (some ⟨b, o, Option.none⟩) puts.length cap) #[true, true, false, false, false, false, false, false, false, false, false, false, false, false, false, false, false, false] rfl rfl (by kernel_rfl) (fun _ _ _ h => h) (Or.inl ⟨wanted_none rfl, fun w => by rfl⟩) rfl ?_
          try simp only [Act.put, List.setIfInBounds_toArray, List.set_cons_zero, List.set_cons_succ]
          refine pure_ (i := 2) (N := some 51) (v := .int .i64 (k : Int)) #[true, true, true, false, false, false, false, false, false, false, false, false, false, false, false, false, false, false] rfl rfl (by kernel_rfl) (fun _ _ _ h => h) (Or.inl ⟨wanted_none rfl, fun w => by rfl⟩) rfl ?_
          try simp only [Act.put, List.setIfInBounds_toArray, List.set_cons_zero, List.set_cons_succ]
          refine pure_ (i := 3) (N := some 52) (v := .pointer (some ⟨b, o + k * 3, Option.none⟩)) #[true, true, true, true, false, false, false, false, false, false, false, false, false, false, false, false, false, false] rfl rfl (by kernel_rfl) (fun _ _ _ h => h) (Or.inl ⟨wanted_none rfl, fun w => by go_simp⟩) rfl ?_
          try simp only [Act.put, List.setIfInBounds_toArray, List.set_cons_zero, List.set_cons_succ]
          refine pure_ (i := 4) (N := some 53) (v := .pointer (some ⟨b, o + k * 3, Option.none⟩)) #[true, true, true, true, true, false, false, false, false, false, false, false, false, false, false, false, false, false] rfl rfl (by kernel_rfl) (fun _ _ _ h => h) (Or.inl ⟨wanted_none rfl, fun w => by go_simp⟩) rfl ?_
          try simp only [Act.put, List.setIfInBounds_toArray, List.set_cons_zero, List.set_cons_succ]
          refine take_ (i := 5) (N := some 54) (v := .agg #[.int .i64 y.s1, .int .i64 y.s2]) #[true, true, true, true, true, true, false, false, false, false, false, false, false, false, false, false, false, false] rfl rfl (by kernel_rfl) (fun _ _ _ h => h) (Or.inl ⟨wanted_none rfl, by intro w' hSw; have q0 := hSw.cell p0 id; have q1 := hSw.cell p1 id; go_simp⟩) hS0 rfl ?_
          try simp only [Act.put, List.setIfInBounds_toArray, List.set_cons_zero, List.set_cons_succ]
          refine pure_ (i := 6) (N := some 55) (v := .slice (some ⟨b, o, Option.none⟩) puts.length cap) #[true, true, true, true, true, true, true, false, false, false, false, false, false, false, false, false, false, false] rfl rfl (by kernel_rfl) (fun _ _ _ h => h) (Or.inl ⟨wanted_none rfl, fun w => by rfl⟩) rfl ?_
          try simp only [Act.put, List.setIfInBounds_toArray, List.set_cons_zero, List.set_cons_succ]
          refine pure_ (i := 7) (N := some 56) (v := .int .i64 (k : Int)) #[true, true, true, true, true, true, true, true, false, false, false, false, false, false, false, false, false, false] rfl rfl (by kernel_rfl) (fun _ _ _ h => h) (Or.inl ⟨wanted_none rfl, fun w => by rfl⟩) rfl ?_
          try simp only [Act.put, List.setIfInBounds_toArray, List.set_cons_zero, List.set_cons_succ]
          refine pure_ (i := 8) (N := some 57) (v := .pointer (some ⟨b, o + k * 3, Option.none⟩)) #[true, true, true, true, true, true, true, true, true, false, false, false, false, false, false, false, false, false] rfl rfl (by kernel_rfl) (fun _ _ _ h => h) (Or.inl ⟨wanted_none rfl, fun w => by go_simp⟩) rfl ?_
          try simp only [Act.put, List.setIfInBounds_toArray, List.set_cons_zero, List.set_cons_succ]
          refine pure_ (i := 9) (N := some 58) (v := .pointer (some ⟨b, o + k * 3 + 2, Option.none⟩)) #[true, true, true, true, true, true, true, true, true, true, false, false, false, false, false, false, false, false] rfl rfl (by kernel_rfl) (fun _ _ _ h => h) (Or.inl ⟨wanted_none rfl, fun w => by go_simp⟩) rfl ?_
          try simp only [Act.put, List.setIfInBounds_toArray, List.set_cons_zero, List.set_cons_succ]
          refine take_ (i := 10) (N := some 59) (v := .slice y.A y.bs.length y.cap) #[true, true, true, true, true, true, true, true, true, true, true, false, false, false, false, false, false, false] rfl rfl (by kernel_rfl) (fun _ _ _ h => h) (Or.inl ⟨wanted_none rfl, by intro w' hSw; have q0 := hSw.cell p2 id; go_simp⟩) hS0 rfl ?_
          try simp only [Act.put, List.setIfInBounds_toArray, List.set_cons_zero, List.set_cons_succ]
          refine two_ (i := 11) (j := 15) (oi := ({ dst := some 60, op := Op.call { callee := Callee.value (Operand.func 11), args := #[Operand.tmp 49, Operand.tmp 54, Operand.tmp 59], argTypes := #[26, 23, 24] }, type := 29, pos := "law.go:239", after := #[{ on := 0, ground := Ground.data }, { on := 5, ground := Ground.data }, { on := 10, ground := Ground.data }], guard := Option.none } : Oper)) (oj := ({ dst := some 11, op := Op.alloc 26, type := 0, pos := "law.go:239", after := #[], guard := Option.none } : Oper)) (Ni := some 60) (Nj := some 11) #[true, true, true, true, true, true, true, true, true, true, true, true, false, false, false, false, false, false] #[true, true, true, true, true, true, true, true, true, true, true, false, false, false, false, true, false, false] rfl rfl rfl rfl (by kernel_rfl) (by decide) (by decide) ?_ ?_
          · intro KK hKK
            refine goes_ Try.func11 (by kernel_rfl) rfl #[.agg #[.int .i64 s1, .int .i64 s2, .slice An xs.length cn], .agg #[.int .i64 y.s1, .int .i64 y.s2], .slice y.A y.bs.length y.cap] (wanted_none rfl) rfl rfl (by simp [Act.eval]) ?_
            refine (hRW _).mono ?_
            rintro e w3 ⟨rfl, hk3⟩
            have hm3 := hS0.trans hk3
            refine ⟨_, rfl, hKK.out _ _ hm3 (fun hS1 => ?_)⟩
            try simp only [Act.put, List.setIfInBounds_toArray, List.set_cons_zero, List.set_cons_succ]
            refine pure_ (i := 12) (N := some 48) (v := .tuple #[.agg #[.int .i64 u1, .int .i64 u2, .slice Aw ds.length cw], .bool L]) #[true, true, true, true, true, true, true, true, true, true, true, true, true, false, false, false, false, false] rfl rfl (by kernel_rfl) (fun _ _ _ h => h) (Or.inl ⟨wanted_none rfl, fun w => by rfl⟩) rfl ?_
            try simp only [Act.put, List.setIfInBounds_toArray, List.set_cons_zero, List.set_cons_succ]
            refine pure_ (i := 13) (N := some 61) (v := .agg #[.int .i64 u1, .int .i64 u2, .slice Aw ds.length cw]) #[true, true, true, true, true, true, true, true, true, true, true, true, true, true, false, false, false, false] rfl rfl (by kernel_rfl) (fun _ _ _ h => h) (Or.inl ⟨wanted_none rfl, fun w => by rfl⟩) rfl ?_
            try simp only [Act.put, List.setIfInBounds_toArray, List.set_cons_zero, List.set_cons_succ]
            refine pure_ (i := 14) (N := some 62) (v := .bool L) #[true, true, true, true, true, true, true, true, true, true, true, true, true, true, true, false, false, false] rfl rfl (by kernel_rfl) (fun _ _ _ h => h) (Or.inl ⟨wanted_none rfl, fun w => by rfl⟩) rfl ?_
            try simp only [Act.put, List.setIfInBounds_toArray, List.set_cons_zero, List.set_cons_succ]
            refine one_ (i := 15) (oi := ({ dst := some 11, op := Op.alloc 26, type := 0, pos := "law.go:239", after := #[], guard := Option.none } : Oper)) (N := some 11) #[true, true, true, true, true, true, true, true, true, true, true, true, true, true, true, true, false, false] rfl rfl (by kernel_rfl) (by decide) ?_
            intro KK hKK
            refine value_ (wanted_none rfl) rfl (w1 := (w3.alloc (.cells #[.int .i64 0, .int .i64 0, .slice Option.none 0 0] 26))) (v := .pointer (some ⟨w3.heap.size, 0, Option.none⟩)) (by go_simp) (hKK.out _ _ (hS1.alloc _) (fun hS2 => ?_))
            try simp only [Act.put, List.setIfInBounds_toArray, List.set_cons_zero, List.set_cons_succ]
            have hY0 := Blk.new (w3) 26 [.int .i64 0, .int .i64 0, .slice Option.none 0 0]
            have hY := hY0
            have hb9 : wc.heap.size ≤ w3.heap.size := hm3.size
            have g0 := hY.cell 0 _ rfl
            have g1 := hY.cell 1 _ rfl
            have g2 := hY.cell 2 _ rfl
            have e0 := hY.free 0
            have e1 := hY.free 1
            have e2 := hY.free 2
            refine one_ (i := 16) (oi := ({ dst := Option.none, op := Op.store 26 (Operand.tmp 11) (Operand.tmp 61), type := 0, pos := "law.go:239", after := #[{ on := 15, ground := Ground.data }, { on := 13, ground := Ground.data }, { on := 11, ground := Ground.chain }, { on := 0, ground := Ground.phase }, { on := 1, ground := Ground.phase }, { on := 2, ground := Ground.phase }, { on := 3, ground := Ground.phase }, { on := 4, ground := Ground.phase }, { on := 5, ground := Ground.phase }, { on := 6, ground := Ground.phase }, { on := 7, ground := Ground.phase }, { on := 8, ground := Ground.phase }, { on := 9, ground := Ground.phase }, { on := 10, ground := Ground.phase }, { on := 11, ground := Ground.phase }, { on := 12, ground := Ground.phase }, { on := 13, ground := Ground.phase }, { on := 14, ground := Ground.textOnly Departure.lateStores }, { on := 15, ground := Ground.phase }], guard := Option.none } : Oper)) (N := Option.none) #[true, true, true, true, true, true, true, true, true, true, true, true, true, true, true, true, true, false] rfl rfl (by kernel_rfl) (by decide) ?_
            intro KK hKK
            refine skip_ (wanted_none rfl) rfl (w1 := w3.alloc (.cells #[.int .i64 u1, .int .i64 u2, .slice Aw ds.length cw] 26)) (by go_simp) (hKK.out _ _ (hm3.alloc _) (fun hS3 => ?_))
            try simp only [Act.put, List.setIfInBounds_toArray, List.set_cons_zero, List.set_cons_succ]
            refine pure_ (i := 17) (N := some 12) (v := .bool L) #[true, true, true, true, true, true, true, true, true, true, true, true, true, true, true, true, true, true] rfl rfl (by kernel_rfl) (fun _ _ _ h => h) (Or.inl ⟨wanted_none rfl, fun w => by rfl⟩) rfl ?_
            try simp only [Act.put, List.setIfInBounds_toArray, List.set_cons_zero, List.set_cons_succ]
            refine done_ (by kernel_rfl) ?_
            go_wp2_with fail
            go_meet
            exact ⟨w3.heap.size, rfl, rfl, Blk.new w3 _ _, hb9, hS3⟩
          · intro KK hKK
            refine value_ (wanted_none rfl) rfl (w1 := (wc.drew.alloc (.cells #[.int .i64 0, .int .i64 0, .slice Option.none 0 0] 26))) (v := .pointer (some ⟨wc.heap.size, 0, Option.none⟩)) (by go_simp) (hKK.out _ _ (hS0.alloc _) (fun hS4 => ?_))
            try simp only [Act.put, List.setIfInBounds_toArray, List.set_cons_zero, List.set_cons_succ]
            refine one_ (i := 11) (oi := ({ dst := some 60, op := Op.call { callee := Callee.value (Operand.func 11), args := #[Operand.tmp 49, Operand.tmp 54, Operand.tmp 59], argTypes := #[26, 23, 24] }, type := 29, pos := "law.go:239", after := #[{ on := 0, ground := Ground.data }, { on := 5, ground := Ground.data }, { on := 10, ground := Ground.data }], guard := Option.none } : Oper)) (N := some 60) #[true, true, true, true, true, true, true, true, true, true, true, true, false, false, false, true, false, false] rfl rfl (by kernel_rfl) (by decide) ?_
            intro KK hKK
            refine goes_ Try.func11 (by kernel_rfl) rfl #[.agg #[.int .i64 s1, .int .i64 s2, .slice An xs.length cn], .agg #[.int .i64 y.s1, .int .i64 y.s2], .slice y.A y.bs.length y.cap] (wanted_none rfl) rfl rfl (by simp [Act.eval]) ?_
            refine (hRW _).mono ?_
            rintro e w3 ⟨rfl, hk3⟩
            have hm3 := hS4.trans hk3
            refine ⟨_, rfl, hKK.out _ _ hm3 (fun hS5 => ?_)⟩
            try simp only [Act.put, List.setIfInBounds_toArray, List.set_cons_zero, List.set_cons_succ]
            refine pure_ (i := 12) (N := some 48) (v := .tuple #[.agg #[.int .i64 u1, .int .i64 u2, .slice Aw ds.length cw], .bool L]) #[true, true, true, true, true, true, true, true, true, true, true, true, true, false, false, true, false, false] rfl rfl (by kernel_rfl) (fun _ _ _ h => h) (Or.inl ⟨wanted_none rfl, fun w => by rfl⟩) rfl ?_
            try simp only [Act.put, List.setIfInBounds_toArray, List.set_cons_zero, List.set_cons_succ]
            refine pure_ (i := 13) (N := some 61) (v := .agg #[.int .i64 u1, .int .i64 u2, .slice Aw ds.length cw]) #[true, true, true, true, true, true, true, true, true, true, true, true, true, true, false, true, false, false] rfl rfl (by kernel_rfl) (fun _ _ _ h => h) (Or.inl ⟨wanted_none rfl, fun w => by rfl⟩) rfl ?_
            try simp only [Act.put, List.setIfInBounds_toArray, List.set_cons_zero, List.set_cons_succ]
            refine pure_ (i := 14) (N := some 62) (v := .bool L) #[true, true, true, true, true, true, true, true, true, true, true, true, true, true, true, true, false, false] rfl rfl (by kernel_rfl) (fun _ _ _ h => h) (Or.inl ⟨wanted_none rfl, fun w => by rfl⟩) rfl ?_
            try simp only [Act.put, List.setIfInBounds_toArray, List.set_cons_zero, List.set_cons_succ]
            have hY0 := Blk.new (wc.drew) 26 [.int .i64 0, .int .i64 0, .slice Option.none 0 0]
            have hb9 : wc.heap.size ≤ wc.heap.size := Nat.le_refl _
            have hY : Blk w3 (wc.heap.size) 26 [.int .i64 0, .int .i64 0, .slice Option.none 0 0] := hY0.grew hk3
            have g0 := hY.cell 0 _ rfl
            have g1 := hY.cell 1 _ rfl
            have g2 := hY.cell 2 _ rfl
            have e0 := hY.free 0
            have e1 := hY.free 1
            have e2 := hY.free 2
            refine one_ (i := 16) (oi := ({ dst := Option.none, op := Op.store 26 (Operand.tmp 11) (Operand.tmp 61), type := 0, pos := "law.go:239", after := #[{ on := 15, ground := Ground.data }, { on := 13, ground := Ground.data }, { on := 11, ground := Ground.chain }, { on := 0, ground := Ground.phase }, { on := 1, ground := Ground.phase }, { on := 2, ground := Ground.phase }, { on := 3, ground := Ground.phase }, { on := 4, ground := Ground.phase }, { on := 5, ground := Ground.phase }, { on := 6, ground := Ground.phase }, { on := 7, ground := Ground.phase }, { on := 8, ground := Ground.phase }, { on := 9, ground := Ground.phase }, { on := 10, ground := Ground.phase }, { on := 11, ground := Ground.phase }, { on := 12, ground := Ground.phase }, { on := 13, ground := Ground.phase }, { on := 14, ground := Ground.textOnly Departure.lateStores }, { on := 15, ground := Ground.phase }], guard := Option.none } : Oper)) (N := Option.none) #[true, true, true, true, true, true, true, true, true, true, true, true, true, true, true, true, true, false] rfl rfl (by kernel_rfl) (by decide) ?_
            intro KK hKK
            refine skip_ (wanted_none rfl) rfl (w1 := ((w3.setCell ⟨wc.heap.size, 0, Option.none⟩ (.int .i64 u1)).setCell ⟨wc.heap.size, 1, Option.none⟩ (.int .i64 u2)).setCell ⟨wc.heap.size, 2, Option.none⟩ (.slice Aw ds.length cw)) (by go_simp) (hKK.out _ _ (((hm3.setCell _ _ (fun h => by simp at h <;> omega)).setCell _ _ (fun h => by simp at h <;> omega)).setCell _ _ (fun h => by simp at h <;> omega)) (fun hS6 => ?_))
            try simp only [Act.put, List.setIfInBounds_toArray, List.set_cons_zero, List.set_cons_succ]
            refine pure_ (i := 17) (N := some 12) (v := .bool L) #[true, true, true, true, true, true, true, true, true, true, true, true, true, true, true, true, true, true] rfl rfl (by kernel_rfl) (fun _ _ _ h => h) (Or.inl ⟨wanted_none rfl, fun w => by rfl⟩) rfl ?_
            try simp only [Act.put, List.setIfInBounds_toArray, List.set_cons_zero, List.set_cons_succ]
            refine done_ (by kernel_rfl) ?_
            go_wp2_with fail
            go_meet
            exact ⟨_, rfl, rfl, ((hY.set 0 (.int .i64 u1)).set 1 (.int .i64 u2)).set 2 (.slice Aw ds.length cw), hb9, hS6⟩
        case rest =>
          obtain ⟨wb, rfl, rfl, hWB, hwb, hk9⟩ := hcut
          have hI3 : NwInv w wc s1 s2 An cn (.slice Am xs.length cm) xs := ⟨hI2.now.grew hk9, hI2.mine.grew hk9, hI2.nums, hI2.row.grew hk9, hI2.most, hI2.keep.trans hk9⟩
          have hL3 := hL2.grew hk9
          have hX3 := hXB.grew hk9
          have hR3 := hXR.grew hk9
          have hs89 := hk8.size
          have hkL9 := (hkL.trans hk8).trans hk9
          clear p0 p1 p2 n0 n1 n2
          have p2 := hI3.keep.cell p2' id
          have x9 := hX3.lt
          have x10 := hXB.lt
          have x11 := hL.lt
          go_wp2_with fail
          refine (back_any gl y.bs.length y.bs y.A y.bs.length y.cap wc hL3 rfl (hYN.grew hI3.keep) rfl hyl).mono ?_
          rintro e wB ⟨rfl, -, hkB⟩
          have hAx := fun b (e : (Value.slice Ax ds.length cx).ownBlock = some b) => hXR.lt b e
          have hI4 : NwInv w wB s1 s2 An cn (.slice Am xs.length cm) xs := ⟨hI3.now.keeps hkB (fun e => by simp only [One] at e; omega), hI3.mine.keeps hkB (fun e => by simp only [One] at e; omega), hI3.nums, hI3.row.keeps hkB (fun b e f => by simp only [One] at f; have := hvl.out b e; omega), hI3.most, hI3.keep.andThen hkB (fun i hi e => by simp only [One] at e; omega)⟩
          have hX4 := hX3.keeps hkB (fun e => by simp only [One] at e; omega)
          have hW4 := hWB.keeps hkB (fun e => by simp only [One] at e; omega)
          have hR4 := hR3.keeps hkB (fun b e f => by simp only [One] at f; have := (hAx b e).1; omega)
          clear hI2 hI3 hL2 hL3 hX3 hR3 p2 hkB
          have hsB := hI4.keep.size
          have m2 := hI4.mine.cell 2 _ rfl
          have n2 := hI4.now.cell 2 _ rfl
          go_wp2_with fail
          refine (same_any Am xs.length cm xs An xs.length cn xs wB (Nums.row hI4.row).1 rfl (hI4.nums.grew hI4.keep) rfl hxl).mono ?_
          rintro e wC ⟨rfl, hdC⟩
          rw [show SameB xs xs = true from by simp [SameB]]
          have kC := hdC.keeps None
          have hI5 : NwInv w wC s1 s2 An cn (.slice Am xs.length cm) xs := ⟨hI4.now.grew kC, hI4.mine.grew kC, hI4.nums, hI4.row.grew kC, hI4.most, hI4.keep.trans kC⟩
          have hX5 := hX4.grew kC
          have hW5 := hW4.grew kC
          have hR5 := hR4.grew kC
          clear m2 n2 hdC
          have x0 := hX5.cell 0 _ rfl
          have x1 := hX5.cell 1 _ rfl
          have x2 := hX5.cell 2 _ rfl
          have z0 := hW5.cell 0 _ rfl
          have z1 := hW5.cell 1 _ rfl
          have z2 := hW5.cell 2 _ rfl
          have tL : (L != L) = false := by simp
          have tu1 : (u1 == u1) = true := by simp
          have tu2 : (u2 == u2) = true := by simp
          go_wp2_with fail
          refine (same_any Ax ds.length cx ds Aw ds.length cw ds wC (Nums.row hR5).1 rfl (hWN.grew hI5.keep) rfl hdl).mono ?_
          rintro e wD ⟨rfl, hdD⟩
          rw [show SameB ds ds = true from by simp [SameB]]
          have kD := hdD.keeps None
          have hI6 : NwInv w wD s1 s2 An cn (.slice Am xs.length cm) xs := ⟨hI5.now.grew kD, hI5.mine.grew kD, hI5.nums, hI5.row.grew kD, hI5.most, hI5.keep.trans kD⟩
          have hX6 := hX5.grew kD
          have hW6 := hW5.grew kD
          have hR6 := hR5.grew kD
          have hvm : ∀ b, (Value.slice Am xs.length cm).ownBlock = some b → b < W.heap.size := fun b e => Nat.lt_of_lt_of_le (hvl.out b e) hkL.size
          have HVM := Lib.hid hvm
          have HAX := Lib.hid hAx
          clear hdD x0 x1 x2 z0 z1 z2 tL tu1 tu2 hI4 hX4 hW4 hR4 hI5 hX5 hW5 hR5 kC kD hvm hAx hI1 hXB hXR hL hWB
          go_wp2_with fail
          go_loopw [13] (fun i w' => ∃ (q : Nat) (zs : List Int), q ≤ xs.length ∧ i = .int .i64 q ∧ zs.length = xs.length ∧ Blk w' (w.heap.size + 1) 26 [.int .i64 s1, .int .i64 s2, .slice An xs.length cn] ∧ Blk w' (w.heap.size + 1 + 1) 26 [.int .i64 s1, .int .i64 s2, .slice Am xs.length cm] ∧
            Row .u8 5 w' (w.heap.size + 3) (.slice Am xs.length cm) zs ∧ Blk w' xb 26 [.int .i64 u1, .int .i64 u2, .slice Ax ds.length cx] ∧ Blk w' wb 26 [.int .i64 u1, .int .i64 u2, .slice Aw ds.length cw] ∧ Row .u8 5 w' W.heap.size (.slice Ax ds.length cx) ds ∧ Keeps None w w') (fun i _ => xs.length - (intOf i).toNat)
          case atStart => exact ⟨0, xs, Nat.zero_le _, rfl, rfl, hI6.now, hI6.mine, hI6.row, hX6, hW6, hR6, hI6.keep⟩
          case round =>
            clear hI6 hX6 hW6 hR6
            obtain ⟨q, zs, hq, rfl, hzl, hN, hM, hV, hX, hWb, hR, hK⟩ := hrel
            have m2 := hM.cell 2 _ rfl
            have HZL := Lib.hid hzl
            have hsK := hK.size
            by_cases hqlt : q < xs.length
            · obtain ⟨gA, cA, e1, hcA, hgA, hgA2⟩ := hV.pos (by omega)
              rw [HZL.out] at e1
              injection e1 with e1 e2 e3
              subst e1 e3
              have hqz : q < zs.length := by omega
              obtain ⟨c, b1, o1, e4, hc, hzc⟩ := (Nums.row (hzl ▸ hV)).1.get q hqz
              cases e4
              rw [Nat.zero_add] at hc
              have hfr := hV.free q
              have hgW := HVM.out gA rfl
              have hXo := fun b (e : (Value.slice Ax ds.length cx).ownBlock = some b) => (HAX.out b e).1
              have HXO := Lib.hid hXo
              clear hzl hXo e2
              go_wp2_with fail
              go_still_tail 10, (by kernel_rfl)
              change wpList _ _ _ _ _ wr.drew
              have hd : Keeps None wr wr.drew := (Keeps.refl None wr).drew
              have hN1 := hN.grew hd
              have hM1 := hM.grew hd
              have hV1 := hV.grew hd
              have hX1 := hX.grew hd
              have hW1 := hWb.grew hd
              have hR1 := hR.grew hd
              have hc1 : wr.drew.cell? ⟨gA, q, Option.none⟩ = some (.int .u8 c) := hc
              have hf1 : wr.drew.frozen? ⟨gA, q, Option.none⟩ = false := hfr
              obtain ⟨wq, hwq⟩ : ∃ wq, wq = wr.drew := ⟨_, rfl⟩
              rw [← hwq] at hd hN1 hM1 hV1 hX1 hW1 hR1 hc1 hf1 ⊢
              clear hwq hc hfr m2 hN hM hV hX hWb hR
              have hkq := hK.trans hd
              go_wp2_with fail
              have ks : ∀ u, Keeps (One gA) wq (wq.setCell ⟨gA, q, Option.none⟩ u) := fun u => (Keeps.refl _ _).setCell _ _ (fun _ => rfl)
              go_roundw
              case rel => exact ⟨q + 1, zs.set q (IntKind.u8.wrap (c + 1)), by omega, by go_num, by rw [List.length_set]; exact HZL.out, hN1.keeps (ks _) (fun e => by simp only [One] at e; omega), hM1.keeps (ks _) (fun e => by simp only [One] at e; omega), hV1.store HZL.out q _, hX1.keeps (ks _) (fun e => by simp only [One] at e; omega), hW1.keeps (ks _) (fun e => by simp only [One] at e; omega), hR1.keeps (ks _) (fun b e f => by simp only [One] at f; have := HXO.out b e; omega), hkq.andThen (ks _) (fun i hi e => by simp only [One] at e; omega)⟩
              case measure => simp [intOf]; omega
            · obtain rfl : q = xs.length := by omega
              have x2 := hX.cell 2 _ rfl
              have z2 := hWb.cell 2 _ rfl
              clear hzl
              go_wp2_with fail
              refine (same_any Ax ds.length cx ds Aw ds.length cw ds wr (Nums.row hR).1 rfl (hWN.grew hK) rfl hdl).mono ?_
              rintro e wE ⟨rfl, hdE⟩
              rw [show SameB ds ds = true from by simp [SameB]]
              have kE := hdE.keeps None
              have hN1 := hN.grew kE
              have hM1 := hM.grew kE
              have hX1 := hX.grew kE
              have hW1 := hWb.grew kE
              have hR1 := hR.grew kE
              have hKE := hK.trans kE
              clear hdE x2 z2 m2 hN hM hX hWb hR hV
              have HAX2 := HAX.out
              have r0 := hW1.cell 0 _ rfl
              have r1 := hW1.cell 1 _ rfl
              have r2 := hW1.cell 2 _ rfl
              have a0 := hN1.cell 0 _ rfl
              have a1 := hN1.cell 1 _ rfl
              have a2 := hN1.cell 2 _ rfl
              have b0 := hN1.free 0
              have b1 := hN1.free 1
              have b2 := hN1.free 2
              have hsw := hkL9.size
              have hsx := hkL.size
              have ks := keeps_three wE (w.heap.size + 1) (.int .i64 u1) (.int .i64 u2) (.slice Aw ds.length cw)
              have hN2 := ((hN1.set 0 (.int .i64 u1)).set 1 (.int .i64 u2)).set 2 (.slice Aw ds.length cw)
              have hM2 := hM1.keeps ks (fun e => by simp only [One] at e; omega)
              have hX2 := hX1.keeps ks (fun e => by simp only [One] at e; omega)
              have hR2 := hR1.keeps ks (fun b e f => by simp only [One] at f; have := (HAX2 b e).1; omega)
              have hK2 := hKE.andThen ks (fun i hi e => by simp only [One] at e; omega)
              simp only [List.set] at hN2
              have x0 := hX2.cell 0 _ rfl
              have x1 := hX2.cell 1 _ rfl
              have x2 := hX2.cell 2 _ rfl
              have c0 := hM2.cell 0 _ rfl
              have c1 := hM2.cell 1 _ rfl
              have c2 := hM2.cell 2 _ rfl
              have d0 := hM2.free 0
              have d1 := hM2.free 1
              have d2 := hM2.free 2
              have HAX3 := Lib.hid HAX2
              clear HAX2
              go_wp2_with fail
              have ks2 := keeps_three (((wE.setCell ⟨w.heap.size + 1, 0, Option.none⟩ (.int .i64 u1)).setCell ⟨w.heap.size + 1, 1, Option.none⟩ (.int .i64 u2)).setCell ⟨w.heap.size + 1, 2, Option.none⟩ (.slice Aw ds.length cw)) (w.heap.size + 1 + 1) (.int .i64 u1) (.int .i64 u2) (.slice Ax ds.length cx)
              have hM3 := ((hM2.set 0 (.int .i64 u1)).set 1 (.int .i64 u2)).set 2 (.slice Ax ds.length cx)
              simp only [List.set] at hM3
              go_roundw
              case rel => exact ⟨k + 1, u1, u2, Aw, cw, _, ds, by omega, by omega, by go_num, ⟨hN2.keeps ks2 (fun e => by simp only [One] at e; omega), hM3, hWN, (hR2.keeps ks2 (fun b e f => by simp only [One] at f; have := (HAX3.out b e).1; omega)).down (by omega), hdl, hK2.andThen ks2 (fun i hi e => by simp only [One] at e; omega)⟩⟩
              case measure => simp [intOf]; omega
    · have hKw := hI.keep
      by_cases hl : k < puts.length
      · have hl2 : ¬ (k < 200) := fun h => hlt ⟨hl, h⟩
        obtain rfl : k = 200 := by omega
        clear hlt hl2
        go_wp2_with fail
        refine (head_any wr).mono ?_
        rintro e wF ⟨rfl, hkF⟩
        go_wp2_with fail
        go_ret
        exact ⟨rfl, hKw.trans hkF⟩
      · obtain rfl : k = puts.length := by omega
        clear hlt
        go_wp2_with fail
        refine (head_any wr).mono ?_
        rintro e wF ⟨rfl, hkF⟩
        go_wp2_with fail
        go_ret
        exact ⟨rfl, hKw.trans hkF⟩
end Go.Proofs.Ytcihfjfbcfgidaa
