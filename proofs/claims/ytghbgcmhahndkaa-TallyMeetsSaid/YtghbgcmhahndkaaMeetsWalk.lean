/- The walk of TallyMeets. -/
import Derived.Test.YtghbgcmhahndkaaOpen
import Derived.Test.YtghbgcmhahndkaaTakesWalk
namespace Go.Proofs.Ytghbgcmhahndkaa
open Go.RowKit Go.Maps Go.Proofs.YtghbgcmhahndkaaW.PrintLast
set_option linter.unusedVariables false

theorem uniq_of_nodup : ∀ (l acc : List Int), (acc ++ l).Nodup → l.foldl (fun acc s => if s ∈ acc then acc else acc ++ [s]) acc = acc ++ l
  | [], acc, _ => by simp
  | x :: l, acc, h => by
    rw [List.foldl_cons]
    have hx : x ∉ acc := fun hm => by
      rw [List.nodup_append] at h
      exact h.2.2 x hm x (by simp) rfl
    rw [if_neg hx, uniq_of_nodup l (acc ++ [x]) (by simpa using h)]
    simp
theorem uniqF_of_nodup {l : List Int} (h : l.Nodup) : uniqF l = l := by
  unfold uniqF; rw [uniq_of_nodup l [] (by simpa using h)]; rfl

theorem Tal.lower {w w' : World} {g base : Nat} {v : Value} {grp : List Int} {need : Int} {bm : Nat} {got : List (Int × Int)} {B : Nat} (h : Tal w g base v grp need bm got) (hB : TalBelow B g bm v) (hk : Keeps (One B) w w') : Tal w' g base v grp need bm got := by
  have h1 := hB.g
  have h2 := hB.bm
  exact h.keeps hk (fun e => by have : g = B := e; omega) (fun e => by have : bm = B := e; omega) (fun b e f => by have : b = B := f; have := hB.v b e; omega)
theorem has_miss (grp : List Int) (got : List (Int × Int)) : (hasF grp got).length + (missF grp got).length = grp.length := by
  unfold hasF missF
  induction grp with
  | nil => rfl
  | cons s grp ih =>
    rw [List.filter_cons, List.filter_cons]
    cases h : (look got s).isSome
    · rw [if_neg (by simp), if_pos (by simp), List.length_cons, List.length_cons]; omega
    · rw [if_pos rfl, if_neg (by simp), List.length_cons, List.length_cons]; omega
theorem has_mem {grp : List Int} {got : List (Int × Int)} {s : Int} (h : s ∈ grp) : decide (s ∈ hasF grp got) = (look got s).isSome := by
  unfold hasF; simp [h]
theorem miss_mem {grp : List Int} {got : List (Int × Int)} {s : Int} (h : s ∈ grp) : decide (s ∈ missF grp got) = !(look got s).isSome := by
  unfold missF; cases e : look got s <;> simp [h, e]
/-- Who counts in both. -/
def bothF (grp : List Int) (got gol : List (Int × Int)) : List Int := grp.filter fun s => (look got s).isSome && (look gol s).isSome
theorem bothF_snoc (grp : List Int) (got gol : List (Int × Int)) (s : Int) : (bothF (grp ++ [s]) got gol).length = (bothF grp got gol).length + (if (look got s).isSome && (look gol s).isSome then 1 else 0) := by
  unfold bothF
  rw [List.filter_append, List.length_append]
  congr 1
  rw [List.filter_cons]
  split <;> simp
theorem pigeon (got gol : List (Int × Int)) : ∀ grp : List Int, (hasF grp got).length + (hasF grp gol).length ≤ grp.length + (bothF grp got gol).length
  | [] => by simp [hasF, bothF]
  | s :: grp => by
    have ih := pigeon got gol grp
    unfold hasF bothF at ih ⊢
    rw [List.filter_cons, List.filter_cons, List.filter_cons]
    cases (look got s).isSome <;> cases (look gol s).isSome <;> simp <;> omega
theorem tookB_true {grp : List Int} {need : Int} {got : List (Int × Int)} {s : Int} (x : Int) (h : true = TookB grp need got s) : decide (need ≤ (got.length : Int)) = false ∧ decide (need ≤ ((tookF grp need got s x).length : Int)) = true := by
  unfold TookB at h
  have h := h.symm
  simp only [Bool.and_eq_true, decide_eq_true_eq] at h
  obtain ⟨h1, h2⟩ := h
  obtain ⟨_, h3, _⟩ := takes_true h1
  refine ⟨by simpa using h3, ?_⟩
  unfold tookF
  rw [h1, if_pos rfl]
  simp; omega

namespace tallyMeets
def LawEnd (w : World) (e : Ending) (w' : World) : Prop := e = .returned (.bool true) ∧ Below w.heap.size w w'

set_option maxRecDepth 100000 in
set_option maxHeartbeats 6400000 in
theorem walk (A : Option Addr) (n cap : Nat) (zs : List Int) (B : Option Addr) (m cap' : Nat) (vs : List Vo) (C : Option Addr) (m2 cap2 : Nat) (us : List Vo) (w : World) (hA : Nums .i64 w A zs) (hn : zs.length = n) (hr : n ≤ 17592186043904) (hwf : ∀ s ∈ zs, (Lit.int .i64 s).wf = true)
    (hB : Vs w B vs) (hm : vs.length = m) (hvf : ∀ x ∈ vs, x.Fine) (hrm : m * 24 ≤ 140737488351232) (hC : Vs w C us) (hm2 : us.length = m2) (huf : ∀ x ∈ us, x.Fine) (hru : m2 * 24 ≤ 140737488351232) :
    Calls Try.prog 5 #[.slice A n cap, .slice B m cap', .slice C m2 cap2] w (LawEnd w) := by
  obtain ⟨i0, hi, hz0, hz1, hz2⟩ := info_parts Try.infoI64
  subst hn
  subst hm
  subst hm2
  have WF := Lib.hid (fun s (hs : s ∈ uniqF zs) => hwf s ((uniqF_mem zs s).1 hs))
  have VF := Lib.hid hvf
  have UF := Lib.hid huf
  have hul := uniqF_len zs
  clear hwf hvf huf
  go_enter Try.func5, Try.ntmps5
  go_wp2_with fail
  refine (known_any w).mono ?_
  rintro e w1 ⟨rfl, hk1⟩
  go_wp2_with fail
  go_loopw [7, 8] (fun y i wr => ∃ (k : Nat) (ys : List Int), k ≤ zs.length ∧ i = .int .i64 k ∧ Row .i64 3 wr w.heap.size y ys ∧ Hid (ys = uniqF (zs.take k)) ∧ ys.length ≤ k ∧ Keeps None w wr) (fun _ i _ => zs.length - (intOf i).toNat)
  case atStart => exact ⟨0, [], Nat.zero_le _, rfl, Row.nil _ _ _ _, Lib.hid rfl, Nat.le_refl _, hk1⟩
  case round =>
    clear hk1
    obtain ⟨k, ys, hk, rfl, hw, hE, hyl, hK⟩ := hrel
    have hsz := hK.size
    obtain ⟨Ay, cy, rfl, -, hNy, hny, hoa, -⟩ := hw.open_
    by_cases hlt : k < zs.length
    · obtain ⟨s, b, o, rfl, hc, hs⟩ := (hA.grew hK).get k hlt
      have HT := Lib.hid (take_succ_of hs.out)
      go_wp2_with fail
      refine (stands_any Ay ys.length cy ys s wr hNy rfl (by omega)).mono ?_
      rintro e w0 ⟨hd, rfl⟩
      have hk0 := hd.keeps None
      have hK0 := hK.trans hk0
      have hw0 := hw.grew hk0
      have hc0 := hk0.cell hc id
      have hsz0 := hK0.size
      by_cases hni : s ∈ ys
      · have E2 : Hid (ys = uniqF (zs.take (k + 1))) := Lib.hid (by rw [HT.out, uniqF_snoc, ← hE.out, if_pos hni])
        rw [decide_eq_true hni]
        clear hni hd hc hK hw hsz hk0
        go_wp2_with fail
        go_roundw
        case rel => exact ⟨k + 1, ys, by omega, by go_num, hw0, E2, by omega, hK0⟩
        case measure => simp [intOf]; omega
      · have E2 : Hid (ys ++ [s] = uniqF (zs.take (k + 1))) := Lib.hid (by rw [HT.out, uniqF_snoc, ← hE.out, if_neg hni])
        rw [decide_eq_false hni]
        clear hni hd hc hK hw hsz hk0
        go_wp2_with (at_builtin; refine wpList_append_row _ rfl (.tmp 37) (.tmp 42) 27 rfl w.heap.size 3 i0 (.int .i64 0) 1 8 Try.underlying27 hi hz0 hz1 hz2 rfl (by decide) _ ys.length _ rfl (hw0.raw.alloc _) (some ⟨w0.heap.size, 0, Option.none⟩) 1 1 [Value.int .i64 s] rfl rfl (fun e => by cases e) (src_new w0 3 _ _ rfl) (ints_oneCell _ [s]) (by unfold maxLen; omega) (by omega) (by simp; omega) ?_; intro v' w1 hown hk1 hloc; have hr1 : Row .i64 3 w1 w.heap.size v' (ys ++ [s]) := Row.of_append rfl rfl hown; have hk2 : Keeps None w w1 := (hK0.alloc _).own (hw0.raw.alloc _) (Nat.le_refl _) hk1; clear hown)
        go_roundw
        case rel => exact ⟨k + 1, ys ++ [s], by omega, by go_num, hr1, E2, by simp; omega, hk2⟩
        case measure => simp [intOf]; omega
    · obtain rfl : k = zs.length := by omega
      have hE := hE.out
      rw [List.take_of_length_le (Nat.le_refl _)] at hE
      have HN : Hid ys.Nodup := Lib.hid (by rw [hE]; exact uniqF_nodup zs)
      have HQ : Hid (ys = uniqF zs) := Lib.hid hE
      have HU : Hid (uniqF ys = ys) := Lib.hid (uniqF_of_nodup HN.out)
      clear hE hlt hk hsz
      go_wp2_with fail
      refine (new_any Ay ys.length cy ys _ wr hNy rfl (by omega)).mono ?_
      rintro e w2 ⟨v, rfl, hT2, hk2⟩
      rw [HU.out] at hT2
      obtain ⟨g, hg⟩ : ∃ g, g = wr.heap.size + 1 := ⟨_, rfl⟩
      obtain ⟨bm, hbm⟩ : ∃ b, b = wr.heap.size := ⟨_, rfl⟩
      have hbw : w.heap.size ≤ bm := by rw [hbm]; exact hK.size
      rw [← hg, ← hbm] at hT2
      rw [← hg]
      have hK2 := hK.trans hk2
      have hN2 := hNy.grew hk2
      have hoa2 : ∀ b o, Ay = some ⟨b, o, Option.none⟩ → b < bm := fun b o e => by rw [hbm]; exact (hoa b o e).2.2
      have hoff1 : Off Ay (One bm) := fun b o e f => by have : b = bm := f; have := hoa2 b o e; omega
      clear hg hbm hK hk2 hNy hw
      go_wp2_with fail
      refine (new_any Ay ys.length cy ys _ w2 hN2 rfl (by omega)).mono ?_
      rintro e w3 ⟨v', rfl, hY3, hk3⟩
      rw [HU.out] at hY3
      have hbel := hT2.below
      obtain ⟨g', hg'⟩ : ∃ g, g = w2.heap.size + 1 := ⟨_, rfl⟩
      obtain ⟨bm', hbm'⟩ : ∃ b, b = w2.heap.size := ⟨_, rfl⟩
      have hbw' : w.heap.size ≤ bm' := by rw [hbm']; exact hK2.size
      rw [← hg', ← hbm'] at hY3
      rw [← hbm'] at hbel
      rw [← hg']
      have hoff2 : Off Ay (One bm') := fun b o e f => by have : b = bm' := f; have := hoa2 b o e; have := hbel.bm; omega
      have hT3 := hT2.grew hk3
      have hK3 := hK2.trans hk3
      have hN3 := hN2.grew hk3
      clear hg' hbm' hK2 hk3 hN2 hT2
      obtain ⟨need, hneed⟩ : ∃ need : Int, need = (ys.length : Int) / 2 + 1 := ⟨_, rfl⟩
      rw [← hneed] at hT3 hY3
      have HNEED := Lib.hid hneed
      clear hneed
      go_wp2_with fail
      go_loopw [11] (fun i wr => ∃ (k : Nat) (got : List (Int × Int)), k ≤ vs.length ∧ i = .int .i64 k ∧ Tal wr g bm v ys need bm got ∧ Tal wr g' bm' v' ys need bm' [] ∧ Nums .i64 wr Ay ys ∧ Hid (Fit ys got) ∧ Keeps None w wr) (fun i _ => vs.length - (intOf i).toNat)
      case atStart => exact ⟨0, [], Nat.zero_le _, rfl, hT3, hY3, hN3, Lib.hid (Fit.nil _), hK3⟩
      case round =>
        clear hT3 hY3 hK3 hN3
        obtain ⟨k, got, hk, rfl, hT, hY, hN, hF, hK⟩ := hrel
        by_cases hlt : k < vs.length
        · obtain ⟨⟨s, x, lo⟩, hy⟩ : ∃ y, vs[k]? = some y := ⟨_, List.getElem?_eq_getElem hlt⟩
          obtain ⟨b, o, rfl, c0, c1, -⟩ := hB k _ hy
          obtain ⟨fs, fx⟩ := VF.out _ (List.mem_of_getElem? hy)
          simp only at c0 c1 fs fx
          have held : ∀ w', Keeps None w w' → (Keeps None w w' ∧ w'.cell? ⟨b, o + k * 3, Option.none⟩ = some (.int .i64 s) ∧ w'.cell? ⟨b, o + k * 3 + 1, Option.none⟩ = some (.int .i64 x)) := fun w' h => ⟨h, h.cell c0 id, h.cell c1 id⟩
          have HELD := Lib.hid held
          have FS := Lib.hid fs
          have FX := Lib.hid fx
          have hgot := hF.out.le
          have hF3 := Lib.hid (hF.out.took (need := need) (s := s) (x := x) HN.out)
          obtain ⟨W0, hW0⟩ : ∃ W0, W0 = decide (need ≤ (got.length : Int)) := ⟨_, rfl⟩
          have HW0 := Lib.hid hW0
          obtain ⟨Bk, hBk⟩ : ∃ Bk, Bk = TookB ys need got s := ⟨_, rfl⟩
          have HBK := Lib.hid hBk
          clear held hy fs fx hBk hW0
          go_wp2_with fail
          refine (enough_any g bm v ys need bm got wr hT).mono ?_
          rintro e wq ⟨hdq, rfl⟩
          rw [← HW0.out]
          have hTq := Drew.tal hT hdq
          have hYq := Drew.tal hY hdq
          have hKq := hK.trans (hdq.keeps None)
          have hNq := hN.grew (hdq.keeps None)
          clear hT hY hN hK hdq
          cases Bk with
          | false =>
            go_wp2_with fail
            refine start_ (ds := []) (S := (fun w' => Keeps None w w' ∧ w'.cell? ⟨b, o + k * 3, Option.none⟩ = some (.int .i64 s) ∧ w'.cell? ⟨b, o + k * 3 + 1, Option.none⟩ = some (.int .i64 x))) #[false, false, false, false, false, false, false, false, false, false, false, false, false, false, false, false, false, false, false, false] (by kernel_rfl) rfl rfl (HELD.out _ hKq.drew) (fun hS0 => ?_)
            refine pure_ (i := 0) (N := some 70) (v := .pointer (some ⟨g, 0, Option.none⟩)) #[true, false, false, false, false, false, false, false, false, false, false, false, false, false, false, false, false, false, false, false] rfl rfl (by kernel_rfl) (fun _ _ _ h => h) (Or.inl ⟨wanted_none rfl, fun w => by rfl⟩) rfl ?_
            try simp only [Act.put, List.setIfInBounds_toArray, List.set_cons_zero, List.set_cons_succ]
            refine pure_ (i := 1) (N := some 71) (v := .slice (some ⟨b, o, Option.none⟩) vs.length cap') #[true, true, false, false, false, false, false, false, false, false, false, false, false, false, false, false, false, false, false, false] rfl rfl (by kernel_rfl) (fun _ _ _ h => h) (Or.inl ⟨wanted_none rfl, fun w => by rfl⟩) rfl ?_
            try simp only [Act.put, List.setIfInBounds_toArray, List.set_cons_zero, List.set_cons_succ]
            refine pure_ (i := 2) (N := some 72) (v := .int .i64 k) #[true, true, true, false, false, false, false, false, false, false, false, false, false, false, false, false, false, false, false, false] rfl rfl (by kernel_rfl) (fun _ _ _ h => h) (Or.inl ⟨wanted_none rfl, fun w => by rfl⟩) rfl ?_
            try simp only [Act.put, List.setIfInBounds_toArray, List.set_cons_zero, List.set_cons_succ]
            refine pure_ (i := 3) (N := some 73) (v := .pointer (some ⟨b, o + k * 3, Option.none⟩)) #[true, true, true, true, false, false, false, false, false, false, false, false, false, false, false, false, false, false, false, false] rfl rfl (by kernel_rfl) (fun _ _ _ h => h) (Or.inl ⟨wanted_none rfl, fun w => by go_simp⟩) rfl ?_
            try simp only [Act.put, List.setIfInBounds_toArray, List.set_cons_zero, List.set_cons_succ]
            refine pure_ (i := 4) (N := some 74) (v := .pointer (some ⟨b, o + k * 3, Option.none⟩)) #[true, true, true, true, true, false, false, false, false, false, false, false, false, false, false, false, false, false, false, false] rfl rfl (by kernel_rfl) (fun _ _ _ h => h) (Or.inl ⟨wanted_none rfl, fun w => by go_simp⟩) rfl ?_
            try simp only [Act.put, List.setIfInBounds_toArray, List.set_cons_zero, List.set_cons_succ]
            refine take_ (i := 5) (N := some 75) (v := .int .i64 s) #[true, true, true, true, true, true, false, false, false, false, false, false, false, false, false, false, false, false, false, false] rfl rfl (by kernel_rfl) (fun _ _ _ h => h) (Or.inl ⟨wanted_none rfl, by intro w' hSw; go_split_ands; go_simp⟩) hS0 rfl ?_
            try simp only [Act.put, List.setIfInBounds_toArray, List.set_cons_zero, List.set_cons_succ]
            refine pure_ (i := 6) (N := some 76) (v := .slice (some ⟨b, o, Option.none⟩) vs.length cap') #[true, true, true, true, true, true, true, false, false, false, false, false, false, false, false, false, false, false, false, false] rfl rfl (by kernel_rfl) (fun _ _ _ h => h) (Or.inl ⟨wanted_none rfl, fun w => by rfl⟩) rfl ?_
            try simp only [Act.put, List.setIfInBounds_toArray, List.set_cons_zero, List.set_cons_succ]
            refine pure_ (i := 7) (N := some 77) (v := .int .i64 k) #[true, true, true, true, true, true, true, true, false, false, false, false, false, false, false, false, false, false, false, false] rfl rfl (by kernel_rfl) (fun _ _ _ h => h) (Or.inl ⟨wanted_none rfl, fun w => by rfl⟩) rfl ?_
            try simp only [Act.put, List.setIfInBounds_toArray, List.set_cons_zero, List.set_cons_succ]
            refine pure_ (i := 8) (N := some 78) (v := .pointer (some ⟨b, o + k * 3, Option.none⟩)) #[true, true, true, true, true, true, true, true, true, false, false, false, false, false, false, false, false, false, false, false] rfl rfl (by kernel_rfl) (fun _ _ _ h => h) (Or.inl ⟨wanted_none rfl, fun w => by go_simp⟩) rfl ?_
            try simp only [Act.put, List.setIfInBounds_toArray, List.set_cons_zero, List.set_cons_succ]
            refine pure_ (i := 9) (N := some 79) (v := .pointer (some ⟨b, o + k * 3 + 1, Option.none⟩)) #[true, true, true, true, true, true, true, true, true, true, false, false, false, false, false, false, false, false, false, false] rfl rfl (by kernel_rfl) (fun _ _ _ h => h) (Or.inl ⟨wanted_none rfl, fun w => by go_simp⟩) rfl ?_
            try simp only [Act.put, List.setIfInBounds_toArray, List.set_cons_zero, List.set_cons_succ]
            refine take_ (i := 10) (N := some 80) (v := .int .i64 x) #[true, true, true, true, true, true, true, true, true, true, true, false, false, false, false, false, false, false, false, false] rfl rfl (by kernel_rfl) (fun _ _ _ h => h) (Or.inl ⟨wanted_none rfl, by intro w' hSw; go_split_ands; go_simp⟩) hS0 rfl ?_
            try simp only [Act.put, List.setIfInBounds_toArray, List.set_cons_zero, List.set_cons_succ]
            refine one_ (i := 11) (oi := ({ dst := some 81, op := Op.call { callee := Callee.value (Operand.func 19), args := #[Operand.tmp 70, Operand.tmp 75, Operand.tmp 80], argTypes := #[30, 3, 3] }, type := 4, pos := "outright.go:36", after := #[{ on := 0, ground := Ground.data }, { on := 5, ground := Ground.data }, { on := 10, ground := Ground.data }], guard := Option.none } : Oper)) (N := some 81) #[true, true, true, true, true, true, true, true, true, true, true, true, false, false, false, false, false, false, false, false] rfl rfl (by kernel_rfl) (by simp) ?_
            intro KK hKK
            refine goes_ Try.func19 (by kernel_rfl) rfl #[.pointer (some ⟨g, 0, Option.none⟩), .int .i64 s, .int .i64 x] (wanted_none rfl) rfl rfl (by simp [Act.eval]) ?_
            refine (take_any g bm v ys need bm got s x _ (Drew.tal hTq ⟨1, rfl⟩) FS.out FX.out (by omega) (by omega)).mono ?_
            rintro e w2 ⟨rfl, hTz, hkz⟩
            rw [← HBK.out]
            have hYz := (Drew.tal hYq ⟨1, rfl⟩).upto hbel.bm hkz
            have hNz := (hNq.grew (Keeps.refl None _).drew).keeps hkz hoff1
            have hk2 : Keeps None w w2 := hKq.drew.bm hkz hbw
            refine ⟨_, rfl, hKK.out _ _ (HELD.out _ hk2) (fun hS1 => ?_)⟩
            try simp only [Act.put, List.setIfInBounds_toArray, List.set_cons_zero, List.set_cons_succ]
            refine pure_ (i := 12) (N := some 82) (v := .bool false) #[true, true, true, true, true, true, true, true, true, true, true, true, true, false, false, false, false, false, false, false] rfl rfl (by kernel_rfl) (fun _ _ _ h => h) (Or.inl ⟨wanted_none rfl, fun w => by rfl⟩) rfl ?_
            try simp only [Act.put, List.setIfInBounds_toArray, List.set_cons_zero, List.set_cons_succ]
            refine pure_ (i := 13) (N := some 83) (v := undef) #[true, true, true, true, true, true, true, true, true, true, true, true, true, true, false, false, false, false, false, false] rfl rfl (by kernel_rfl) (fun _ _ _ h => h) (Or.inr ⟨by rfl, rfl⟩) rfl ?_
            try simp only [Act.put, List.setIfInBounds_toArray, List.set_cons_zero, List.set_cons_succ]
            refine pure_ (i := 14) (N := some 84) (v := undef) #[true, true, true, true, true, true, true, true, true, true, true, true, true, true, true, false, false, false, false, false] rfl rfl (by kernel_rfl) (fun _ _ _ h => h) (Or.inr ⟨by rfl, rfl⟩) rfl ?_
            try simp only [Act.put, List.setIfInBounds_toArray, List.set_cons_zero, List.set_cons_succ]
            refine pure_ (i := 15) (N := some 85) (v := undef) #[true, true, true, true, true, true, true, true, true, true, true, true, true, true, true, true, false, false, false, false] rfl rfl (by kernel_rfl) (fun _ _ _ h => h) (Or.inr ⟨by rfl, rfl⟩) rfl ?_
            try simp only [Act.put, List.setIfInBounds_toArray, List.set_cons_zero, List.set_cons_succ]
            refine pure_ (i := 16) (N := some 86) (v := undef) #[true, true, true, true, true, true, true, true, true, true, true, true, true, true, true, true, true, false, false, false] rfl rfl (by kernel_rfl) (fun _ _ _ h => h) (Or.inr ⟨by rfl, rfl⟩) rfl ?_
            try simp only [Act.put, List.setIfInBounds_toArray, List.set_cons_zero, List.set_cons_succ]
            refine pure_ (i := 17) (N := some 87) (v := undef) #[true, true, true, true, true, true, true, true, true, true, true, true, true, true, true, true, true, true, false, false] rfl rfl (by kernel_rfl) (fun _ _ _ h => h) (Or.inr ⟨by rfl, rfl⟩) rfl ?_
            try simp only [Act.put, List.setIfInBounds_toArray, List.set_cons_zero, List.set_cons_succ]
            refine pure_ (i := 18) (N := some 88) (v := undef) #[true, true, true, true, true, true, true, true, true, true, true, true, true, true, true, true, true, true, true, false] rfl rfl (by kernel_rfl) (fun _ _ _ h => h) (Or.inr ⟨by rfl, rfl⟩) rfl ?_
            try simp only [Act.put, List.setIfInBounds_toArray, List.set_cons_zero, List.set_cons_succ]
            refine pure_ (i := 19) (N := some 89) (v := .bool false) #[true, true, true, true, true, true, true, true, true, true, true, true, true, true, true, true, true, true, true, true] rfl rfl (by kernel_rfl) (fun _ _ _ h => h) (Or.inl ⟨wanted_none rfl, fun w => by go_simp⟩) rfl ?_
            try simp only [Act.put, List.setIfInBounds_toArray, List.set_cons_zero, List.set_cons_succ]
            refine done_ (by kernel_rfl) ?_
            all_goals
              go_wp2_with fail
              go_roundw
              case rel => exact ⟨k + 1, _, by omega, by go_num, hTz, hYz, hNz, hF3, hk2⟩
              case measure => simp [intOf]; omega
          | true =>
            obtain ⟨hb0, hb1⟩ := tookB_true x HBK.out
            have HB1 := Lib.hid hb1
            obtain rfl : W0 = false := HW0.out.trans hb0
            clear hb0 hb1
            go_wp2_with fail
            refine start_ (ds := []) (S := (fun w' => Keeps None w w' ∧ w'.cell? ⟨b, o + k * 3, Option.none⟩ = some (.int .i64 s) ∧ w'.cell? ⟨b, o + k * 3 + 1, Option.none⟩ = some (.int .i64 x))) #[false, false, false, false, false, false, false, false, false, false, false, false, false, false, false, false, false, false, false, false] (by kernel_rfl) rfl rfl (HELD.out _ hKq.drew) (fun hS0 => ?_)
            refine pure_ (i := 0) (N := some 70) (v := .pointer (some ⟨g, 0, Option.none⟩)) #[true, false, false, false, false, false, false, false, false, false, false, false, false, false, false, false, false, false, false, false] rfl rfl (by kernel_rfl) (fun _ _ _ h => h) (Or.inl ⟨wanted_none rfl, fun w => by rfl⟩) rfl ?_
            try simp only [Act.put, List.setIfInBounds_toArray, List.set_cons_zero, List.set_cons_succ]
            refine pure_ (i := 1) (N := some 71) (v := .slice (some ⟨b, o, Option.none⟩) vs.length cap') #[true, true, false, false, false, false, false, false, false, false, false, false, false, false, false, false, false, false, false, false] rfl rfl (by kernel_rfl) (fun _ _ _ h => h) (Or.inl ⟨wanted_none rfl, fun w => by rfl⟩) rfl ?_
            try simp only [Act.put, List.setIfInBounds_toArray, List.set_cons_zero, List.set_cons_succ]
            refine pure_ (i := 2) (N := some 72) (v := .int .i64 k) #[true, true, true, false, false, false, false, false, false, false, false, false, false, false, false, false, false, false, false, false] rfl rfl (by kernel_rfl) (fun _ _ _ h => h) (Or.inl ⟨wanted_none rfl, fun w => by rfl⟩) rfl ?_
            try simp only [Act.put, List.setIfInBounds_toArray, List.set_cons_zero, List.set_cons_succ]
            refine pure_ (i := 3) (N := some 73) (v := .pointer (some ⟨b, o + k * 3, Option.none⟩)) #[true, true, true, true, false, false, false, false, false, false, false, false, false, false, false, false, false, false, false, false] rfl rfl (by kernel_rfl) (fun _ _ _ h => h) (Or.inl ⟨wanted_none rfl, fun w => by go_simp⟩) rfl ?_
            try simp only [Act.put, List.setIfInBounds_toArray, List.set_cons_zero, List.set_cons_succ]
            refine pure_ (i := 4) (N := some 74) (v := .pointer (some ⟨b, o + k * 3, Option.none⟩)) #[true, true, true, true, true, false, false, false, false, false, false, false, false, false, false, false, false, false, false, false] rfl rfl (by kernel_rfl) (fun _ _ _ h => h) (Or.inl ⟨wanted_none rfl, fun w => by go_simp⟩) rfl ?_
            try simp only [Act.put, List.setIfInBounds_toArray, List.set_cons_zero, List.set_cons_succ]
            refine take_ (i := 5) (N := some 75) (v := .int .i64 s) #[true, true, true, true, true, true, false, false, false, false, false, false, false, false, false, false, false, false, false, false] rfl rfl (by kernel_rfl) (fun _ _ _ h => h) (Or.inl ⟨wanted_none rfl, by intro w' hSw; go_split_ands; go_simp⟩) hS0 rfl ?_
            try simp only [Act.put, List.setIfInBounds_toArray, List.set_cons_zero, List.set_cons_succ]
            refine pure_ (i := 6) (N := some 76) (v := .slice (some ⟨b, o, Option.none⟩) vs.length cap') #[true, true, true, true, true, true, true, false, false, false, false, false, false, false, false, false, false, false, false, false] rfl rfl (by kernel_rfl) (fun _ _ _ h => h) (Or.inl ⟨wanted_none rfl, fun w => by rfl⟩) rfl ?_
            try simp only [Act.put, List.setIfInBounds_toArray, List.set_cons_zero, List.set_cons_succ]
            refine pure_ (i := 7) (N := some 77) (v := .int .i64 k) #[true, true, true, true, true, true, true, true, false, false, false, false, false, false, false, false, false, false, false, false] rfl rfl (by kernel_rfl) (fun _ _ _ h => h) (Or.inl ⟨wanted_none rfl, fun w => by rfl⟩) rfl ?_
            try simp only [Act.put, List.setIfInBounds_toArray, List.set_cons_zero, List.set_cons_succ]
            refine pure_ (i := 8) (N := some 78) (v := .pointer (some ⟨b, o + k * 3, Option.none⟩)) #[true, true, true, true, true, true, true, true, true, false, false, false, false, false, false, false, false, false, false, false] rfl rfl (by kernel_rfl) (fun _ _ _ h => h) (Or.inl ⟨wanted_none rfl, fun w => by go_simp⟩) rfl ?_
            try simp only [Act.put, List.setIfInBounds_toArray, List.set_cons_zero, List.set_cons_succ]
            refine pure_ (i := 9) (N := some 79) (v := .pointer (some ⟨b, o + k * 3 + 1, Option.none⟩)) #[true, true, true, true, true, true, true, true, true, true, false, false, false, false, false, false, false, false, false, false] rfl rfl (by kernel_rfl) (fun _ _ _ h => h) (Or.inl ⟨wanted_none rfl, fun w => by go_simp⟩) rfl ?_
            try simp only [Act.put, List.setIfInBounds_toArray, List.set_cons_zero, List.set_cons_succ]
            refine take_ (i := 10) (N := some 80) (v := .int .i64 x) #[true, true, true, true, true, true, true, true, true, true, true, false, false, false, false, false, false, false, false, false] rfl rfl (by kernel_rfl) (fun _ _ _ h => h) (Or.inl ⟨wanted_none rfl, by intro w' hSw; go_split_ands; go_simp⟩) hS0 rfl ?_
            try simp only [Act.put, List.setIfInBounds_toArray, List.set_cons_zero, List.set_cons_succ]
            refine one_ (i := 11) (oi := ({ dst := some 81, op := Op.call { callee := Callee.value (Operand.func 19), args := #[Operand.tmp 70, Operand.tmp 75, Operand.tmp 80], argTypes := #[30, 3, 3] }, type := 4, pos := "outright.go:36", after := #[{ on := 0, ground := Ground.data }, { on := 5, ground := Ground.data }, { on := 10, ground := Ground.data }], guard := Option.none } : Oper)) (N := some 81) #[true, true, true, true, true, true, true, true, true, true, true, true, false, false, false, false, false, false, false, false] rfl rfl (by kernel_rfl) (by simp) ?_
            intro KK hKK
            refine goes_ Try.func19 (by kernel_rfl) rfl #[.pointer (some ⟨g, 0, Option.none⟩), .int .i64 s, .int .i64 x] (wanted_none rfl) rfl rfl (by simp [Act.eval]) ?_
            refine (take_any g bm v ys need bm got s x _ (Drew.tal hTq ⟨1, rfl⟩) FS.out FX.out (by omega) (by omega)).mono ?_
            rintro e w2 ⟨rfl, hTz, hkz⟩
            rw [← HBK.out]
            have hYz := (Drew.tal hYq ⟨1, rfl⟩).upto hbel.bm hkz
            have hNz := (hNq.grew (Keeps.refl None _).drew).keeps hkz hoff1
            have hk2 : Keeps None w w2 := hKq.drew.bm hkz hbw
            refine ⟨_, rfl, hKK.out _ _ (HELD.out _ hk2) (fun hS1 => ?_)⟩
            try simp only [Act.put, List.setIfInBounds_toArray, List.set_cons_zero, List.set_cons_succ]
            refine pure_ (i := 12) (N := some 82) (v := .bool true) #[true, true, true, true, true, true, true, true, true, true, true, true, true, false, false, false, false, false, false, false] rfl rfl (by kernel_rfl) (fun _ _ _ h => h) (Or.inl ⟨wanted_none rfl, fun w => by rfl⟩) rfl ?_
            try simp only [Act.put, List.setIfInBounds_toArray, List.set_cons_zero, List.set_cons_succ]
            refine pure_ (i := 13) (N := some 83) (v := .bool false) #[true, true, true, true, true, true, true, true, true, true, true, true, true, true, false, false, false, false, false, false] rfl rfl (by kernel_rfl) (fun _ _ _ h => h) (Or.inl ⟨by rfl, fun w => by rfl⟩) rfl ?_
            try simp only [Act.put, List.setIfInBounds_toArray, List.set_cons_zero, List.set_cons_succ]
            refine pure_ (i := 14) (N := some 84) (v := .bool false) #[true, true, true, true, true, true, true, true, true, true, true, true, true, true, true, false, false, false, false, false] rfl rfl (by kernel_rfl) (fun _ _ _ h => h) (Or.inl ⟨by rfl, fun w => by rfl⟩) rfl ?_
            try simp only [Act.put, List.setIfInBounds_toArray, List.set_cons_zero, List.set_cons_succ]
            refine pure_ (i := 15) (N := some 85) (v := .pointer (some ⟨g, 0, Option.none⟩)) #[true, true, true, true, true, true, true, true, true, true, true, true, true, true, true, true, false, false, false, false] rfl rfl (by kernel_rfl) (fun _ _ _ h => h) (Or.inl ⟨by rfl, fun w => by rfl⟩) rfl ?_
            try simp only [Act.put, List.setIfInBounds_toArray, List.set_cons_zero, List.set_cons_succ]
            refine one_ (i := 16) (oi := ({ dst := some 86, op := Op.call { callee := Callee.value (Operand.func 23), args := #[Operand.tmp 85], argTypes := #[30] }, type := 4, pos := "outright.go:36", after := #[{ on := 15, ground := Ground.data }, { on := 14, ground := Ground.chain }, { on := 14, ground := Ground.guard }], guard := some (14, false) } : Oper)) (N := some 86) #[true, true, true, true, true, true, true, true, true, true, true, true, true, true, true, true, true, false, false, false] rfl rfl (by kernel_rfl) (by simp) ?_
            intro KK hKK
            refine goes_ Try.func23 (by kernel_rfl) rfl #[.pointer (some ⟨g, 0, Option.none⟩)] (by rfl) rfl rfl (by simp [Act.eval]) ?_
            refine (enough_any g bm v ys need bm _ _ hTz).mono ?_
            rintro e w3 ⟨hdz, rfl⟩
            rw [HB1.out]
            have hTy := Drew.tal hTz hdz
            have hNy := hNz.grew (hdz.keeps None)
            have hYy := Drew.tal hYz hdz
            have hk3 : Keeps None w w3 := hk2.trans (hdz.keeps None)
            refine ⟨_, rfl, hKK.out _ _ (HELD.out _ hk3) (fun hS2 => ?_)⟩
            try simp only [Act.put, List.setIfInBounds_toArray, List.set_cons_zero, List.set_cons_succ]
            refine pure_ (i := 17) (N := some 87) (v := .bool false) #[true, true, true, true, true, true, true, true, true, true, true, true, true, true, true, true, true, true, false, false] rfl rfl (by kernel_rfl) (fun _ _ _ h => h) (Or.inl ⟨by rfl, fun w => by go_simp⟩) rfl ?_
            try simp only [Act.put, List.setIfInBounds_toArray, List.set_cons_zero, List.set_cons_succ]
            refine pure_ (i := 18) (N := some 88) (v := .bool false) #[true, true, true, true, true, true, true, true, true, true, true, true, true, true, true, true, true, true, true, false] rfl rfl (by kernel_rfl) (fun _ _ _ h => h) (Or.inl ⟨by rfl, fun w => by go_simp⟩) rfl ?_
            try simp only [Act.put, List.setIfInBounds_toArray, List.set_cons_zero, List.set_cons_succ]
            refine pure_ (i := 19) (N := some 89) (v := .bool false) #[true, true, true, true, true, true, true, true, true, true, true, true, true, true, true, true, true, true, true, true] rfl rfl (by kernel_rfl) (fun _ _ _ h => h) (Or.inl ⟨wanted_none rfl, fun w => by go_simp⟩) rfl ?_
            try simp only [Act.put, List.setIfInBounds_toArray, List.set_cons_zero, List.set_cons_succ]
            refine done_ (by kernel_rfl) ?_
            all_goals
              go_wp2_with fail
              go_roundw
              case rel => exact ⟨k + 1, _, by omega, by go_num, hTy, hYy, hNy, hF3, hk3⟩
              case measure => simp [intOf]; omega
        · go_wp2_with fail
          clear hlt hk
          go_loopw [13] (fun i wr => ∃ (q : Nat) (gol : List (Int × Int)), q ≤ us.length ∧ i = .int .i64 q ∧ Tal wr g bm v ys need bm got ∧ Tal wr g' bm' v' ys need bm' gol ∧ Nums .i64 wr Ay ys ∧ Hid (Fit ys gol) ∧ Keeps None w wr) (fun i _ => us.length - (intOf i).toNat)
          case atStart => exact ⟨0, [], Nat.zero_le _, rfl, hT, hY, hN, Lib.hid (Fit.nil _), hK⟩
          case round =>
            clear hT hY hN hK
            obtain ⟨q, gol, hq, rfl, hTq, hYq, hNq, hG, hKq⟩ := hrel
            by_cases hlq : q < us.length
            · obtain ⟨⟨s, x, lo⟩, hy⟩ : ∃ y, us[q]? = some y := ⟨_, List.getElem?_eq_getElem hlq⟩
              obtain ⟨b, o, rfl, c0, c1, -⟩ := hC q _ hy
              obtain ⟨fs, fx⟩ := UF.out _ (List.mem_of_getElem? hy)
              simp only at c0 c1 fs fx
              have held : ∀ w', Keeps None w w' → (Keeps None w w' ∧ w'.cell? ⟨b, o + q * 3, Option.none⟩ = some (.int .i64 s) ∧ w'.cell? ⟨b, o + q * 3 + 1, Option.none⟩ = some (.int .i64 x)) := fun w' h => ⟨h, h.cell c0 id, h.cell c1 id⟩
              have HELD := Lib.hid held
              have FS := Lib.hid fs
              have FX := Lib.hid fx
              have hgot := hG.out.le
              have hF3 := Lib.hid (hG.out.took (need := need) (s := s) (x := x) HN.out)
              clear held hy fs fx
              go_wp2_with fail
              refine start_ (ds := []) (S := (fun w' => Keeps None w w' ∧ w'.cell? ⟨b, o + q * 3, Option.none⟩ = some (.int .i64 s) ∧ w'.cell? ⟨b, o + q * 3 + 1, Option.none⟩ = some (.int .i64 x))) #[false, false, false, false, false, false, false, false, false, false, false, false] (by kernel_rfl) rfl rfl (HELD.out _ hKq.drew) (fun hS0 => ?_)
              refine pure_ (i := 0) (N := some 96) (v := .pointer (some ⟨g', 0, Option.none⟩)) #[true, false, false, false, false, false, false, false, false, false, false, false] rfl rfl (by kernel_rfl) (fun _ _ _ h => h) (Or.inl ⟨wanted_none rfl, fun w => by rfl⟩) rfl ?_
              try simp only [Act.put, List.setIfInBounds_toArray, List.set_cons_zero, List.set_cons_succ]
              refine pure_ (i := 1) (N := some 97) (v := .slice (some ⟨b, o, Option.none⟩) us.length cap2) #[true, true, false, false, false, false, false, false, false, false, false, false] rfl rfl (by kernel_rfl) (fun _ _ _ h => h) (Or.inl ⟨wanted_none rfl, fun w => by rfl⟩) rfl ?_
              try simp only [Act.put, List.setIfInBounds_toArray, List.set_cons_zero, List.set_cons_succ]
              refine pure_ (i := 2) (N := some 98) (v := .int .i64 q) #[true, true, true, false, false, false, false, false, false, false, false, false] rfl rfl (by kernel_rfl) (fun _ _ _ h => h) (Or.inl ⟨wanted_none rfl, fun w => by rfl⟩) rfl ?_
              try simp only [Act.put, List.setIfInBounds_toArray, List.set_cons_zero, List.set_cons_succ]
              refine pure_ (i := 3) (N := some 99) (v := .pointer (some ⟨b, o + q * 3, Option.none⟩)) #[true, true, true, true, false, false, false, false, false, false, false, false] rfl rfl (by kernel_rfl) (fun _ _ _ h => h) (Or.inl ⟨wanted_none rfl, fun w => by go_simp⟩) rfl ?_
              try simp only [Act.put, List.setIfInBounds_toArray, List.set_cons_zero, List.set_cons_succ]
              refine pure_ (i := 4) (N := some 100) (v := .pointer (some ⟨b, o + q * 3, Option.none⟩)) #[true, true, true, true, true, false, false, false, false, false, false, false] rfl rfl (by kernel_rfl) (fun _ _ _ h => h) (Or.inl ⟨wanted_none rfl, fun w => by go_simp⟩) rfl ?_
              try simp only [Act.put, List.setIfInBounds_toArray, List.set_cons_zero, List.set_cons_succ]
              refine take_ (i := 5) (N := some 101) (v := .int .i64 s) #[true, true, true, true, true, true, false, false, false, false, false, false] rfl rfl (by kernel_rfl) (fun _ _ _ h => h) (Or.inl ⟨wanted_none rfl, by intro w' hSw; go_split_ands; go_simp⟩) hS0 rfl ?_
              try simp only [Act.put, List.setIfInBounds_toArray, List.set_cons_zero, List.set_cons_succ]
              refine pure_ (i := 6) (N := some 102) (v := .slice (some ⟨b, o, Option.none⟩) us.length cap2) #[true, true, true, true, true, true, true, false, false, false, false, false] rfl rfl (by kernel_rfl) (fun _ _ _ h => h) (Or.inl ⟨wanted_none rfl, fun w => by rfl⟩) rfl ?_
              try simp only [Act.put, List.setIfInBounds_toArray, List.set_cons_zero, List.set_cons_succ]
              refine pure_ (i := 7) (N := some 103) (v := .int .i64 q) #[true, true, true, true, true, true, true, true, false, false, false, false] rfl rfl (by kernel_rfl) (fun _ _ _ h => h) (Or.inl ⟨wanted_none rfl, fun w => by rfl⟩) rfl ?_
              try simp only [Act.put, List.setIfInBounds_toArray, List.set_cons_zero, List.set_cons_succ]
              refine pure_ (i := 8) (N := some 104) (v := .pointer (some ⟨b, o + q * 3, Option.none⟩)) #[true, true, true, true, true, true, true, true, true, false, false, false] rfl rfl (by kernel_rfl) (fun _ _ _ h => h) (Or.inl ⟨wanted_none rfl, fun w => by go_simp⟩) rfl ?_
              try simp only [Act.put, List.setIfInBounds_toArray, List.set_cons_zero, List.set_cons_succ]
              refine pure_ (i := 9) (N := some 105) (v := .pointer (some ⟨b, o + q * 3 + 1, Option.none⟩)) #[true, true, true, true, true, true, true, true, true, true, false, false] rfl rfl (by kernel_rfl) (fun _ _ _ h => h) (Or.inl ⟨wanted_none rfl, fun w => by go_simp⟩) rfl ?_
              try simp only [Act.put, List.setIfInBounds_toArray, List.set_cons_zero, List.set_cons_succ]
              refine take_ (i := 10) (N := some 106) (v := .int .i64 x) #[true, true, true, true, true, true, true, true, true, true, true, false] rfl rfl (by kernel_rfl) (fun _ _ _ h => h) (Or.inl ⟨wanted_none rfl, by intro w' hSw; go_split_ands; go_simp⟩) hS0 rfl ?_
              try simp only [Act.put, List.setIfInBounds_toArray, List.set_cons_zero, List.set_cons_succ]
              refine one_ (i := 11) (oi := ({ dst := some 107, op := Op.call { callee := Callee.value (Operand.func 19), args := #[Operand.tmp 96, Operand.tmp 101, Operand.tmp 106], argTypes := #[30, 3, 3] }, type := 4, pos := "outright.go:41", after := #[{ on := 0, ground := Ground.data }, { on := 5, ground := Ground.data }, { on := 10, ground := Ground.data }], guard := Option.none } : Oper)) (N := some 107) #[true, true, true, true, true, true, true, true, true, true, true, true] rfl rfl (by kernel_rfl) (by simp) ?_
              intro KK hKK
              refine goes_ Try.func19 (by kernel_rfl) rfl #[.pointer (some ⟨g', 0, Option.none⟩), .int .i64 s, .int .i64 x] (wanted_none rfl) rfl rfl (by simp [Act.eval]) ?_
              refine (take_any g' bm' v' ys need bm' gol s x _ (Drew.tal hYq ⟨1, rfl⟩) FS.out FX.out (by omega) (by omega)).mono ?_
              rintro e w2 ⟨rfl, hYz, hkz⟩
              have hTz := (Drew.tal hTq ⟨1, rfl⟩).lower hbel hkz
              have hNz := (hNq.grew (Keeps.refl None _).drew).keeps hkz hoff2
              have hk2 : Keeps None w w2 := hKq.drew.bm hkz hbw'
              refine ⟨_, rfl, hKK.out _ _ (HELD.out _ hk2) (fun hS1 => ?_)⟩
              try simp only [Act.put, List.setIfInBounds_toArray, List.set_cons_zero, List.set_cons_succ]
              refine done_ (by kernel_rfl) ?_
              go_wp2_with fail
              go_roundw
              case rel => exact ⟨q + 1, _, by omega, by go_num, hTz, hYz, hNz, hF3, hk2⟩
              case measure => simp [intOf]; omega
            · go_wp2_with fail
              clear hlq hq
              have WFY : Hid (∀ s ∈ ys, (Lit.int .i64 s).wf = true) := Lib.hid (fun s hs => WF.out s (by rw [← HQ.out]; exact hs))
              have hylr : ys.length ≤ 17592186044416 := by omega
              clear WF VF UF HU hE
              obtain ⟨xs, hxs⟩ : ∃ xs, xs = hasF ys got := ⟨_, rfl⟩
              obtain ⟨aas, has⟩ : ∃ xs, xs = ansF ys got := ⟨_, rfl⟩
              obtain ⟨ls, hls⟩ : ∃ xs, xs = hasF ys gol := ⟨_, rfl⟩
              obtain ⟨bs, hbs⟩ : ∃ xs, xs = ansF ys gol := ⟨_, rfl⟩
              obtain ⟨ms, hms⟩ : ∃ xs, xs = missF ys got := ⟨_, rfl⟩
              have XS := Lib.hid hxs
              have AS := Lib.hid has
              have LS := Lib.hid hls
              have BS := Lib.hid hbs
              have MS := Lib.hid hms
              have hx1 : xs.length ≤ ys.length := by rw [hxs]; exact List.length_filter_le _ _
              have hl1 : ls.length ≤ ys.length := by rw [hls]; exact List.length_filter_le _ _
              have hm1 : ms.length ≤ ys.length := by rw [hms]; exact List.length_filter_le _ _
              clear hxs has hls hbs hms
              refine (got_any g bm v ys need bm got wr hTq WFY.out hylr).mono ?_
              rintro e wa ⟨p1, p2, rfl, hr1, hr2, hka⟩
              rw [← XS.out] at hr1
              rw [← AS.out] at hr2
              have hTa := hTq.grew hka
              have hYa := hYq.grew hka
              have hNa := hNq.grew hka
              have hKa := hKq.trans hka
              obtain ⟨A1, c1, rfl, -, m1, -⟩ := hr1.open_
              obtain ⟨A2, c2, rfl, -⟩ := hr2.open_
              clear hr1 hr2 hTq hYq hNq hKq hka
              go_wp2_with fail
              refine (got_any g' bm' v' ys need bm' gol wa hYa WFY.out hylr).mono ?_
              rintro e wb ⟨p3, p4, rfl, hr3, hr4, hkb⟩
              rw [← LS.out] at hr3
              rw [← BS.out] at hr4
              have hTb := hTa.grew hkb
              have hYb := hYa.grew hkb
              have hNb := hNa.grew hkb
              have hKb := hKa.trans hkb
              have n1 := m1.grew hkb
              obtain ⟨A3, c3, rfl, -, n3, -⟩ := hr3.open_
              obtain ⟨A4, c4, rfl, -⟩ := hr4.open_
              clear hr3 hr4 hTa hYa hNa hKa m1 hkb
              go_wp2_with fail
              refine (missing_any g bm v ys need bm got wb hTb WFY.out hylr).mono ?_
              rintro e wc ⟨p5, rfl, hr5, hkc⟩
              rw [← MS.out] at hr5
              have hTc := hTb.grew hkc
              have hYc := hYb.grew hkc
              have hNc := hNb.grew hkc
              have hKc := hKb.trans hkc
              have n1c := n1.grew hkc
              have n3c := n3.grew hkc
              obtain ⟨A5, c5, rfl, -⟩ := hr5.open_
              have hsum : (xs.length : Int) + (ms.length : Int) = (ys.length : Int) := by have := has_miss ys got; rw [← XS.out, ← MS.out] at this; omega
              have hsu : ((ys.length : Int) != (ys.length : Int)) = false := by simp
              clear hr5 hTb hYb hNb hKb n1 n3 hkc
              go_wp2_with fail
              refine (enough_any g bm v ys need bm got wc hTc).mono ?_
              rintro e wd ⟨hdd, rfl⟩
              have hxl : xs.length = got.length := by rw [XS.out]; exact hF.out
              rw [show decide (need ≤ (got.length : Int)) = decide ((ys.length : Int) / 2 + 1 ≤ (xs.length : Int)) from by rw [HNEED.out, hxl]]
              have HXL := Lib.hid hxl
              have hTd := Drew.tal hTc hdd
              have hYd := Drew.tal hYc hdd
              have hNd := hNc.grew (hdd.keeps None)
              have hKd := hKc.trans (hdd.keeps None)
              have n1d := n1c.grew (hdd.keeps None)
              have n3d := n3c.grew (hdd.keeps None)
              clear hxl hTc hYc hNc hKc n1c n3c hdd
              go_wp2_with fail
              go_loopw [20, 21] (fun c i wr => ∃ (j m : Nat), j ≤ ys.length ∧ i = .int .i64 j ∧ c = .int .i64 m ∧ Hid (m = (bothF (ys.take j) got gol).length) ∧ m ≤ j ∧ Tal wr g bm v ys need bm got ∧ Tal wr g' bm' v' ys need bm' gol ∧ Nums .i64 wr Ay ys ∧ Nums .i64 wr A1 xs ∧ Nums .i64 wr A3 ls ∧ Keeps None w wr) (fun _ i _ => ys.length - (intOf i).toNat)
              case atStart => exact ⟨0, 0, Nat.zero_le _, rfl, rfl, Lib.hid rfl, Nat.le_refl _, hTd, hYd, hNd, n1d, n3d, hKd⟩
              case round =>
                clear hTd hYd hNd n1d n3d hKd
                obtain ⟨j, m, hj, rfl, rfl, hm, hmj, hT, hY, hN, hX, hL, hK⟩ := hrel
                by_cases hlj : j < ys.length
                · obtain ⟨s, b, o, rfl, hc, hs⟩ := hN.get j hlj
                  have HT := Lib.hid (take_succ_of hs.out)
                  have hin : Hid (s ∈ ys) := Lib.hid (List.mem_of_getElem? hs.out)
                  have held : ∀ w', Keeps None wr w' → (Keeps None wr w' ∧ w'.cell? ⟨b, o + j, Option.none⟩ = some (.int .i64 s)) := fun w' h => ⟨h, h.cell hc id⟩
                  have HELD := Lib.hid held
                  clear held
                  obtain ⟨H, hH⟩ : ∃ H : Bool, H = (look got s).isSome := ⟨_, rfl⟩
                  cases H with
                  | true =>
                    have H1 : Hid (decide (s ∈ xs) = true) := Lib.hid (by rw [XS.out, has_mem hin.out]; exact hH.symm)
                    have H2 : Hid (decide (s ∈ ms) = false) := Lib.hid (by rw [MS.out, miss_mem hin.out, ← hH]; rfl)
                    have HH := Lib.hid hH
                    clear hH
                    go_wp2_with fail
                    refine start_ (ds := []) (S := (fun w' => Keeps None wr w' ∧ w'.cell? ⟨b, o + j, Option.none⟩ = some (.int .i64 s))) #[false, false, false, false, false, false, false, false, false, false, false, false, false, false] (by kernel_rfl) rfl rfl (HELD.out _ (Keeps.refl _ _).drew) (fun hS0 => ?_)
                    refine pure_ (i := 0) (N := some 155) (v := .slice A1 xs.length c1) #[true, false, false, false, false, false, false, false, false, false, false, false, false, false] rfl rfl (by kernel_rfl) (fun _ _ _ h => h) (Or.inl ⟨wanted_none rfl, fun w => by rfl⟩) rfl ?_
                    try simp only [Act.put, List.setIfInBounds_toArray, List.set_cons_zero, List.set_cons_succ]
                    refine pure_ (i := 1) (N := some 156) (v := .slice (some ⟨b, o, Option.none⟩) ys.length cy) #[true, true, false, false, false, false, false, false, false, false, false, false, false, false] rfl rfl (by kernel_rfl) (fun _ _ _ h => h) (Or.inl ⟨wanted_none rfl, fun w => by rfl⟩) rfl ?_
                    try simp only [Act.put, List.setIfInBounds_toArray, List.set_cons_zero, List.set_cons_succ]
                    refine pure_ (i := 2) (N := some 157) (v := .int .i64 j) #[true, true, true, false, false, false, false, false, false, false, false, false, false, false] rfl rfl (by kernel_rfl) (fun _ _ _ h => h) (Or.inl ⟨wanted_none rfl, fun w => by rfl⟩) rfl ?_
                    try simp only [Act.put, List.setIfInBounds_toArray, List.set_cons_zero, List.set_cons_succ]
                    refine pure_ (i := 3) (N := some 158) (v := .pointer (some ⟨b, o + j, Option.none⟩)) #[true, true, true, true, false, false, false, false, false, false, false, false, false, false] rfl rfl (by kernel_rfl) (fun _ _ _ h => h) (Or.inl ⟨wanted_none rfl, fun w => by go_simp⟩) rfl ?_
                    try simp only [Act.put, List.setIfInBounds_toArray, List.set_cons_zero, List.set_cons_succ]
                    refine take_ (i := 4) (N := some 159) (v := .int .i64 s) #[true, true, true, true, true, false, false, false, false, false, false, false, false, false] rfl rfl (by kernel_rfl) (fun _ _ _ h => h) (Or.inl ⟨wanted_none rfl, by intro w' hSw; go_split_ands; go_simp⟩) hS0 rfl ?_
                    try simp only [Act.put, List.setIfInBounds_toArray, List.set_cons_zero, List.set_cons_succ]
                    refine pure_ (i := 6) (N := some 161) (v := .pointer (some ⟨g, 0, Option.none⟩)) #[true, true, true, true, true, false, true, false, false, false, false, false, false, false] rfl rfl (by kernel_rfl) (fun _ _ _ h => h) (Or.inl ⟨wanted_none rfl, fun w => by rfl⟩) rfl ?_
                    try simp only [Act.put, List.setIfInBounds_toArray, List.set_cons_zero, List.set_cons_succ]
                    refine pure_ (i := 8) (N := some 163) (v := .slice (some ⟨b, o, Option.none⟩) ys.length cy) #[true, true, true, true, true, false, true, false, true, false, false, false, false, false] rfl rfl (by kernel_rfl) (fun _ _ _ h => h) (Or.inl ⟨wanted_none rfl, fun w => by rfl⟩) rfl ?_
                    try simp only [Act.put, List.setIfInBounds_toArray, List.set_cons_zero, List.set_cons_succ]
                    refine pure_ (i := 9) (N := some 164) (v := .int .i64 j) #[true, true, true, true, true, false, true, false, true, true, false, false, false, false] rfl rfl (by kernel_rfl) (fun _ _ _ h => h) (Or.inl ⟨wanted_none rfl, fun w => by rfl⟩) rfl ?_
                    try simp only [Act.put, List.setIfInBounds_toArray, List.set_cons_zero, List.set_cons_succ]
                    refine pure_ (i := 10) (N := some 165) (v := .pointer (some ⟨b, o + j, Option.none⟩)) #[true, true, true, true, true, false, true, false, true, true, true, false, false, false] rfl rfl (by kernel_rfl) (fun _ _ _ h => h) (Or.inl ⟨wanted_none rfl, fun w => by go_simp⟩) rfl ?_
                    try simp only [Act.put, List.setIfInBounds_toArray, List.set_cons_zero, List.set_cons_succ]
                    refine take_ (i := 11) (N := some 166) (v := .int .i64 s) #[true, true, true, true, true, false, true, false, true, true, true, true, false, false] rfl rfl (by kernel_rfl) (fun _ _ _ h => h) (Or.inl ⟨wanted_none rfl, by intro w' hSw; go_split_ands; go_simp⟩) hS0 rfl ?_
                    try simp only [Act.put, List.setIfInBounds_toArray, List.set_cons_zero, List.set_cons_succ]
                    refine one_ (i := 5) (oi := ({ dst := some 160, op := Op.call { callee := Callee.value (Operand.func 22), args := #[Operand.tmp 155, Operand.tmp 159], argTypes := #[27, 3] }, type := 4, pos := "outright.go:50", after := #[{ on := 0, ground := Ground.data }, { on := 4, ground := Ground.data }], guard := Option.none } : Oper)) (N := some 160) #[true, true, true, true, true, true, true, false, true, true, true, true, false, false] rfl rfl (by kernel_rfl) (by simp) ?_
                    intro KK hKK
                    refine goes_ Try.func22 (by kernel_rfl) rfl #[.slice A1 xs.length c1, .int .i64 s] (wanted_none rfl) rfl rfl (by simp [Act.eval]) ?_
                    refine (stands_any A1 xs.length c1 xs s _ (hX.grew (Keeps.refl None _).drew) rfl (by omega)).mono ?_
                    rintro e w2 ⟨hd2, rfl⟩
                    rw [H1.out]
                    have hk2 : Keeps None wr w2 := (Keeps.refl None wr).drew.trans (hd2.keeps None)
                    refine ⟨_, rfl, hKK.out _ _ (HELD.out _ hk2) (fun hS1 => ?_)⟩
                    try simp only [Act.put, List.setIfInBounds_toArray, List.set_cons_zero, List.set_cons_succ]
                    refine one_ (i := 7) (oi := ({ dst := some 162, op := Op.call { callee := Callee.value (Operand.func 25), args := #[Operand.tmp 161], argTypes := #[30] }, type := 27, pos := "outright.go:50", after := #[{ on := 6, ground := Ground.data }, { on := 5, ground := Ground.chain }], guard := Option.none } : Oper)) (N := some 162) #[true, true, true, true, true, true, true, true, true, true, true, true, false, false] rfl rfl (by kernel_rfl) (by simp) ?_
                    intro KK hKK
                    refine goes_ Try.func25 (by kernel_rfl) rfl #[.pointer (some ⟨g, 0, Option.none⟩)] (wanted_none rfl) rfl rfl (by simp [Act.eval]) ?_
                    refine (missing_any g bm v ys need bm got w2 (hT.grew hk2) WFY.out hylr).mono ?_
                    rintro e w3 ⟨p6, rfl, hr6, hk3⟩
                    rw [← MS.out] at hr6
                    obtain ⟨A6, c6, rfl, -, n6, -⟩ := hr6.open_
                    have hk4 : Keeps None wr w3 := hk2.trans hk3
                    refine ⟨_, rfl, hKK.out _ _ (HELD.out _ hk4) (fun hS2 => ?_)⟩
                    try simp only [Act.put, List.setIfInBounds_toArray, List.set_cons_zero, List.set_cons_succ]
                    refine one_ (i := 12) (oi := ({ dst := some 167, op := Op.call { callee := Callee.value (Operand.func 22), args := #[Operand.tmp 162, Operand.tmp 166], argTypes := #[27, 3] }, type := 4, pos := "outright.go:50", after := #[{ on := 7, ground := Ground.data }, { on := 11, ground := Ground.data }, { on := 7, ground := Ground.chain }], guard := Option.none } : Oper)) (N := some 167) #[true, true, true, true, true, true, true, true, true, true, true, true, true, false] rfl rfl (by kernel_rfl) (by simp) ?_
                    intro KK hKK
                    refine goes_ Try.func22 (by kernel_rfl) rfl #[.slice A6 ms.length c6, .int .i64 s] (wanted_none rfl) rfl rfl (by simp [Act.eval]) ?_
                    refine (stands_any A6 ms.length c6 ms s w3 n6 rfl (by omega)).mono ?_
                    rintro e w4 ⟨hd4, rfl⟩
                    rw [H2.out]
                    have hk5 : Keeps None wr w4 := hk4.trans (hd4.keeps None)
                    refine ⟨_, rfl, hKK.out _ _ (HELD.out _ hk5) (fun hS3 => ?_)⟩
                    try simp only [Act.put, List.setIfInBounds_toArray, List.set_cons_zero, List.set_cons_succ]
                    refine pure_ (i := 13) (N := some 168) (v := .bool false) #[true, true, true, true, true, true, true, true, true, true, true, true, true, true] rfl rfl (by kernel_rfl) (fun _ _ _ h => h) (Or.inl ⟨wanted_none rfl, fun w => by go_simp⟩) rfl ?_
                    try simp only [Act.put, List.setIfInBounds_toArray, List.set_cons_zero, List.set_cons_succ]
                    refine done_ (by kernel_rfl) ?_
                    go_wp2_with fail
                    refine (stands_any A1 xs.length c1 xs s w4 (hX.grew hk5) rfl (by omega)).mono ?_
                    rintro e w5 ⟨hd5, rfl⟩
                    rw [H1.out]
                    have hk6 := hk5.trans (hd5.keeps None)
                    have hc5 := hk6.cell hc id
                    go_wp2_with fail
                    refine (stands_any A3 ls.length c3 ls s w5 (hL.grew hk6) rfl (by omega)).mono ?_
                    rintro e w6 ⟨hd6, rfl⟩
                    have hk7 := hk6.trans (hd6.keeps None)
                    rw [show decide (s ∈ ls) = (look gol s).isSome from by rw [LS.out, has_mem hin.out]]
                    cases hQ : (look gol s).isSome with
                    | true =>
                      have E2 : Hid (m + 1 = (bothF (ys.take (j + 1)) got gol).length) := Lib.hid (by rw [HT.out, bothF_snoc, ← HH.out, hQ, hm.out]; rfl)
                      clear hQ
                      go_wp2_with fail
                      go_roundw
                      case rel => exact ⟨j + 1, m + 1, by omega, by go_num, by go_num, E2, by omega, hT.grew hk7, hY.grew hk7, hN.grew hk7, hX.grew hk7, hL.grew hk7, hK.trans hk7⟩
                      case measure => simp [intOf]; omega
                    | false =>
                      have E2 : Hid (m = (bothF (ys.take (j + 1)) got gol).length) := Lib.hid (by rw [HT.out, bothF_snoc, ← HH.out, hQ, hm.out]; rfl)
                      clear hQ
                      go_wp2_with fail
                      go_roundw
                      case rel => exact ⟨j + 1, m, by omega, by go_num, by go_num, E2, by omega, hT.grew hk7, hY.grew hk7, hN.grew hk7, hX.grew hk7, hL.grew hk7, hK.trans hk7⟩
                      case measure => simp [intOf]; omega
                  | false =>
                    have H1 : Hid (decide (s ∈ xs) = false) := Lib.hid (by rw [XS.out, has_mem hin.out]; exact hH.symm)
                    have H2 : Hid (decide (s ∈ ms) = true) := Lib.hid (by rw [MS.out, miss_mem hin.out, ← hH]; rfl)
                    have HH := Lib.hid hH
                    clear hH
                    go_wp2_with fail
                    refine start_ (ds := []) (S := (fun w' => Keeps None wr w' ∧ w'.cell? ⟨b, o + j, Option.none⟩ = some (.int .i64 s))) #[false, false, false, false, false, false, false, false, false, false, false, false, false, false] (by kernel_rfl) rfl rfl (HELD.out _ (Keeps.refl _ _).drew) (fun hS0 => ?_)
                    refine pure_ (i := 0) (N := some 155) (v := .slice A1 xs.length c1) #[true, false, false, false, false, false, false, false, false, false, false, false, false, false] rfl rfl (by kernel_rfl) (fun _ _ _ h => h) (Or.inl ⟨wanted_none rfl, fun w => by rfl⟩) rfl ?_
                    try simp only [Act.put, List.setIfInBounds_toArray, List.set_cons_zero, List.set_cons_succ]
                    refine pure_ (i := 1) (N := some 156) (v := .slice (some ⟨b, o, Option.none⟩) ys.length cy) #[true, true, false, false, false, false, false, false, false, false, false, false, false, false] rfl rfl (by kernel_rfl) (fun _ _ _ h => h) (Or.inl ⟨wanted_none rfl, fun w => by rfl⟩) rfl ?_
                    try simp only [Act.put, List.setIfInBounds_toArray, List.set_cons_zero, List.set_cons_succ]
                    refine pure_ (i := 2) (N := some 157) (v := .int .i64 j) #[true, true, true, false, false, false, false, false, false, false, false, false, false, false] rfl rfl (by kernel_rfl) (fun _ _ _ h => h) (Or.inl ⟨wanted_none rfl, fun w => by rfl⟩) rfl ?_
                    try simp only [Act.put, List.setIfInBounds_toArray, List.set_cons_zero, List.set_cons_succ]
                    refine pure_ (i := 3) (N := some 158) (v := .pointer (some ⟨b, o + j, Option.none⟩)) #[true, true, true, true, false, false, false, false, false, false, false, false, false, false] rfl rfl (by kernel_rfl) (fun _ _ _ h => h) (Or.inl ⟨wanted_none rfl, fun w => by go_simp⟩) rfl ?_
                    try simp only [Act.put, List.setIfInBounds_toArray, List.set_cons_zero, List.set_cons_succ]
                    refine take_ (i := 4) (N := some 159) (v := .int .i64 s) #[true, true, true, true, true, false, false, false, false, false, false, false, false, false] rfl rfl (by kernel_rfl) (fun _ _ _ h => h) (Or.inl ⟨wanted_none rfl, by intro w' hSw; go_split_ands; go_simp⟩) hS0 rfl ?_
                    try simp only [Act.put, List.setIfInBounds_toArray, List.set_cons_zero, List.set_cons_succ]
                    refine pure_ (i := 6) (N := some 161) (v := .pointer (some ⟨g, 0, Option.none⟩)) #[true, true, true, true, true, false, true, false, false, false, false, false, false, false] rfl rfl (by kernel_rfl) (fun _ _ _ h => h) (Or.inl ⟨wanted_none rfl, fun w => by rfl⟩) rfl ?_
                    try simp only [Act.put, List.setIfInBounds_toArray, List.set_cons_zero, List.set_cons_succ]
                    refine pure_ (i := 8) (N := some 163) (v := .slice (some ⟨b, o, Option.none⟩) ys.length cy) #[true, true, true, true, true, false, true, false, true, false, false, false, false, false] rfl rfl (by kernel_rfl) (fun _ _ _ h => h) (Or.inl ⟨wanted_none rfl, fun w => by rfl⟩) rfl ?_
                    try simp only [Act.put, List.setIfInBounds_toArray, List.set_cons_zero, List.set_cons_succ]
                    refine pure_ (i := 9) (N := some 164) (v := .int .i64 j) #[true, true, true, true, true, false, true, false, true, true, false, false, false, false] rfl rfl (by kernel_rfl) (fun _ _ _ h => h) (Or.inl ⟨wanted_none rfl, fun w => by rfl⟩) rfl ?_
                    try simp only [Act.put, List.setIfInBounds_toArray, List.set_cons_zero, List.set_cons_succ]
                    refine pure_ (i := 10) (N := some 165) (v := .pointer (some ⟨b, o + j, Option.none⟩)) #[true, true, true, true, true, false, true, false, true, true, true, false, false, false] rfl rfl (by kernel_rfl) (fun _ _ _ h => h) (Or.inl ⟨wanted_none rfl, fun w => by go_simp⟩) rfl ?_
                    try simp only [Act.put, List.setIfInBounds_toArray, List.set_cons_zero, List.set_cons_succ]
                    refine take_ (i := 11) (N := some 166) (v := .int .i64 s) #[true, true, true, true, true, false, true, false, true, true, true, true, false, false] rfl rfl (by kernel_rfl) (fun _ _ _ h => h) (Or.inl ⟨wanted_none rfl, by intro w' hSw; go_split_ands; go_simp⟩) hS0 rfl ?_
                    try simp only [Act.put, List.setIfInBounds_toArray, List.set_cons_zero, List.set_cons_succ]
                    refine one_ (i := 5) (oi := ({ dst := some 160, op := Op.call { callee := Callee.value (Operand.func 22), args := #[Operand.tmp 155, Operand.tmp 159], argTypes := #[27, 3] }, type := 4, pos := "outright.go:50", after := #[{ on := 0, ground := Ground.data }, { on := 4, ground := Ground.data }], guard := Option.none } : Oper)) (N := some 160) #[true, true, true, true, true, true, true, false, true, true, true, true, false, false] rfl rfl (by kernel_rfl) (by simp) ?_
                    intro KK hKK
                    refine goes_ Try.func22 (by kernel_rfl) rfl #[.slice A1 xs.length c1, .int .i64 s] (wanted_none rfl) rfl rfl (by simp [Act.eval]) ?_
                    refine (stands_any A1 xs.length c1 xs s _ (hX.grew (Keeps.refl None _).drew) rfl (by omega)).mono ?_
                    rintro e w2 ⟨hd2, rfl⟩
                    rw [H1.out]
                    have hk2 : Keeps None wr w2 := (Keeps.refl None wr).drew.trans (hd2.keeps None)
                    refine ⟨_, rfl, hKK.out _ _ (HELD.out _ hk2) (fun hS1 => ?_)⟩
                    try simp only [Act.put, List.setIfInBounds_toArray, List.set_cons_zero, List.set_cons_succ]
                    refine one_ (i := 7) (oi := ({ dst := some 162, op := Op.call { callee := Callee.value (Operand.func 25), args := #[Operand.tmp 161], argTypes := #[30] }, type := 27, pos := "outright.go:50", after := #[{ on := 6, ground := Ground.data }, { on := 5, ground := Ground.chain }], guard := Option.none } : Oper)) (N := some 162) #[true, true, true, true, true, true, true, true, true, true, true, true, false, false] rfl rfl (by kernel_rfl) (by simp) ?_
                    intro KK hKK
                    refine goes_ Try.func25 (by kernel_rfl) rfl #[.pointer (some ⟨g, 0, Option.none⟩)] (wanted_none rfl) rfl rfl (by simp [Act.eval]) ?_
                    refine (missing_any g bm v ys need bm got w2 (hT.grew hk2) WFY.out hylr).mono ?_
                    rintro e w3 ⟨p6, rfl, hr6, hk3⟩
                    rw [← MS.out] at hr6
                    obtain ⟨A6, c6, rfl, -, n6, -⟩ := hr6.open_
                    have hk4 : Keeps None wr w3 := hk2.trans hk3
                    refine ⟨_, rfl, hKK.out _ _ (HELD.out _ hk4) (fun hS2 => ?_)⟩
                    try simp only [Act.put, List.setIfInBounds_toArray, List.set_cons_zero, List.set_cons_succ]
                    refine one_ (i := 12) (oi := ({ dst := some 167, op := Op.call { callee := Callee.value (Operand.func 22), args := #[Operand.tmp 162, Operand.tmp 166], argTypes := #[27, 3] }, type := 4, pos := "outright.go:50", after := #[{ on := 7, ground := Ground.data }, { on := 11, ground := Ground.data }, { on := 7, ground := Ground.chain }], guard := Option.none } : Oper)) (N := some 167) #[true, true, true, true, true, true, true, true, true, true, true, true, true, false] rfl rfl (by kernel_rfl) (by simp) ?_
                    intro KK hKK
                    refine goes_ Try.func22 (by kernel_rfl) rfl #[.slice A6 ms.length c6, .int .i64 s] (wanted_none rfl) rfl rfl (by simp [Act.eval]) ?_
                    refine (stands_any A6 ms.length c6 ms s w3 n6 rfl (by omega)).mono ?_
                    rintro e w4 ⟨hd4, rfl⟩
                    rw [H2.out]
                    have hk5 : Keeps None wr w4 := hk4.trans (hd4.keeps None)
                    refine ⟨_, rfl, hKK.out _ _ (HELD.out _ hk5) (fun hS3 => ?_)⟩
                    try simp only [Act.put, List.setIfInBounds_toArray, List.set_cons_zero, List.set_cons_succ]
                    refine pure_ (i := 13) (N := some 168) (v := .bool false) #[true, true, true, true, true, true, true, true, true, true, true, true, true, true] rfl rfl (by kernel_rfl) (fun _ _ _ h => h) (Or.inl ⟨wanted_none rfl, fun w => by go_simp⟩) rfl ?_
                    try simp only [Act.put, List.setIfInBounds_toArray, List.set_cons_zero, List.set_cons_succ]
                    refine done_ (by kernel_rfl) ?_
                    go_wp2_with fail
                    refine (stands_any A1 xs.length c1 xs s w4 (hX.grew hk5) rfl (by omega)).mono ?_
                    rintro e w5 ⟨hd5, rfl⟩
                    rw [H1.out]
                    have hk6 := hk5.trans (hd5.keeps None)
                    have hc5 := hk6.cell hc id
                    have E2 : Hid (m = (bothF (ys.take (j + 1)) got gol).length) := Lib.hid (by rw [HT.out, bothF_snoc, ← HH.out, hm.out]; rfl)
                    go_wp2_with fail
                    go_roundw
                    case rel => exact ⟨j + 1, m, by omega, by go_num, by go_num, E2, by omega, hT.grew hk6, hY.grew hk6, hN.grew hk6, hX.grew hk6, hL.grew hk6, hK.trans hk6⟩
                    case measure => simp [intOf]; omega
                · obtain rfl : j = ys.length := by omega
                  rw [List.take_of_length_le (Nat.le_refl _)] at hm
                  have hpg := pigeon got gol ys
                  have hgl := hG.out
                  unfold Fit at hgl
                  have hsh : need ≤ (got.length : Int) → need ≤ (gol.length : Int) → 0 < m := by
                    intro q1 q2
                    rw [hgl, ← XS.out, HXL.out, ← hm.out] at hpg
                    rw [HNEED.out] at q1 q2
                    omega
                  have HSH := Lib.hid hsh
                  clear hpg hgl hsh
                  go_wp2_with fail
                  refine (enough_any g bm v ys need bm got wr hT).mono ?_
                  rintro e w5 ⟨hd5, rfl⟩
                  have hY5 := Drew.tal hY hd5
                  have hK5 := hK.trans (hd5.keeps None)
                  by_cases hq1 : need ≤ (got.length : Int)
                  · rw [decide_eq_true hq1]
                    have Q1 := Lib.hid hq1
                    clear hq1
                    go_wp2_with fail
                    refine (enough_any g' bm' v' ys need bm' gol w5 hY5).mono ?_
                    rintro e w6 ⟨hd6, rfl⟩
                    have hK6 := hK5.trans (hd6.keeps None)
                    by_cases hq2 : need ≤ (gol.length : Int)
                    · rw [decide_eq_true hq2]
                      have hmp := HSH.out Q1.out hq2
                      clear hq2
                      go_wp2_with fail
                      go_ret
                      exact ⟨rfl, hK6.to_below⟩
                    · rw [decide_eq_false hq2]
                      clear hq2
                      go_wp2_with fail
                      go_ret
                      exact ⟨rfl, hK6.to_below⟩
                  · rw [decide_eq_false hq1]
                    clear hq1
                    go_wp2_with fail
                    go_ret
                    exact ⟨rfl, hK5.to_below⟩
end tallyMeets
end Go.Proofs.Ytghbgcmhahndkaa
