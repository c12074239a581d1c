/- The walk of TallyOwn. -/
import Derived.Test.YtghbgcmhahndkaaOwnLaw
import Derived.Test.YtghbgcmhahndkaaKnown
import Derived.Test.YtghbgcmhahndkaaVotes
import Derived.StillTailTactics
import Derived.Deep.DeepCutAuto
import Derived.Deep.CutBlock
namespace Go.Proofs.Ytghbgcmhahndkaa.tallyOwn
open Go.RowKit
set_option linter.unusedVariables false

def LawEnd (w : World) (e : Ending) (w' : World) : Prop := e = .returned (.bool true) ∧ Below w.heap.size w w'

theorem OwnM.snoc {rs : Lot} {v : Value} {zs : List Int} {b : Nat} (h : OwnM (rs ++ [(v, zs)]) b) : OwnM rs b ∨ v.ownBlock = some b := by
  obtain ⟨i, u, ys, e, eb⟩ := h
  by_cases hi : i < rs.length
  · rw [List.getElem?_append_left hi] at e
    exact .inl ⟨i, u, ys, e, eb⟩
  · rw [List.getElem?_append_right (by omega)] at e
    have : i - rs.length = 0 := by
      rcases Nat.eq_zero_or_pos (i - rs.length) with h | h
      · exact h
      · rw [List.getElem?_eq_none (by simp; omega)] at e; cases e
    rw [this] at e
    cases e
    exact .inr eb
theorem Many.lt {w : World} {base : Nat} {rs : Lot} (h : Many w base rs) {b : Nat} (hb : OwnM rs b) : base ≤ b ∧ b < w.heap.size := by
  obtain ⟨i, v, zs, e, eb⟩ := hb
  exact (h.row i v zs e).lt b eb
theorem Many.snoc {w : World} {base : Nat} {rs : Lot} {v : Value} {zs : List Int} (h : Many w base rs) (hr : Row .i64 3 w base v zs) (hf : ∀ b, v.ownBlock = some b → ¬ OwnM rs b) : Many w base (rs ++ [(v, zs)]) := by
  have get : ∀ (i : Nat) u ys, (rs ++ [(v, zs)])[i]? = some (u, ys) → rs[i]? = some (u, ys) ∨ (i = rs.length ∧ u = v ∧ ys = zs) := by
    intro i u ys e
    by_cases hi : i < rs.length
    · rw [List.getElem?_append_left hi] at e
      exact .inl e
    · rw [List.getElem?_append_right (by omega)] at e
      have : i - rs.length = 0 := by
        rcases Nat.eq_zero_or_pos (i - rs.length) with h | h
        · exact h
        · rw [List.getElem?_eq_none (by simp; omega)] at e; cases e
      rw [this] at e
      cases e
      exact .inr ⟨by omega, rfl, rfl⟩
  refine ⟨fun i u ys e => ?_, fun i j u ys t us b e1 e2 hij eb eb2 => ?_⟩
  · rcases get i u ys e with e | ⟨-, rfl, rfl⟩
    · exact h.row i u ys e
    · exact hr
  · rcases get i u ys e1 with f1 | ⟨f1, f2, f3⟩
    · rcases get j t us e2 with f2 | ⟨f2, f3, f4⟩
      · exact h.far i j u ys t us b f1 f2 hij eb eb2
      · subst f3; exact hf b eb2 ⟨i, u, ys, f1, eb⟩
    · rcases get j t us e2 with g1 | ⟨g1, g2, g3⟩
      · subst f2; exact hf b eb ⟨j, t, us, g1, eb2⟩
      · omega

theorem tookF_len (grp : List Int) (need : Int) (got : List (Int × Int)) (s x : Int) : (tookF grp need got s x).length ≤ got.length + 1 := by unfold tookF; split <;> simp

structure Ph1 (w0 wr : World) (B g bm : Nat) (v : Value) (grp : List Int) (need : Int) (kv : Value) (rs : Lot) (got : List (Int × Int)) : Prop where
  tal : Tal wr g bm v grp need bm got
  many : Many wr B rs
  kept : wr.ownsRow B 27 1 kv rs.length (rs.map (·.1))
  off : ∀ b, OwnM rs b → ¬ kv.ownBlock = some b
  len : ∀ (i : Nat) v zs, rs[i]? = some (v, zs) → zs.length ≤ grp.length
  keeps : Keeps None w0 wr
  lt : g < B ∧ bm < B ∧ (∀ b, v.ownBlock = some b → b < B) ∧ B ≤ wr.heap.size ∧ w0.heap.size ≤ bm

theorem Ph1.grew {w0 wr w' : World} {B g bm : Nat} {v : Value} {grp : List Int} {need : Int} {kv : Value} {rs : Lot} {got : List (Int × Int)} (h : Ph1 w0 wr B g bm v grp need kv rs got) (hk : Keeps None wr w') : Ph1 w0 w' B g bm v grp need kv rs got :=
  ⟨h.tal.grew hk, h.many.keeps hk (fun _ _ f => f), owns_grew h.kept hk, h.off, h.len, h.keeps.trans hk, h.lt.1, h.lt.2.1, h.lt.2.2.1, Nat.le_trans h.lt.2.2.2.1 hk.size, h.lt.2.2.2.2⟩
theorem Ph1.took {w0 wr w' : World} {B g bm : Nat} {v : Value} {grp : List Int} {need : Int} {kv : Value} {rs : Lot} {got got' : List (Int × Int)} (h : Ph1 w0 wr B g bm v grp need kv rs got) (hT : Tal w' g bm v grp need bm got') (hk : Keeps (One bm) wr w') : Ph1 w0 w' B g bm v grp need kv rs got' := by
  obtain ⟨l1, l2, l3, l4, l5⟩ := h.lt
  refine ⟨hT, h.many.keeps hk (fun b hb e => by have := (h.many.lt hb).1; have e : b = bm := e; omega), owns_keeps h.kept hk (fun b eb e => by have := (World.ownsRow.lt h.kept b eb).1; have e : b = bm := e; omega), h.off, h.len, h.keeps.bm hk l5, l1, l2, l3, Nat.le_trans l4 hk.size, l5⟩
/-- Two lists more. -/
theorem Ph1.two {w0 w1 w2 w3 w4 w5 : World} {B g bm : Nat} {v : Value} {grp : List Int} {need : Int} {kv kv' : Value} {rs : Lot} {got : List (Int × Int)} {a b : Value} {ms : List Int} (h : Ph1 w0 w1 B g bm v grp need kv rs got)
    (ha : Row .i64 3 w2 w1.heap.size a ms) (hk2 : Keeps None w1 w2) (hb : Row .i64 3 w3 w2.heap.size b ms) (hk3 : Keeps None w2 w3) (hk4 : Keeps None w3 w4)
    (hr : w5.ownsRow B 27 1 kv' (rs.length + 2) (rs.map (·.1) ++ [a, b])) (hk5 : Keeps (OwnB kv) w4 w5) (hl : kv'.ownBlock = kv.ownBlock ∨ kv'.ownBlock = some w4.heap.size) (hm : ms.length ≤ grp.length) : Ph1 w0 w5 B g bm v grp need kv' (rs ++ [(a, ms), (b, ms)]) got := by
  have h4 := h.grew ((hk2.trans hk3).trans hk4)
  have s2 := hk2.size
  have s3 := hk3.size
  have s4 := hk4.size
  have s5 := hk5.size
  obtain ⟨l1, l2, l3, l4, l5⟩ := h.lt
  have a4 := (ha.grew (hk3.trans hk4)).down (base' := B) (by omega)
  have b4 := (hb.grew hk4).down (base' := B) (by omega)
  have alt : ∀ x, a.ownBlock = some x → w1.heap.size ≤ x ∧ x < w2.heap.size := fun x e => ha.lt x e
  have blt : ∀ x, b.ownBlock = some x → w2.heap.size ≤ x ∧ x < w3.heap.size := fun x e => hb.lt x e
  have klt : ∀ x, kv.ownBlock = some x → B ≤ x ∧ x < w1.heap.size := fun x e => World.ownsRow.lt h.kept x e
  have m1 : Many w4 B (rs ++ [(a, ms)]) := h4.many.snoc a4 fun x e f => by have := (alt x e).1; have := (h.many.lt f).2; omega
  have m2 : Many w4 B ((rs ++ [(a, ms)]) ++ [(b, ms)]) := m1.snoc b4 fun x e f => by
    rcases OwnM.snoc f with f | f
    · have := (blt x e).1; have := (h.many.lt f).2; omega
    · have := (blt x e).1; have := (alt x f).2; omega
  rw [List.append_assoc, List.singleton_append] at m2
  have own2 : ∀ x, OwnM (rs ++ [(a, ms), (b, ms)]) x → OwnM rs x ∨ a.ownBlock = some x ∨ b.ownBlock = some x := fun x f => by
    rw [← List.singleton_append (x := (a, ms)), ← List.append_assoc] at f
    rcases OwnM.snoc f with f | f
    · rcases OwnM.snoc f with f | f
      · exact .inl f
      · exact .inr (.inl f)
    · exact .inr (.inr f)
  have far : ∀ x, OwnM (rs ++ [(a, ms), (b, ms)]) x → ¬ OwnB kv x := fun x f e => by
    rcases own2 x f with f | f | f
    · exact h.off x f e
    · have := (alt x f).1; have := (klt x e).2; omega
    · have := (blt x f).1; have := (klt x e).2; omega
  refine ⟨?_, m2.keeps hk5 far, ?_, fun x f e => ?_, fun i u zs e => ?_, ?_, l1, l2, l3, by omega, l5⟩
  · exact h4.tal.keeps hk5 (fun e => by have := (klt _ e).1; omega) (fun e => by have := (klt _ e).1; omega) (fun x e f => by have := l3 x e; have := (klt x f).1; omega)
  · rw [List.length_append, List.map_append]; exact hr
  · rcases hl with l | l
    · exact far x f (l.symm.trans e)
    · rw [e] at l; cases l
      have := (m2.lt f).2
      omega
  · by_cases hi : i < rs.length
    · rw [List.getElem?_append_left hi] at e
      exact h.len i u zs e
    · rw [List.getElem?_append_right (by omega)] at e
      have : (u, zs) ∈ [(a, ms), (b, ms)] := List.mem_of_getElem? e
      simp at this
      rcases this with ⟨-, rfl⟩ | ⟨-, rfl⟩ <;> exact hm
  · refine h4.keeps.andThen hk5 fun x hx e => ?_
    have := (klt x e).1
    omega

set_option maxRecDepth 100000 in
set_option maxHeartbeats 6400000 in
theorem walk (A : Option Addr) (n cap : Nat) (zs : List Int) (need : Int) (B : Option Addr) (m cap' : Nat) (vs : List Vo) (w : World) (hA : Nums .i64 w A zs) (hn : zs.length = n) (hr : n ≤ 17592186043904) (hwf : ∀ s ∈ zs, (Lit.int .i64 s).wf = true) (hB : Vs w B vs) (hm : vs.length = m) (hvf : ∀ x ∈ vs, x.Fine) (hrm : m * 24 ≤ 140737488351232) :
    Calls Try.prog 8 #[.slice A n cap, .int .i64 need, .slice B m cap'] w (LawEnd w) := by
  subst hn
  subst hm
  have WF := Lib.hid (fun s (hs : s ∈ uniqF zs) => hwf s ((uniqF_mem zs s).1 hs))
  have VF := Lib.hid hvf
  have hul := uniqF_len zs
  clear hwf hvf
  obtain ⟨i0, hi0, hz0, hz1, hz2⟩ := info_parts Try.infoI64
  obtain ⟨i1, hi1, hy0, hy1, hy2⟩ := info_parts Try.infoIs
  go_enter Try.func8, Try.ntmps8
  go_wp2_with fail
  refine (known_any w).mono ?_
  rintro e w1 ⟨rfl, hk1⟩
  go_wp2_with fail
  refine (new_any A zs.length cap zs need w1 (hA.grew hk1) rfl (by omega)).mono ?_
  rintro e w2 ⟨v, rfl, hT2, hk2⟩
  obtain ⟨g, hg⟩ : ∃ g, g = w1.heap.size + 1 := ⟨_, rfl⟩
  obtain ⟨bm, hbm⟩ : ∃ b, b = w1.heap.size := ⟨_, rfl⟩
  rw [← hg, ← hbm] at hT2
  rw [← hg]
  have hbw : w.heap.size ≤ bm := by rw [hbm]; exact hk1.size
  have hK2 := hk1.trans hk2
  obtain ⟨grp, hgrp⟩ : ∃ grp, grp = uniqF zs := ⟨_, rfl⟩
  rw [← hgrp] at hT2 WF hul
  have hgl : grp.length ≤ 17592186043904 := by omega
  clear hg hbm hk1 hk2 hgrp
  have hP : Ph1 w w2 w2.heap.size g bm v grp need (.slice Option.none 0 0) [] [] := by
    have hb := hT2.blk.lt
    refine ⟨hT2, ⟨fun i v zs e => by simp at e, fun i j v zs u ys b e => by simp at e⟩, World.ownsRow_nil _ _ _ _, fun b h => by obtain ⟨i, v, zs, e, _⟩ := h; simp at e, fun i v zs e => by simp at e, hK2, hb, ?_, fun b e => (hT2.row.lt b e).2, Nat.le_refl _, hbw⟩
    obtain ⟨D, ⟨es, clock, h1, _⟩, _⟩ := hT2.map
    exact lt_of_block h1
  obtain ⟨B0, hB0⟩ : ∃ B0, B0 = w2.heap.size := ⟨_, rfl⟩
  rw [← hB0] at hP
  have hBw : w.heap.size ≤ B0 := by rw [hB0]; exact hK2.size
  clear hB0 hT2 hK2
  go_upto_block 0 with (fail)
  go_cut [8] (fun kv wx => ∃ (rs : Lot) (got : List (Int × Int)), rs.length ≤ 120 ∧ got.length ≤ 60 ∧ Ph1 w wx B0 g bm v grp need kv rs got)
  case first =>
    go_wp2_with fail
    go_loopw [8, 9] (fun kv x wr => ∃ (k : Nat) (rs : Lot) (got : List (Int × Int)), k ≤ vs.length ∧ k ≤ 60 ∧ x = .int .i64 k ∧ Hid (rs.length = 2 * k) ∧ got.length ≤ k ∧ Ph1 w wr B0 g bm v grp need kv rs got) (fun _ x _ => 60 - (intOf x).toNat)
    case atStart => exact ⟨0, [], [], by omega, by omega, rfl, Lib.hid rfl, Nat.le_refl _, hP⟩
    case round =>
      clear hP
      obtain ⟨k, rs, got, hk1, hk2, rfl, hRL, hgl2, hP⟩ := hrel
      by_cases hlt : k < vs.length ∧ k < 60
      · obtain ⟨hlt1, hlt2⟩ := hlt
        obtain ⟨x, hx⟩ : ∃ x, vs[k]? = some x := ⟨_, List.getElem?_eq_getElem hlt1⟩
        obtain ⟨b, o, rfl, q1, q2, q3⟩ := (hB.grew hP.keeps) k x hx
        obtain ⟨xf1, xf2⟩ := VF.out x (List.mem_of_getElem? hx)
        clear hx
        go_wp2_with fail
        go_still_tail 11, (by kernel_rfl)
        change wpList _ _ _ _ _ wr.drew
        have hP1 := hP.grew (Keeps.refl None wr).drew
        obtain ⟨wq, hwq⟩ : ∃ wq, wq = wr.drew := ⟨_, rfl⟩
        rw [← hwq] at hP1 ⊢
        clear hwq q1 q2 q3 hP
        go_wp2_with fail
        refine (take_any g bm v grp need bm got x.s x.x wq hP1.tal xf1 xf2 (by omega) (by omega)).mono ?_
        rintro e w3 ⟨rfl, hT3, hk3⟩
        have hP3 := hP1.took hT3 hk3
        have hg3 := tookF_len grp need got x.s x.x
        obtain ⟨got2, hgot2⟩ : ∃ q, q = tookF grp need got x.s x.x := ⟨_, rfl⟩
        rw [← hgot2] at hP3 hg3
        clear hgot2 hT3 hk3 hP1
        go_wp2_with fail
        refine (missing_any g bm v grp need bm got2 w3 hP3.tal WF.out (by omega)).mono ?_
        rintro e w4 ⟨va, rfl, ha, hk4⟩
        have hP4 := hP3.grew hk4
        go_wp2_with fail
        refine (missing_any g bm v grp need bm got2 w4 hP4.tal WF.out (by omega)).mono ?_
        rintro e w5 ⟨vb, rfl, hb, hk5⟩
        have hml : (missF grp got2).length ≤ grp.length := List.length_filter_le _ _
        obtain ⟨ms, hms⟩ : ∃ ms, ms = missF grp got2 := ⟨_, rfl⟩
        rw [← hms] at ha hb hml
        clear hms
        obtain ⟨Aa, ca, rfl, -, na, -⟩ := ha.open_
        obtain ⟨Ab, cb, rfl, -, nb, -⟩ := hb.open_
        go_wp2_with fail
        refine (sameints_any Aa ms.length ca ms Ab ms.length cb ms w5 (na.grew hk5) rfl nb rfl (by omega)).mono ?_
        rintro e w6 ⟨rfl, hd6⟩
        rw [show SameB ms ms = true by simp [SameB]]
        have hk6 := hd6.keeps None
        have hP6 := (hP4.grew hk5).grew hk6
        have hko := hP6.kept
        obtain ⟨Ak, ck, rfl⟩ := owns_open hko
        have HRL := Lib.hid (show rs.length ≤ 120 by have := hRL.out; omega)
        have hrl := HRL.out
        have hBs := hP6.lt.2.2.2.1
        clear na nb hd6
        go_wp2_with (at_builtin; refine wpList_append_row _ rfl (.tmp 58) (.tmp 61) 57 rfl B0 27 i1 (.slice Option.none 0 0) 1 24 Try.underlying57 hi1 hy0 hy1 hy2 rfl (by decide) _ rs.length _ rfl (owns_grew hko ((Keeps.refl None _).alloc _)) (some ⟨w6.heap.size, 0, Option.none⟩) 2 2 [Value.slice Aa ms.length ca, Value.slice Ab ms.length cb] rfl rfl (fun e => by cases e) (src_new w6 27 _ _ rfl) (by intro u hu; simp at hu; rcases hu with rfl | rfl <;> rfl) (by unfold maxLen; omega) (by omega) (by simp; omega) ?_; intro kv' w8 hown hk8 hloc)
        have hP8 := hP3.two ha hk4 hb hk5 (hk6.trans ((Keeps.refl None w6).alloc _)) hown hk8 hloc hml
        go_roundw
        case rel => exact ⟨k + 1, _, got2, by omega, by omega, by go_num, Lib.hid (by rw [List.length_append, hRL.out]; simp; omega), by omega, hP8⟩
        case measure => simp [intOf]; omega
      · have hfin : ∀ kv, Ph1 w wr B0 g bm v grp need kv rs got → ∃ (rs : Lot) (got : List (Int × Int)), rs.length ≤ 120 ∧ got.length ≤ 60 ∧ Ph1 w wr B0 g bm v grp need kv rs got := fun kv h => ⟨rs, got, by have := hRL.out; omega, by omega, h⟩
        have HF := Lib.hid hfin
        clear hfin
        by_cases hlt1 : k < vs.length
        all_goals
          go_wp2_with fail
          go_meet
          exact HF.out _ hP
  case rest =>
    clear hP
    obtain ⟨rs, got, hrl, hgl2, hP⟩ := hcut
    rename World => wc
    have hkl := hP.kept
    obtain ⟨Ak, ck, rfl⟩ := owns_open hkl
    have hBs := hP.lt.2.2.2.1
    have hP1 := hP.grew ((Keeps.refl None wc).alloc (.cells #[] 3))
    have hr1 : Row .i64 3 (wc.alloc (.cells #[] 3)) wc.heap.size (.slice (some ⟨wc.heap.size, 0, Option.none⟩) 0 0) [] := Row.of_blk (zs := []) (Blk.new wc 3 []) (Nat.le_refl _) (by simp)
    go_wp2_with fail
    refine (missing_any g bm v grp need bm got _ hP1.tal WF.out (by omega)).mono ?_
    rintro e w3 ⟨vl, rfl, hl, hk3⟩
    have hml : (missF grp got).length ≤ grp.length := List.length_filter_le _ _
    obtain ⟨ms, hms⟩ : ∃ ms, ms = missF grp got := ⟨_, rfl⟩
    rw [← hms] at hl hml
    have HMS := Lib.hid hms
    clear hms
    obtain ⟨Al, cl, rfl, -, nl, hnl, -⟩ := hl.open_
    have hs3 := hk3.size
    have hr3 := hr1.grew hk3
    go_wp2_with (at_builtin; refine wpList_append_row _ rfl (.tmp 63) (.tmp 65) 27 rfl wc.heap.size 3 i0 (.int .i64 0) 1 8 Try.underlying27 hi0 hz0 hz1 hz2 rfl (by decide) _ 0 _ rfl hr3.raw Al ms.length cl (ms.map (Value.int .i64)) rfl (by rw [List.length_map, Nat.mul_one]) hnl nl.src (ints_oneCell _ _) (by unfold maxLen; omega) (by omega) (by simp at hs3; omega) ?_; intro vl2 w4 hown hk4 hloc; have hL4 : Row .i64 3 w4 wc.heap.size vl2 ([] ++ ms) := Row.of_append rfl rfl hown; clear hown)
    have hL4 : Row .i64 3 w4 wc.heap.size vl2 ms := hL4
    obtain ⟨A5, c5, e5, -, nL, -, hA5, -⟩ := hL4.open_
    have hK4 : Keeps None wc w4 := (((Keeps.refl None wc).alloc _).trans hk3).own hr3 (Nat.le_refl _) hk4
    have hP4 := hP.grew hK4
    have hwl : ∀ b, vl2.ownBlock = some b → wc.heap.size ≤ b ∧ b < w4.heap.size := fun b e => hL4.lt b e
    have hOM : ∀ b, OwnM rs b → B0 ≤ b ∧ b < wc.heap.size := fun b hb => hP.many.lt hb
    have HOM := Lib.hid hOM
    have HWL := Lib.hid hwl
    subst e5
    have hLie : Lies w4 Ak rs := fun i v zs e => by
      have hil := (List.getElem?_eq_some_iff.1 e).1
      obtain ⟨gk, c', e', hc⟩ := owns_at hP4.kept (by omega)
      cases e'
      exact ⟨gk, 0, rfl, fun f => hP4.off gk f rfl, by rw [Nat.zero_add]; exact hc i v (by rw [List.getElem?_map, e]; rfl)⟩
    have hll := hP4.len
    have hM := hP4.many
    clear hL4 hloc hk4 hr3 hs3 hnl nl hl hk3 hr1 hP1 hkl hP hOM hwl hBs
    obtain ⟨N, hN⟩ : ∃ N, N = rs.length := ⟨_, rfl⟩
    have HN := Lib.hid hN
    rw [← hN] at hrl ⊢
    clear hN
    go_wp2_with fail
    go_loopw [13] (fun x wr => ∃ (i : Nat) (r1 : Lot), i ≤ N ∧ x = .int .i64 i ∧ Fill w4 B0 rs i 0 r1 wr) (fun x _ => N - (intOf x).toNat)
    case atStart => exact ⟨0, rs, by omega, rfl, Fill.start hM⟩
    case round =>
      obtain ⟨i, r1, hi, rfl, hF⟩ := hrel
      by_cases hlt : i < N
      · have hlt1 : i < r1.length := by rw [hF.len, ← HN.out]; exact hlt
        obtain ⟨⟨v, zs⟩, hvz⟩ : ∃ p, r1[i]? = some p := ⟨_, List.getElem?_eq_getElem hlt1⟩
        obtain ⟨ys, hvy, hyz⟩ := hF.same i v zs hvz
        have hlz := hll i v ys hvy
        rw [hyz] at hlz
        obtain ⟨Av, cv, rfl, hcv, -⟩ := (hF.many.row i v zs hvz).open_
        have HVZ := Lib.hid hvz
        have HVY := Lib.hid hvy
        have HYZ := Lib.hid hyz
        clear hvz hvy hyz
        obtain ⟨m, hm⟩ : ∃ m, m = zs.length := ⟨_, rfl⟩
        rw [← hm] at HVZ HVY HYZ hcv hlz
        have HM := Lib.hid hm
        clear hm
        go_wp2_with fail
        go_loopw [14] (fun x wr => ∃ (j : Nat) (r1 : Lot), j ≤ m ∧ x = .int .i64 j ∧ Fill w4 B0 rs i j r1 wr) (fun x _ => m - (intOf x).toNat)
        case atStart => exact ⟨0, r1, by omega, rfl, hF⟩
        case round =>
          clear hF HVZ HYZ HM hlt1
          obtain ⟨j, r1, hj, rfl, hF⟩ := hrel
          have hlt1 : i < r1.length := by rw [hF.len, ← HN.out]; exact hlt
          obtain ⟨⟨v2, zs⟩, hvz⟩ : ∃ p, r1[i]? = some p := ⟨_, List.getElem?_eq_getElem hlt1⟩
          obtain ⟨ys2, hvy2, hyz2⟩ := hF.same i _ zs hvz
          have hee := HVY.out.symm.trans hvy2
          cases hee
          obtain ⟨b, o, rfl, hob, hc⟩ := (hLie.keeps hF.keeps) i _ _ HVY.out
          have hzl : zs.length = m := by obtain ⟨_, _, e, _⟩ := (hF.many.row i _ zs hvz).open_; cases e; rfl
          by_cases hjm : j < m
          · obtain ⟨g', c2, e2, -⟩ := (hF.many.row i _ zs hvz).pos (by omega)
            cases e2
            have hR := hF.many.row i _ zs hvz
            have hf := hR.free j
            obtain ⟨q, hq⟩ := Row.has hR j hjm
            have HVZ := Lib.hid hvz
            have HEQ := Lib.hid hyz2
            clear hvz hyz2 hvy2
            go_wp2_with fail
            go_roundw
            case rel => exact ⟨j + 1, _, by omega, by go_num, hF.put HVZ.out hjm⟩
            case measure => simp [intOf]; omega
          · obtain rfl : j = m := by omega
            have hzl2 : ∀ v zs', r1[i]? = some (v, zs') → zs'.length = j := by
              intro v zs' e
              rw [hvz] at e
              cases e
              exact hzl
            have hF2 := hF.next hzl2
            clear hF hvz hyz2 hvy2 hzl2
            go_wp2_with fail
            go_roundw
            case rel => exact ⟨i + 1, r1, by omega, by go_num, hF2⟩
            case measure => simp [intOf]; omega
      · obtain rfl : i = N := by omega
        have hF2 := hF
        rw [HN.out] at hF2
        have FS := hF2.forms
        have hS := hF2.sec
        obtain ⟨vs2, hvs⟩ : ∃ vs, vs = r1 := ⟨_, rfl⟩
        have hlen : vs2.length = i := by rw [hvs, hF.len]; exact HN.out.symm
        rw [← hvs] at FS hS
        have HLEN := Lib.hid hlen
        clear hF hF2 hvs hlen hM hlt
        obtain ⟨N, hN⟩ : ∃ N, N = i := ⟨_, rfl⟩
        rw [← hN] at hrl hi HLEN HN ⊢
        clear hN
        go_wp2_with fail
        go_loopw [15, 16] (fun m x wr => ∃ (i : Nat) (cur : Lot), i ≤ N ∧ x = .int .i64 i ∧ Sec w4 wr B0 rs vs2 cur m i 0) (fun _ x _ => N - (intOf x).toNat)
        case atStart => exact ⟨0, vs2, by omega, rfl, hS⟩
        case round =>
          clear hS hi
          obtain ⟨i, cur, hi, rfl, hS⟩ := hrel
          have hcl : cur.length = N := hS.len.trans HLEN.out
          by_cases hlt : i < N
          · obtain ⟨⟨g', zs⟩, hgz⟩ : ∃ p, cur[i]? = some p := ⟨_, List.getElem?_eq_getElem (by omega)⟩
            have hv := (hS.at0 rfl).symm.trans hgz
            obtain ⟨hzm, ⟨Av, lv, cv, rfl⟩, ys, hry, hyl⟩ := FS.full i g' zs hv
            obtain ⟨hl1, -⟩ := FS.form i _ _ _ _ hv
            obtain rfl := hl1
            have hlz := hll i _ ys hry
            rw [hyl] at hlz
            obtain ⟨b, o, rfl, hob, hc⟩ := (hLie.keeps hS.keeps) i _ _ hry
            have hmo := hS.more
            obtain ⟨Am, cm, rfl⟩ := owns_open hmo
            have HGZ := Lib.hid hgz
            have HV := Lib.hid hv
            have HZM := Lib.hid hzm
            have HCL := Lib.hid hcl
            clear hgz hv hzm hry hyl hcl hmo
            obtain ⟨z0, hz0'⟩ : ∃ z0, z0 = zs.length := ⟨_, rfl⟩
            have HZ0 := Lib.hid hz0'
            rw [← hz0'] at hlz hc HGZ HV
            clear hz0'
            go_wp2_with fail
            go_loopw [17, 18] (fun g x wr => ∃ (j : Nat) (cur : Lot) (zs : List Int), j ≤ 70 ∧ x = .int .i64 j ∧ Hid (cur[i]? = some (g, zs)) ∧ Hid (zs.length = z0 + j) ∧ Sec w4 wr B0 rs vs2 cur (.slice Am i cm) i j) (fun _ x _ => 70 - (intOf x).toNat)
            case atStart => exact ⟨0, cur, zs, by omega, rfl, HGZ, Lib.hid HZ0.out.symm, hS⟩
            case round =>
              clear hS HGZ HCL HZ0 HV HZM hc
              obtain ⟨j, cur, zs, hj, rfl, HGZ, HZL, hS⟩ := hrel
              have hR := hS.row i _ zs HGZ.out
              obtain ⟨Ag, cg, rfl⟩ := hR.slice
              have hsz := hS.keeps.size
              have hBs := hP4.lt.2.2.2.1
              by_cases hj6 : j < 70
              · have hzl : zs.length ≤ 17592186043904 + j := by have := HZL.out; omega
                go_wp2_with (at_builtin; refine wpList_append_fine _ rfl (.tmp 104) (.tmp 107) 27 rfl B0 3 i0 (.int .i64 0) 1 8 Try.underlying27 hi0 hz0 hz1 hz2 rfl (by decide) _ zs.length _ rfl (hR.grew ((Keeps.refl None _).alloc _)).raw ⟨wr.heap.size, 0, Option.none⟩ 1 1 [Value.int .i64 (1000 + (i : Int))] rfl rfl (cell_one_new _ _ _) (ints_oneCell _ [1000 + (i : Int)]) (by unfold maxLen; omega) (by omega) (by simp; omega) ?_; intro v' w2 hown hfine; have hr2 : Row .i64 3 w2 B0 v' (zs ++ [tailF i j]) := Row.of_append rfl rfl hown; clear hown)
                have hS2 := hS.push FS HGZ.out ((Keeps.refl None _).alloc _) hr2 hfine
                have hil : i < cur.length := (List.getElem?_eq_some_iff.1 HGZ.out).1
                go_roundw
                case rel => exact ⟨j + 1, _, zs ++ [tailF i j], by omega, by go_num, Lib.hid (by rw [List.getElem?_set_self hil]), Lib.hid (by rw [List.length_append, HZL.out]; simp; omega), hS2⟩
                case measure => simp [intOf]; omega
              · obtain rfl : j = 70 := by omega
                have hmr := hS.more
                go_wp2_with (at_builtin; refine wpList_append_row _ rfl (.tmp 109) (.tmp 111) 57 rfl B0 27 i1 (.slice Option.none 0 0) 1 24 Try.underlying57 hi1 hy0 hy1 hy2 rfl (by decide) _ i _ rfl (owns_grew hmr ((Keeps.refl None _).alloc _)) (some ⟨wr.heap.size, 0, Option.none⟩) 1 1 [Value.slice Ag zs.length cg] rfl rfl (fun e => by cases e) (src_new wr 27 _ _ rfl) (by intro u hu; simp at hu; subst hu; rfl) (by unfold maxLen; omega) (by omega) (by simp; omega) ?_; intro v' w2 hown hk1 hloc)
                have hS2 := hS.more_ FS HGZ.out ((Keeps.refl None _).alloc _) hown hk1 hloc
                go_roundw
                case rel => exact ⟨i + 1, cur, by omega, by go_num, hS2⟩
                case measure => simp [intOf]; omega
          · obtain rfl : i = N := by omega
            have hoff : Off A5 (OwnM rs) := fun b o e f => by
              have h1 := (hA5 b o e).2.1
              have h2 := (HOM.out b f).2
              omega
            have nL2 := nL.keeps hS.keeps hoff
            have l0 := hP4.lt
            have hTf : Tal wr g bm v grp need bm got := hP4.tal.keeps hS.keeps (fun f => by have := (HOM.out _ f).1; omega) (fun f => by have := (HOM.out _ f).1; omega) (fun b e f => by have := (HOM.out _ f).1; have := l0.2.2.1 b e; omega)
            have hKf : Keeps None w wr := hP4.keeps.andThen hS.keeps fun b hb f => by have := (HOM.out _ f).1; omega
            obtain ⟨Am, cm, rfl⟩ := owns_open hS.more
            have HT := Lib.hid hTf
            clear hoff nL hTf l0 hA5
            go_wp2_with fail
            go_loopw [19] (fun x wx => ∃ (k : Nat), k ≤ i ∧ x = .int .i64 k ∧ wx = wr) (fun x _ => i - (intOf x).toNat)
            case atStart => exact ⟨0, by omega, rfl, rfl⟩
            case round =>
              obtain ⟨k, hk, rfl, rfl⟩ := hrel
              by_cases hlt : k < i
              · obtain ⟨⟨v, zs⟩, hv⟩ : ∃ p, vs2[k]? = some p := ⟨_, List.getElem?_eq_getElem (by have := HLEN.out; omega)⟩
                obtain ⟨⟨g', ys⟩, hg⟩ : ∃ p, cur[k]? = some p := ⟨_, List.getElem?_eq_getElem (by omega)⟩
                obtain ⟨hzm, ⟨Av, lv, cv, rfl⟩, us, hry, hyl⟩ := FS.full k v zs hv
                obtain ⟨hl1, -⟩ := FS.form k _ _ _ _ hv
                obtain rfl := hl1
                have hlz := hll k _ us hry
                rw [hyl] at hlz
                obtain ⟨b, o, rfl, hob, hc⟩ := (hLie.keeps hS.keeps) k _ _ hry
                have hO := hS.old k _ _ _ _ hv
                have hR := hS.row k g' ys hg
                have hd := hS.done k g' ys _ zs hlt hg hv
                obtain ⟨gm, cm', em, hmc⟩ := owns_at hS.more (by omega)
                cases em
                have hmk := hmc k g' (by rw [List.getElem?_map, List.getElem?_take, if_pos hlt, hg]; rfl)
                have hyl2 : ys.length = zs.length + 70 := by rw [hd, List.length_append, tails_len]
                obtain ⟨gb, cg, rfl, -⟩ := hR.pos (by omega)
                have hRN := (Nums.row hR).1
                have HD := Lib.hid hd
                have HZM := Lib.hid hzm
                have HYL := Lib.hid hyl2
                have HMC := Lib.hid hmc
                clear hd hzm hv hry hyl hg hcl hyl2 hmc HLEN HN
                obtain ⟨z0, hz0'⟩ : ∃ z0, z0 = zs.length := ⟨_, rfl⟩
                have HZ0 := Lib.hid hz0'
                rw [← hz0'] at hlz hc
                clear hz0'
                obtain ⟨Y, hY⟩ : ∃ Y, Y = ys.length := ⟨_, rfl⟩
                rw [← hY] at hmk HYL
                have HY := Lib.hid hY
                clear hY
                have hYb : Y ≤ 17592186043974 := by have := HYL.out; have := HZ0.out; omega
                go_wp2_with fail
                go_loopw [20] (fun x wx => ∃ (j : Nat), j ≤ Y ∧ x = .int .i64 j ∧ wx = _) (fun x _ => Y - (intOf x).toNat)
                case atStart => exact ⟨0, by omega, rfl, rfl⟩
                case round =>
                  obtain ⟨j, hj, rfl, rfl⟩ := hrel
                  by_cases hjY : j < Y
                  · obtain ⟨y, b2, o2, e2, hcy, hy⟩ := hRN.get j (by have := HY.out; omega)
                    cases e2
                    rw [Nat.zero_add] at hcy
                    have HJY := Lib.hid hjY
                    by_cases hjz : j < z0
                    · obtain ⟨x, b1, o1, rfl, hcx, hx⟩ := hO.get j (by have := HZ0.out; omega)
                      have hxm : x = -(k : Int) := by
                        have h1 := hx.out
                        rw [HZM.out, ← HZ0.out] at h1
                        simp [marks, hjz, markF] at h1
                        exact h1.symm
                      have hym : y = -(k : Int) := by
                        have h1 := hy.out
                        rw [HD.out, List.getElem?_append_left (by have := HZ0.out; omega), hx.out] at h1
                        cases h1
                        exact hxm
                      rw [hxm] at hcx
                      rw [hym] at hcy
                      clear hxm hym hx hy
                      go_wp2_with fail
                      go_roundw
                      case rel => exact ⟨j + 1, by omega, by go_num, by first | trivial | rfl⟩
                      case measure => simp [intOf]; omega
                    · have hym : y = 1000 + (k : Int) := by
                        have h1 := hy.out
                        have h2 := HZ0.out
                        have h3 := HYL.out
                        rw [HD.out, List.getElem?_append_right (by omega)] at h1
                        simp [tails, tailF] at h1
                        exact h1.2.symm
                      rw [hym] at hcy
                      clear hym hy
                      go_wp2_with fail
                      go_roundw
                      case rel => exact ⟨j + 1, by have := HJY.out; omega, by go_num, by first | trivial | rfl⟩
                      case measure => have := HJY.out; simp [intOf]; omega
                  · obtain rfl : j = Y := by omega
                    go_wp2_with fail
                    go_roundw
                    case rel => exact ⟨k + 1, by omega, by go_num, by first | trivial | rfl⟩
                    case measure => simp [intOf]; omega
              · go_wp2_with fail
                refine (missing_any g bm v grp need bm got _ HT.out WF.out (by omega)).mono ?_
                rintro e w8 ⟨vf, rfl, hf8, hk8⟩
                rw [← HMS.out] at hf8
                obtain ⟨Af, cf, rfl, -, nf, -⟩ := hf8.open_
                have nL3 := nL2.grew hk8
                have hKe := hKf.trans hk8
                clear hS nL2 hKf HT hP4 hLie
                go_wp2_with fail
                refine (sameints_any Af ms.length cf ms A5 ms.length c5 ms w8 nf rfl nL3 rfl (by omega)).mono ?_
                rintro e w9 ⟨rfl, hd9⟩
                rw [show SameB ms ms = true by simp [SameB]]
                go_wp2_with fail
                go_ret
                exact ⟨rfl, (hKe.trans (hd9.keeps None)).to_below⟩
end Go.Proofs.Ytghbgcmhahndkaa.tallyOwn
