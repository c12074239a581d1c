/- register.Newer and the document's: bytes.Clone, the two orders of stamps. -/
import Derived.Test.YtcihfjfbcfgidaaBase
import Derived.Test.YtcihfjfbcfgidaaRow
import Derived.Test.YtcihfjfbcfgidaaLend
import Derived.Outline
import Derived.Lib.SliceRun
import Derived.StillTailTactics
import Derived.Test.YtcihfjfbcfgidaaWLast
namespace Go.Proofs.Ytcihfjfbcfgidaa
open Go.RowKit Go.Proofs.YtcihfjfbcfgidaaW.PrintLast

theorem wanted_none {o : Oper} {y : Nat → Option Bool} (h : o.guard = Option.none) : Region.wanted o y = true := by simp [Region.wanted, h]

/-- A copy of its own; nil of nil. -/
def CloneEnd (zs : List Int) (w : World) (e : Ending) (w' : World) : Prop := ∃ v, e = .returned v ∧ Row .u8 5 w' w.heap.size v zs ∧ Keeps None w w'

set_option maxRecDepth 100000 in
set_option maxHeartbeats 1600000 in
theorem clone_any (A : Option Addr) (n cap : Nat) (zs : List Int) (w : World) (hA : Nums .u8 w A zs) (hn : zs.length = n) (hr : n ≤ 140737488351232) :
    Calls Try.prog 36 #[.slice A n cap] w (CloneEnd zs w) := by
  obtain ⟨i0, hi, hz0, hz1, hz2⟩ := info_parts Try.infoU8
  have qT : ∀ (w : World) (a : Option Addr) (n c n' c' : Nat), (binOp .eql 24 (.slice a n c) (.slice none n' c')).run Try.prog w = .ok (.bool a.isNone) w := fun w a n c n' c' => Lib.run_eql_slice_nil w _ _ a n c n' c' Try.underlying24
  subst hn
  cases A with
  | none =>
    go_enter Try.func36, Try.ntmps36
    go_wp2
    have h0 : zs = [] := by
      cases zs with
      | nil => rfl
      | cons y ys => obtain ⟨b, o, e, _⟩ := hA 0 (by simp); cases e
    subst h0
    go_ret
    exact ⟨_, rfl, Row.nil _ _ _ _, Keeps.refl _ _⟩
  | some ad =>
    have hrow : Row .u8 5 (w.alloc (.cells #[] 5)) w.heap.size (.slice (some ⟨w.heap.size, 0, Option.none⟩) 0 0) [] := Row.of_blk (zs := []) (Blk.new w 5 []) (Nat.le_refl _) (by simp)
    have hA' : Nums .u8 (w.alloc (.cells #[] 5)) (some ad) zs := hA.grew ((Keeps.refl _ w).alloc _)
    have HR := Lib.hid hrow
    have HA := Lib.hid hA'
    clear hrow hA'
    go_enter Try.func36, Try.ntmps36
    go_wp2_with (at_builtin; refine wpList_append_row _ rfl (.tmp 5) (.tmp 6) 24 rfl w.heap.size 5 i0 (.int .u8 0) 1 1 Try.underlying24 hi hz0 hz1 hz2 rfl (by decide) _ 0 _ rfl HR.out.raw (some ad) zs.length cap (zs.map (Value.int .u8)) rfl (by rw [List.length_map, Nat.mul_one]) (fun e => by cases e) HA.out.src (ints_oneCell _ _) (by unfold maxLen; omega) (by omega) (by simp) ?_; intro v' w1 hown hK _)
    go_ret
    refine ⟨v', rfl, Row.of_append (zs := []) rfl rfl hown, ((Keeps.refl _ w).alloc _).andThen hK ?_⟩
    intro i hi e
    have := OwnB.is e
    omega


def lessF (a b : Int × Int) : Bool := decide (a.1 < b.1) || (decide (a.1 = b.1) && decide (a.2 < b.2))
/-- A stamp as a value. -/
def stV (a : Int × Int) : Value := .agg #[.int .i64 a.1, .int .i64 a.2]

def LessEnd (a b : Int × Int) (w : World) (e : Ending) (w' : World) : Prop := e = .returned (.bool (lessF a b)) ∧ Keeps None w w'

set_option maxRecDepth 100000 in
set_option maxHeartbeats 1600000 in
theorem less_any (a1 a2 b1 b2 : Int) (w : World) :
    Calls Try.prog 35 #[.agg #[.int .i64 a1, .int .i64 a2], .agg #[.int .i64 b1, .int .i64 b2]] w (LessEnd (a1, a2) (b1, b2) w) := by
  have hK : Keeps None w ((w.alloc (.cells #[.int .i64 a1, .int .i64 a2] 23)).alloc (.cells #[.int .i64 b1, .int .i64 b2] 23)) := ((Keeps.refl _ _).alloc _).alloc _
  by_cases h1 : a1 < b1
  · have E : lessF (a1, a2) (b1, b2) = true := by simp [lessF, h1]
    unfold LessEnd
    rw [E]
    clear E
    go_enter Try.func35, Try.ntmps35
    go_wp2
    go_ret
    exact ⟨rfl, hK⟩
  · by_cases h2 : a1 = b1
    · subst h2
      have E : lessF (a1, a2) (a1, b2) = decide (a2 < b2) := by simp [lessF]
      unfold LessEnd
      rw [E]
      clear E h1
      go_enter Try.func35, Try.ntmps35
      go_wp2
      go_ret
      exact ⟨rfl, hK⟩
    · have E : lessF (a1, a2) (b1, b2) = false := by simp [lessF, h1, h2]
      obtain ⟨t1, t2⟩ := test_ne h2
      unfold LessEnd
      rw [E]
      clear E
      go_enter Try.func35, Try.ntmps35
      go_wp2
      go_ret
      exact ⟨rfl, hK⟩

set_option maxRecDepth 100000 in
set_option maxHeartbeats 1600000 in
theorem refless_any (a1 a2 b1 b2 : Int) (w : World) :
    Calls Try.prog 37 #[.agg #[.int .i64 a1, .int .i64 a2], .agg #[.int .i64 b1, .int .i64 b2]] w (LessEnd (a1, a2) (b1, b2) w) := by
  have hK : Keeps None w ((w.alloc (.cells #[.int .i64 a1, .int .i64 a2] 23)).alloc (.cells #[.int .i64 b1, .int .i64 b2] 23)) := ((Keeps.refl _ _).alloc _).alloc _
  by_cases h1 : a1 < b1
  · have E : lessF (a1, a2) (b1, b2) = true := by simp [lessF, h1]
    unfold LessEnd
    rw [E]
    clear E
    go_enter Try.func37, Try.ntmps37
    go_wp2
    go_ret
    exact ⟨rfl, hK⟩
  · by_cases h2 : a1 = b1
    · subst h2
      have E : lessF (a1, a2) (a1, b2) = decide (a2 < b2) := by simp [lessF]
      unfold LessEnd
      rw [E]
      clear E h1
      go_enter Try.func37, Try.ntmps37
      go_wp2
      go_ret
      exact ⟨rfl, hK⟩
    · have E : lessF (a1, a2) (b1, b2) = false := by simp [lessF, h1, h2]
      obtain ⟨t1, t2⟩ := test_ne h2
      unfold LessEnd
      rw [E]
      clear E
      go_enter Try.func37, Try.ntmps37
      go_wp2
      go_ret
      exact ⟨rfl, hK⟩



def blkV (s : Int × Int) (v : Value) : Value := .agg #[.int .i64 s.1, .int .i64 s.2, v]
/-- What a server holds behind a Put. -/
def newF (s t : Int × Int) (xs ys : List Int) : (Int × Int) × List Int := if lessF s t then (t, ys) else (s, xs)
theorem keeps_three (w : World) (k : Nat) (a b c : Value) : Keeps (One k) w (((w.setCell ⟨k, 0, Option.none⟩ a).setCell ⟨k, 1, Option.none⟩ b).setCell ⟨k, 2, Option.none⟩ c) := by
  have h1 : Keeps (One k) w (w.setCell ⟨k, 0, Option.none⟩ a) := (Keeps.refl _ _).setCell _ _ (fun _ => rfl)
  have h2 : Keeps (One k) (w.setCell ⟨k, 0, Option.none⟩ a) ((w.setCell ⟨k, 0, Option.none⟩ a).setCell ⟨k, 1, Option.none⟩ b) := (Keeps.refl _ _).setCell _ _ (fun _ => rfl)
  have h3 : Keeps (One k) ((w.setCell ⟨k, 0, Option.none⟩ a).setCell ⟨k, 1, Option.none⟩ b) (((w.setCell ⟨k, 0, Option.none⟩ a).setCell ⟨k, 1, Option.none⟩ b).setCell ⟨k, 2, Option.none⟩ c) := (Keeps.refl _ _).setCell _ _ (fun _ => rfl)
  exact (h1.trans h2).trans h3
theorem results_nw (tmps : Array Value) (w : World) (k : Nat) (x0 x1 x2 : Value) (b : Bool) (hp : tmps.getD 6 undef = .pointer (some ⟨k, 0, Option.none⟩)) (hb : tmps.getD 7 undef = .bool b) (c0 : w.cell? ⟨k, 0, Option.none⟩ = some x0) (c1 : w.cell? ⟨k, 1, Option.none⟩ = some x1) (c2 : w.cell? ⟨k, 2, Option.none⟩ = some x2) :
    (results Try.f11 tmps).run Try.prog w = .ok (.tuple #[.agg #[x0, x1, x2], .bool b]) w := by
  have hp' : tmps[6]?.getD undef = .pointer (some ⟨k, 0, Option.none⟩) := by simpa using hp
  have hb' : tmps[7]?.getD undef = .bool b := by simpa using hb
  simp [results, Try.results11, go_sem, hp', hb', c0, c1, c2, asAddr]
set_option maxRecDepth 100000 in
set_option maxHeartbeats 1600000 in
theorem refnewer_any (s1 s2 : Int) (A : Option Addr) (n cap : Nat) (t1 t2 : Int) (B : Option Addr) (m cap' : Nat) (w : World) :
    Calls Try.prog 11 #[blkV (s1, s2) (.slice A n cap), .agg #[.int .i64 t1, .int .i64 t2], .slice B m cap'] w fun e w' =>
      e = .returned (.tuple #[if lessF (s1, s2) (t1, t2) then blkV (t1, t2) (.slice B m cap') else blkV (s1, s2) (.slice A n cap), .bool (lessF (s1, s2) (t1, t2))]) ∧ Keeps None w w' := by
  have kS := (((Keeps.refl None w).alloc (.cells #[.int .i64 s1, .int .i64 s2, .slice A n cap] 26)).alloc (.cells #[.int .i64 t1, .int .i64 t2] 23)).alloc (.cells #[.int .i64 0, .int .i64 0, .slice Option.none 0 0] 26)
  have hbH := ((Blk.new w 26 [.int .i64 s1, .int .i64 s2, .slice A n cap]).alloc (.cells #[.int .i64 t1, .int .i64 t2] 23)).alloc (.cells #[.int .i64 0, .int .i64 0, .slice Option.none 0 0] 26)
  have hbT : Blk (((w.alloc (.cells #[.int .i64 s1, .int .i64 s2, .slice A n cap] 26)).alloc (.cells #[.int .i64 t1, .int .i64 t2] 23)).alloc (.cells #[.int .i64 0, .int .i64 0, .slice Option.none 0 0] 26)) (w.heap.size + 1) 23 [.int .i64 t1, .int .i64 t2] := by
    have := (Blk.new (w.alloc (.cells #[.int .i64 s1, .int .i64 s2, .slice A n cap] 26)) 23 [.int .i64 t1, .int .i64 t2]).alloc (.cells #[.int .i64 0, .int .i64 0, .slice Option.none 0 0] 26)
    simpa using this
  have hbZ : Blk (((w.alloc (.cells #[.int .i64 s1, .int .i64 s2, .slice A n cap] 26)).alloc (.cells #[.int .i64 t1, .int .i64 t2] 23)).alloc (.cells #[.int .i64 0, .int .i64 0, .slice Option.none 0 0] 26)) (w.heap.size + 1 + 1) 26 [.int .i64 0, .int .i64 0, .slice Option.none 0 0] := by
    have := Blk.new ((w.alloc (.cells #[.int .i64 s1, .int .i64 s2, .slice A n cap] 26)).alloc (.cells #[.int .i64 t1, .int .i64 t2] 23)) 26 [.int .i64 0, .int .i64 0, .slice Option.none 0 0]
    simpa using this
  cases hL : lessF (s1, s2) (t1, t2)
  · have hl : ∀ w', Calls Try.prog 37 #[.agg #[.int .i64 s1, .int .i64 s2], .agg #[.int .i64 t1, .int .i64 t2]] w' fun e w'' => e = .returned (.bool false) ∧ Keeps None w' w'' := fun w' => (refless_any s1 s2 t1 t2 w').mono fun e w'' h => ⟨by rw [h.1, hL], h.2⟩
    clear hL
    simp only [blkV, Bool.false_eq_true, if_false, if_true]
    go_enter Try.func11, Try.ntmps11
    go_wp2_with fail
    refine (hl _).mono ?_
    rintro e w1 ⟨rfl, hk1⟩
    have hZ := hbZ.grew hk1
    have hT := hbT.grew hk1
    have hH := hbH.grew hk1
    have KW := kS.trans hk1
    have z0 := hZ.cell 0 _ rfl
    have z1 := hZ.cell 1 _ rfl
    have z2 := hZ.cell 2 _ rfl
    have f0 := hZ.free 0
    have f1 := hZ.free 1
    have f2 := hZ.free 2
    have y0 := hT.cell 0 _ rfl
    have y1 := hT.cell 1 _ rfl
    have x0 := hH.cell 0 _ rfl
    have x1 := hH.cell 1 _ rfl
    have x2 := hH.cell 2 _ rfl
    go_wp2_with fail
    have hZ3 := ((hZ.set 0 (.int .i64 s1)).set 1 (.int .i64 s2)).set 2 (.slice A n cap)
    simp only [List.set] at hZ3
    have ks : Keeps (One (w.heap.size + 1 + 1)) w1 (((w1.setCell ⟨w.heap.size + 1 + 1, 0, Option.none⟩ (.int .i64 s1)).setCell ⟨w.heap.size + 1 + 1, 1, Option.none⟩ (.int .i64 s2)).setCell ⟨w.heap.size + 1 + 1, 2, Option.none⟩ (.slice A n cap)) := keeps_three _ _ _ _ _
    exact ⟨rfl, _, results_nw _ _ (w.heap.size + 1 + 1) _ _ _ _ rfl rfl (hZ3.cell 0 _ rfl) (hZ3.cell 1 _ rfl) (hZ3.cell 2 _ rfl), rfl, KW.andThen ks (fun i hi e => by simp only [One] at e; omega)⟩
  · have hl : ∀ w', Calls Try.prog 37 #[.agg #[.int .i64 s1, .int .i64 s2], .agg #[.int .i64 t1, .int .i64 t2]] w' fun e w'' => e = .returned (.bool true) ∧ Keeps None w' w'' := fun w' => (refless_any s1 s2 t1 t2 w').mono fun e w'' h => ⟨by rw [h.1, hL], h.2⟩
    clear hL
    simp only [blkV, Bool.false_eq_true, if_false, if_true]
    go_enter Try.func11, Try.ntmps11
    go_wp2_with fail
    refine (hl _).mono ?_
    rintro e w1 ⟨rfl, hk1⟩
    have hZ := hbZ.grew hk1
    have hT := hbT.grew hk1
    have hH := hbH.grew hk1
    have KW := kS.trans hk1
    have z0 := hZ.cell 0 _ rfl
    have z1 := hZ.cell 1 _ rfl
    have z2 := hZ.cell 2 _ rfl
    have f0 := hZ.free 0
    have f1 := hZ.free 1
    have f2 := hZ.free 2
    have y0 := hT.cell 0 _ rfl
    have y1 := hT.cell 1 _ rfl
    have x0 := hH.cell 0 _ rfl
    have x1 := hH.cell 1 _ rfl
    have x2 := hH.cell 2 _ rfl
    go_wp2_with fail
    have hZ3 := ((hZ.set 0 (.int .i64 t1)).set 1 (.int .i64 t2)).set 2 (.slice B m cap')
    simp only [List.set] at hZ3
    have ks : Keeps (One (w.heap.size + 1 + 1)) w1 (((w1.setCell ⟨w.heap.size + 1 + 1, 0, Option.none⟩ (.int .i64 t1)).setCell ⟨w.heap.size + 1 + 1, 1, Option.none⟩ (.int .i64 t2)).setCell ⟨w.heap.size + 1 + 1, 2, Option.none⟩ (.slice B m cap')) := keeps_three _ _ _ _ _
    exact ⟨rfl, _, results_nw _ _ (w.heap.size + 1 + 1) _ _ _ _ rfl rfl (hZ3.cell 0 _ rfl) (hZ3.cell 1 _ rfl) (hZ3.cell 2 _ rfl), rfl, KW.andThen ks (fun i hi e => by simp only [One] at e; omega)⟩
theorem results_nx (tmps : Array Value) (w : World) (k : Nat) (x0 x1 x2 : Value) (b : Bool) (hp : tmps.getD 6 undef = .pointer (some ⟨k, 0, Option.none⟩)) (hb : tmps.getD 7 undef = .bool b) (c0 : w.cell? ⟨k, 0, Option.none⟩ = some x0) (c1 : w.cell? ⟨k, 1, Option.none⟩ = some x1) (c2 : w.cell? ⟨k, 2, Option.none⟩ = some x2) :
    (results Try.f10 tmps).run Try.prog w = .ok (.tuple #[.agg #[x0, x1, x2], .bool b]) w := by
  have hp' : tmps[6]?.getD undef = .pointer (some ⟨k, 0, Option.none⟩) := by simpa using hp
  have hb' : tmps[7]?.getD undef = .bool b := by simpa using hb
  simp [results, Try.results10, go_sem, hp', hb', c0, c1, c2, asAddr]
set_option maxRecDepth 100000 in
set_option maxHeartbeats 1600000 in
theorem newer_any (s1 s2 : Int) (A : Option Addr) (cap : Nat) (xs : List Int) (t1 t2 : Int) (B : Option Addr) (cap' : Nat) (ys : List Int) (w : World) (hX : Nums .u8 w A xs) (hY : Nums .u8 w B ys) (hx : xs.length ≤ 140737488351232) (hy : ys.length ≤ 140737488351232) :
    Calls Try.prog 10 #[blkV (s1, s2) (.slice A xs.length cap), .agg #[.int .i64 t1, .int .i64 t2], .slice B ys.length cap'] w fun e w' =>
      ∃ v, e = .returned (.tuple #[blkV (newF (s1, s2) (t1, t2) xs ys).1 v, .bool (lessF (s1, s2) (t1, t2))]) ∧ Row .u8 5 w' w.heap.size v (newF (s1, s2) (t1, t2) xs ys).2 ∧ Keeps None w w' := by
  have kS := (((Keeps.refl None w).alloc (.cells #[.int .i64 s1, .int .i64 s2, .slice A xs.length cap] 26)).alloc (.cells #[.int .i64 t1, .int .i64 t2] 23)).alloc (.cells #[.int .i64 0, .int .i64 0, .slice Option.none 0 0] 26)
  have hbH := ((Blk.new w 26 [.int .i64 s1, .int .i64 s2, .slice A xs.length cap]).alloc (.cells #[.int .i64 t1, .int .i64 t2] 23)).alloc (.cells #[.int .i64 0, .int .i64 0, .slice Option.none 0 0] 26)
  have hbT : Blk (((w.alloc (.cells #[.int .i64 s1, .int .i64 s2, .slice A xs.length cap] 26)).alloc (.cells #[.int .i64 t1, .int .i64 t2] 23)).alloc (.cells #[.int .i64 0, .int .i64 0, .slice Option.none 0 0] 26)) (w.heap.size + 1) 23 [.int .i64 t1, .int .i64 t2] := by
    have := (Blk.new (w.alloc (.cells #[.int .i64 s1, .int .i64 s2, .slice A xs.length cap] 26)) 23 [.int .i64 t1, .int .i64 t2]).alloc (.cells #[.int .i64 0, .int .i64 0, .slice Option.none 0 0] 26)
    simpa using this
  have hbZ : Blk (((w.alloc (.cells #[.int .i64 s1, .int .i64 s2, .slice A xs.length cap] 26)).alloc (.cells #[.int .i64 t1, .int .i64 t2] 23)).alloc (.cells #[.int .i64 0, .int .i64 0, .slice Option.none 0 0] 26)) (w.heap.size + 1 + 1) 26 [.int .i64 0, .int .i64 0, .slice Option.none 0 0] := by
    have := Blk.new ((w.alloc (.cells #[.int .i64 s1, .int .i64 s2, .slice A xs.length cap] 26)).alloc (.cells #[.int .i64 t1, .int .i64 t2] 23)) 26 [.int .i64 0, .int .i64 0, .slice Option.none 0 0]
    simpa using this
  cases hL : lessF (s1, s2) (t1, t2)
  · have hl : ∀ w', Calls Try.prog 35 #[.agg #[.int .i64 s1, .int .i64 s2], .agg #[.int .i64 t1, .int .i64 t2]] w' fun e w'' => e = .returned (.bool false) ∧ Keeps None w' w'' := fun w' => (less_any s1 s2 t1 t2 w').mono fun e w'' h => ⟨by rw [h.1, hL], h.2⟩
    have hF : newF (s1, s2) (t1, t2) xs ys = ((s1, s2), xs) := by simp [newF, hL]
    rw [hF]
    clear hL hF
    simp only [blkV]
    go_enter Try.func10, Try.ntmps10
    go_wp2_with fail
    refine (hl _).mono ?_
    rintro e w1 ⟨rfl, hk1⟩
    have hZ := hbZ.grew hk1
    have hT := hbT.grew hk1
    have hH := hbH.grew hk1
    have KW := kS.trans hk1
    have hzl := hZ.lt
    have y0 := hT.cell 0 _ rfl
    have y1 := hT.cell 1 _ rfl
    have x0 := hH.cell 0 _ rfl
    have x1 := hH.cell 1 _ rfl
    have x2 := hH.cell 2 _ rfl
    go_wp2_with fail
    refine start_ (ds := [6]) (S := (fun w' => Keeps None w1 w')) #[false, false, false, false, false, false, false, false] (by kernel_rfl) rfl rfl ((Keeps.refl _ _).drew) (fun hS0 => ?_)
    refine pure_ (i := 0) (N := some 16) (v := .pointer (some ⟨w.heap.size, 0, Option.none⟩)) #[true, false, false, false, false, false, false, false] rfl rfl (by kernel_rfl) (fun _ _ _ h => h) (Or.inl ⟨wanted_none rfl, fun w => by go_simp⟩) rfl ?_
    try simp only [Act.put, List.setIfInBounds_toArray, List.set_cons_zero, List.set_cons_succ]
    refine take_ (i := 1) (N := some 17) (v := .agg #[.int .i64 s1, .int .i64 s2]) #[true, true, false, false, false, false, false, false] rfl rfl (by kernel_rfl) (fun _ _ _ h => h) (Or.inl ⟨wanted_none rfl, by intro w' hSw; have q0 := hSw.cell x0 id; have q1 := hSw.cell x1 id; go_simp⟩) hS0 rfl ?_
    try simp only [Act.put, List.setIfInBounds_toArray, List.set_cons_zero, List.set_cons_succ]
    refine pure_ (i := 2) (N := some 18) (v := .pointer (some ⟨w.heap.size, 2, Option.none⟩)) #[true, true, true, false, false, false, false, false] rfl rfl (by kernel_rfl) (fun _ _ _ h => h) (Or.inl ⟨wanted_none rfl, fun w => by go_simp⟩) rfl ?_
    try simp only [Act.put, List.setIfInBounds_toArray, List.set_cons_zero, List.set_cons_succ]
    refine take_ (i := 3) (N := some 19) (v := .slice A xs.length cap) #[true, true, true, true, false, false, false, false] rfl rfl (by kernel_rfl) (fun _ _ _ h => h) (Or.inl ⟨wanted_none rfl, by intro w' hSw; have q0 := hSw.cell x2 id; go_simp⟩) hS0 rfl ?_
    try simp only [Act.put, List.setIfInBounds_toArray, List.set_cons_zero, List.set_cons_succ]
    refine one_ (i := 4) (oi := ({ dst := some 20, op := Op.call { callee := Callee.value (Operand.func 36), args := #[Operand.tmp 19], argTypes := #[24] }, type := 24, pos := "register.go:17", after := #[{ on := 3, ground := Ground.data }], guard := Option.none } : Oper)) (N := some 20) #[true, true, true, true, true, false, false, false] rfl rfl (by kernel_rfl) (by decide) ?_
    intro KK hKK
    refine goes_ Try.func36 (by kernel_rfl) rfl #[.slice A xs.length cap] (wanted_none rfl) rfl rfl (by simp [Act.eval]) ?_
    refine (clone_any A xs.length cap xs _ ((hX.grew KW).grew hS0) rfl (by omega)).mono ?_
    rintro e w2 ⟨vw, rfl, hrow, hk2⟩
    obtain ⟨Av, cv, rfl⟩ := hrow.slice
    refine ⟨_, rfl, hKK.out _ _ (hS0.trans hk2) (fun hS1 => ?_)⟩
    try simp only [Act.put, List.setIfInBounds_toArray, List.set_cons_zero, List.set_cons_succ]
    refine pure_ (i := 5) (N := some 21) (v := .agg #[.int .i64 s1, .int .i64 s2, .slice Av xs.length cv]) #[true, true, true, true, true, true, false, false] rfl rfl (by kernel_rfl) (fun _ _ _ h => h) (Or.inl ⟨wanted_none rfl, fun w => by go_simp⟩) rfl ?_
    try simp only [Act.put, List.setIfInBounds_toArray, List.set_cons_zero, List.set_cons_succ]
    have hZ2 := hZ.grew hS1
    have g0 := hZ2.cell 0 _ rfl
    have g1 := hZ2.cell 1 _ rfl
    have g2 := hZ2.cell 2 _ rfl
    have e0 := hZ2.free 0
    have e1 := hZ2.free 1
    have e2 := hZ2.free 2
    have KS := hS1
    refine last_ (i := 6) (oi := ({ dst := Option.none, op := Op.store 26 (Operand.tmp 6) (Operand.tmp 21), type := 0, pos := "register.go:17", after := #[{ on := 5, ground := Ground.data }, { on := 4, ground := Ground.chain }, { on := 0, ground := Ground.phase }, { on := 1, ground := Ground.phase }, { on := 2, ground := Ground.phase }, { on := 3, ground := Ground.phase }, { on := 4, ground := Ground.phase }, { on := 5, ground := Ground.phase }], guard := Option.none } : Oper)) (N := Option.none) #[true, true, true, true, true, true, true, false] rfl rfl (by kernel_rfl) (by decide) ?_
    intro KK hKK
    refine skip_ (wanted_none rfl) rfl (w1 := ((w2.setCell ⟨w.heap.size + 1 + 1, 0, Option.none⟩ (.int .i64 s1)).setCell ⟨w.heap.size + 1 + 1, 1, Option.none⟩ (.int .i64 s2)).setCell ⟨w.heap.size + 1 + 1, 2, Option.none⟩ (.slice Av xs.length cv)) (by go_simp) (hKK.out _ _ ?_)
    try simp only [Act.put, List.setIfInBounds_toArray, List.set_cons_zero, List.set_cons_succ]
    refine pure_ (i := 7) (N := some 7) (v := .bool false) #[true, true, true, true, true, true, true, true] rfl rfl (by kernel_rfl) (fun _ _ _ h => h) (Or.inl ⟨wanted_none rfl, fun w => by rfl⟩) rfl ?_
    try simp only [Act.put, List.setIfInBounds_toArray, List.set_cons_zero, List.set_cons_succ]
    refine done_ (by kernel_rfl) ?_
    go_wp2_with fail
    have hZ3 := ((hZ2.set 0 (.int .i64 s1)).set 1 (.int .i64 s2)).set 2 (.slice Av xs.length cv)
    simp only [List.set] at hZ3
    have ks : Keeps (One (w.heap.size + 1 + 1)) w2 (((w2.setCell ⟨w.heap.size + 1 + 1, 0, Option.none⟩ (.int .i64 s1)).setCell ⟨w.heap.size + 1 + 1, 1, Option.none⟩ (.int .i64 s2)).setCell ⟨w.heap.size + 1 + 1, 2, Option.none⟩ (.slice Av xs.length cv)) := keeps_three _ _ _ _ _
    have hKw := KW.size
    refine ⟨rfl, _, results_nx _ _ (w.heap.size + 1 + 1) _ _ _ _ rfl rfl (hZ3.cell 0 _ rfl) (hZ3.cell 1 _ rfl) (hZ3.cell 2 _ rfl), _, rfl, (hrow.down (by simpa using hKw)).keeps ks (fun b hb e => ?_), (KW.trans KS).andThen ks (fun i hi e => by simp only [One] at e; omega)⟩
    have := (hrow.lt b hb).1
    simp only [One, World.drew] at e this
    omega
  · have hl : ∀ w', Calls Try.prog 35 #[.agg #[.int .i64 s1, .int .i64 s2], .agg #[.int .i64 t1, .int .i64 t2]] w' fun e w'' => e = .returned (.bool true) ∧ Keeps None w' w'' := fun w' => (less_any s1 s2 t1 t2 w').mono fun e w'' h => ⟨by rw [h.1, hL], h.2⟩
    have hF : newF (s1, s2) (t1, t2) xs ys = ((t1, t2), ys) := by simp [newF, hL]
    rw [hF]
    clear hL hF
    simp only [blkV]
    go_enter Try.func10, Try.ntmps10
    go_wp2_with fail
    refine (hl _).mono ?_
    rintro e w1 ⟨rfl, hk1⟩
    have hZ := hbZ.grew hk1
    have hT := hbT.grew hk1
    have hH := hbH.grew hk1
    have KW := kS.trans hk1
    have hzl := hZ.lt
    have y0 := hT.cell 0 _ rfl
    have y1 := hT.cell 1 _ rfl
    have x0 := hH.cell 0 _ rfl
    have x1 := hH.cell 1 _ rfl
    have x2 := hH.cell 2 _ rfl
    go_wp2_with fail
    refine start_ (ds := [4]) (S := (fun w' => Keeps None w1 w')) #[false, false, false, false, false, false] (by kernel_rfl) rfl rfl ((Keeps.refl _ _).drew) (fun hS0 => ?_)
    refine take_ (i := 0) (N := some 12) (v := .agg #[.int .i64 t1, .int .i64 t2]) #[true, false, false, false, false, false] rfl rfl (by kernel_rfl) (fun _ _ _ h => h) (Or.inl ⟨wanted_none rfl, by intro w' hSw; have q0 := hSw.cell y0 id; have q1 := hSw.cell y1 id; go_simp⟩) hS0 rfl ?_
    try simp only [Act.put, List.setIfInBounds_toArray, List.set_cons_zero, List.set_cons_succ]
    refine pure_ (i := 1) (N := some 13) (v := .slice B ys.length cap') #[true, true, false, false, false, false] rfl rfl (by kernel_rfl) (fun _ _ _ h => h) (Or.inl ⟨wanted_none rfl, fun w => by rfl⟩) rfl ?_
    try simp only [Act.put, List.setIfInBounds_toArray, List.set_cons_zero, List.set_cons_succ]
    refine one_ (i := 2) (oi := ({ dst := some 14, op := Op.call { callee := Callee.value (Operand.func 36), args := #[Operand.tmp 13], argTypes := #[24] }, type := 24, pos := "register.go:15", after := #[{ on := 1, ground := Ground.data }], guard := Option.none } : Oper)) (N := some 14) #[true, true, true, false, false, false] rfl rfl (by kernel_rfl) (by decide) ?_
    intro KK hKK
    refine goes_ Try.func36 (by kernel_rfl) rfl #[.slice B ys.length cap'] (wanted_none rfl) rfl rfl (by simp [Act.eval]) ?_
    refine (clone_any B ys.length cap' ys _ ((hY.grew KW).grew hS0) rfl (by omega)).mono ?_
    rintro e w2 ⟨vw, rfl, hrow, hk2⟩
    obtain ⟨Av, cv, rfl⟩ := hrow.slice
    refine ⟨_, rfl, hKK.out _ _ (hS0.trans hk2) (fun hS1 => ?_)⟩
    try simp only [Act.put, List.setIfInBounds_toArray, List.set_cons_zero, List.set_cons_succ]
    refine pure_ (i := 3) (N := some 15) (v := .agg #[.int .i64 t1, .int .i64 t2, .slice Av ys.length cv]) #[true, true, true, true, false, false] rfl rfl (by kernel_rfl) (fun _ _ _ h => h) (Or.inl ⟨wanted_none rfl, fun w => by go_simp⟩) rfl ?_
    try simp only [Act.put, List.setIfInBounds_toArray, List.set_cons_zero, List.set_cons_succ]
    have hZ2 := hZ.grew hS1
    have g0 := hZ2.cell 0 _ rfl
    have g1 := hZ2.cell 1 _ rfl
    have g2 := hZ2.cell 2 _ rfl
    have e0 := hZ2.free 0
    have e1 := hZ2.free 1
    have e2 := hZ2.free 2
    have KS := hS1
    refine last_ (i := 4) (oi := ({ dst := Option.none, op := Op.store 26 (Operand.tmp 6) (Operand.tmp 15), type := 0, pos := "register.go:15", after := #[{ on := 3, ground := Ground.data }, { on := 2, ground := Ground.chain }, { on := 0, ground := Ground.phase }, { on := 1, ground := Ground.phase }, { on := 2, ground := Ground.phase }, { on := 3, ground := Ground.phase }], guard := Option.none } : Oper)) (N := Option.none) #[true, true, true, true, true, false] rfl rfl (by kernel_rfl) (by decide) ?_
    intro KK hKK
    refine skip_ (wanted_none rfl) rfl (w1 := ((w2.setCell ⟨w.heap.size + 1 + 1, 0, Option.none⟩ (.int .i64 t1)).setCell ⟨w.heap.size + 1 + 1, 1, Option.none⟩ (.int .i64 t2)).setCell ⟨w.heap.size + 1 + 1, 2, Option.none⟩ (.slice Av ys.length cv)) (by go_simp) (hKK.out _ _ ?_)
    try simp only [Act.put, List.setIfInBounds_toArray, List.set_cons_zero, List.set_cons_succ]
    refine pure_ (i := 5) (N := some 7) (v := .bool true) #[true, true, true, true, true, true] rfl rfl (by kernel_rfl) (fun _ _ _ h => h) (Or.inl ⟨wanted_none rfl, fun w => by rfl⟩) rfl ?_
    try simp only [Act.put, List.setIfInBounds_toArray, List.set_cons_zero, List.set_cons_succ]
    refine done_ (by kernel_rfl) ?_
    go_wp2_with fail
    have hZ3 := ((hZ2.set 0 (.int .i64 t1)).set 1 (.int .i64 t2)).set 2 (.slice Av ys.length cv)
    simp only [List.set] at hZ3
    have ks : Keeps (One (w.heap.size + 1 + 1)) w2 (((w2.setCell ⟨w.heap.size + 1 + 1, 0, Option.none⟩ (.int .i64 t1)).setCell ⟨w.heap.size + 1 + 1, 1, Option.none⟩ (.int .i64 t2)).setCell ⟨w.heap.size + 1 + 1, 2, Option.none⟩ (.slice Av ys.length cv)) := keeps_three _ _ _ _ _
    have hKw := KW.size
    refine ⟨rfl, _, results_nx _ _ (w.heap.size + 1 + 1) _ _ _ _ rfl rfl (hZ3.cell 0 _ rfl) (hZ3.cell 1 _ rfl) (hZ3.cell 2 _ rfl), _, rfl, (hrow.down (by simpa using hKw)).keeps ks (fun b hb e => ?_), (KW.trans KS).andThen ks (fun i hi e => by simp only [One] at e; omega)⟩
    have := (hrow.lt b hb).1
    simp only [One, World.drew] at e this
    omega
end Go.Proofs.Ytcihfjfbcfgidaa
