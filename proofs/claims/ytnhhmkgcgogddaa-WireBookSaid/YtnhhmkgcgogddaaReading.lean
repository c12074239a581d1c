/- The reader's reading, with the closure that reads a number. -/
import Derived.Test.YtnhhmkgcgogddaaCatch
namespace Go.Proofs.Ytnhhmkgcgogddaa
open Go.RowKit
set_option linter.unusedVariables false

theorem results_ok (tmps : Array Value) (w : World) (k : Nat) (b : Bool) (hp : tmps.getD 4 undef = .pointer (some ⟨k, 0, Option.none⟩)) (hc : w.cell? ⟨k, 0, Option.none⟩ = some (.bool b)) :
    (results Try.f62 tmps).run Try.prog w = .ok (.bool b) w := by
  have hp' : tmps[4]?.getD undef = .pointer (some ⟨k, 0, Option.none⟩) := by simpa using hp
  simp [results, Try.results62, go_sem, hp', hc, asAddr]

set_option maxRecDepth 100000 in
set_option maxHeartbeats 1600000 in
theorem reading_busy (g base : Nat) (v : Value) (zs : List Int) (p : Nat) (err place : Int) (f : Value) (w : World) (h : Rd w g base v zs p err place) (he : ¬ err = 0) :
    Calls Try.prog 62 #[.pointer (some ⟨g, 0, Option.none⟩), f] w (fun e w' => e = .returned (.bool false) ∧ Keeps None w w') := by
  have hk : Keeps None w ((w.alloc (.cells #[.pointer (some ⟨g, 0, Option.none⟩)] 47)).alloc (.cells #[.bool false] 4)) := ((Keeps.refl _ _).alloc _).alloc _
  have hh := h.grew hk
  have c2 := hh.blk.cell 2 _ rfl
  have hb := Blk.new (w.alloc (.cells #[.pointer (some ⟨g, 0, Option.none⟩)] 47)) 4 [.bool false]
  rw [World.size_alloc] at hb
  have hr := ((Blk.new w 47 [.pointer (some ⟨g, 0, Option.none⟩)]).alloc (.cells #[.bool false] 4)).cell 0 _ rfl
  have fk := hb.free 0
  have gk := hb.cell 0 _ rfl
  obtain ⟨t1, t2⟩ := test_ne he
  go_enter_defers Try.func62, Try.ntmps62
  go_wp2_with fail
  refine ⟨.bool false, results_ok _ _ _ false rfl gk, rfl, hk⟩

def NumRead (g base : Nat) (v : Value) (zs : List Int) (p : Nat) (place : Int) (nc : Nat) (w : World) (e : Ending) (w' : World) : Prop :=
  (∃ u m, numD (decF 0 0 (zs.drop p)) = .ok u m ∧ u < 9223372036854775808 ∧ e = .returned (.bool true) ∧ Rd w' g base v zs (p + m) 0 place ∧ Blk w' nc 3 [.int .i64 u] ∧ Keeps (Two2 g nc) w w') ∨
  (∃ k, numD (decF 0 0 (zs.drop p)) = .err k ∧ e = .returned (.bool false) ∧ Rd w' g base v zs p k p ∧ Keeps (Two2 g nc) w w')

set_option maxRecDepth 100000 in
set_option maxHeartbeats 1600000 in
theorem reading_num (g base : Nat) (v : Value) (zs : List Int) (p : Nat) (place x : Int) (rc nc : Nat) (w : World) (h : Rd w g base v zs p 0 place) (hr : zs.length ≤ 140737488351232) (hb : Bytes zs)
    (hrc : w.cell? ⟨rc, 0, Option.none⟩ = some (.pointer (some ⟨g, 0, Option.none⟩))) (hn : Blk w nc 3 [.int .i64 x]) (hne : g ≠ nc) (hvn : ∀ b, v.ownBlock = some b → b ≠ nc) :
    Calls Try.prog 62 #[.pointer (some ⟨g, 0, Option.none⟩), .func (.func 63) #[] #[.pointer (some ⟨rc, 0, Option.none⟩), .pointer (some ⟨nc, 0, Option.none⟩)]] w (NumRead g base v zs p place nc w) := by
  have hk : Keeps None w ((w.alloc (.cells #[.pointer (some ⟨g, 0, Option.none⟩)] 47)).alloc (.cells #[.bool false] 4)) := ((Keeps.refl _ _).alloc _).alloc _
  have hh := h.grew hk
  have c1 := hh.blk.cell 1 _ rfl
  have c2 := hh.blk.cell 2 _ rfl
  have hr0 := ((Blk.new w 47 [.pointer (some ⟨g, 0, Option.none⟩)]).alloc (.cells #[.bool false] 4)).cell 0 _ rfl
  go_enter_defers Try.func62, Try.ntmps62
  go_wp2_with fail
  have k3 : Keeps None w (((w.alloc (.cells #[.pointer (some ⟨g, 0, Option.none⟩)] 47)).alloc (.cells #[.bool false] 4)).alloc (.cells #[.int .i64 p] 3)) := hk.alloc _
  have b1 : Blk (((w.alloc (.cells #[.pointer (some ⟨g, 0, Option.none⟩)] 47)).alloc (.cells #[.bool false] 4)).alloc (.cells #[.int .i64 p] 3)) w.heap.size 47 [.pointer (some ⟨g, 0, Option.none⟩)] := ((Blk.new w 47 [.pointer (some ⟨g, 0, Option.none⟩)]).alloc _).alloc _
  have b2 : Blk (((w.alloc (.cells #[.pointer (some ⟨g, 0, Option.none⟩)] 47)).alloc (.cells #[.bool false] 4)).alloc (.cells #[.int .i64 p] 3)) (w.heap.size + 1) 4 [.bool false] := by
    have := (Blk.new (w.alloc (.cells #[.pointer (some ⟨g, 0, Option.none⟩)] 47)) 4 [.bool false]).alloc (.cells #[.int .i64 p] 3)
    rwa [World.size_alloc] at this
  have b3 : Blk (((w.alloc (.cells #[.pointer (some ⟨g, 0, Option.none⟩)] 47)).alloc (.cells #[.bool false] 4)).alloc (.cells #[.int .i64 p] 3)) (w.heap.size + 1 + 1) 3 [.int .i64 p] := by
    have := Blk.new ((w.alloc (.cells #[.pointer (some ⟨g, 0, Option.none⟩)] 47)).alloc (.cells #[.bool false] 4)) 3 [.int .i64 p]
    rwa [World.size_alloc, World.size_alloc] at this
  obtain ⟨w3, hw3⟩ : ∃ w3, w3 = ((w.alloc (.cells #[.pointer (some ⟨g, 0, Option.none⟩)] 47)).alloc (.cells #[.bool false] 4)).alloc (.cells #[.int .i64 p] 3) := ⟨_, rfl⟩
  rw [← hw3] at k3 b1 b2 b3 ⊢
  clear hw3 hh c1 c2 hr0 hk
  have hgl := h.blk.lt
  have hnl := hn.lt
  obtain ⟨m1, hm1⟩ : ∃ m, m = w.heap.size := ⟨_, rfl⟩
  rw [← hm1] at b1 b2 b3 hgl hnl ⊢
  have HM := Lib.hid hm1
  have hvl : ∀ b, v.ownBlock = some b → b < m1 := fun b e => by rw [hm1]; exact (h.row.lt b e).2
  have HVL := Lib.hid hvl
  clear hm1 hvl
  refine (num1_any g base v zs p place x rc nc w3 (h.grew k3) hr hb (k3.cell hrc id) (hn.grew k3) hne hvn).mono ?_
  rintro e w4 (⟨u, m, hd, hu, rfl, hR4, hn4, hk4⟩ | ⟨k, p', hd, rfl, hR4, hk4⟩)
  · have e1 : ¬ Two2 g nc m1 := fun e => by rcases e with e | e <;> omega
    have e2 : ¬ Two2 g nc (m1 + 1) := fun e => by rcases e with e | e <;> omega
    have b2' := b2.keeps hk4 e2
    have f2 := b2'.free 0
    have g2 := b2'.cell 0 _ rfl
    have hK : Keeps (Two2 g nc) w (w4.setCell ⟨m1 + 1, 0, Option.none⟩ (.bool true)) := (k3.of_none.trans hk4).setCell _ _ (fun e => by have := HM.out; simp at e; omega)
    have hR5 := hR4.keeps (S := One (m1 + 1)) ((Keeps.refl _ _).setCell ⟨m1 + 1, 0, Option.none⟩ (.bool true) (fun _ => rfl)) (fun e => by have : g = m1 + 1 := e; omega) (fun b e f => by have : b = m1 + 1 := f; have := HVL.out b e; omega)
    have hn5 := hn4.other ⟨m1 + 1, 0, Option.none⟩ (.bool true) (by simp; omega)
    have g5 := (b2'.set 0 (.bool true)).cell 0 _ rfl
    have HD := Lib.hid hd
    clear hd
    go_wp2_with fail
    refine leaves_cons (f := 72) (args := #[.pointer (some ⟨m1 + 1 + 1, 0, Option.none⟩), .pointer (some ⟨m1, 0, Option.none⟩), .pointer (some ⟨m1 + 1, 0, Option.none⟩)]) (by simp) (by simp [go_sem]) ?_
    refine (catch_idle _ _ _ _).mono ?_
    rintro e u' w'' ⟨rfl, rfl, rfl⟩
    exact ⟨.bool true, results_ok _ _ (m1 + 1) true rfl g5, .inl ⟨u, m, HD.out, hu, rfl, hR5, hn5, hK⟩⟩
  · have e1 : ¬ Two2 g nc m1 := fun e => by rcases e with e | e <;> omega
    have e2 : ¬ Two2 g nc (m1 + 1) := fun e => by rcases e with e | e <;> omega
    have e3 : ¬ Two2 g nc (m1 + 1 + 1) := fun e => by rcases e with e | e <;> omega
    have b1' := b1.keeps hk4 e1
    have b2' := b2.keeps hk4 e2
    have b3' := b3.keeps hk4 e3
    have HD := Lib.hid hd
    clear hd
    go_wp2_with fail
    refine leaves_cons (f := 72) (args := #[.pointer (some ⟨m1 + 1 + 1, 0, Option.none⟩), .pointer (some ⟨m1, 0, Option.none⟩), .pointer (some ⟨m1 + 1, 0, Option.none⟩)]) (by simp) (by simp [go_sem]) ?_
    refine (catch_fault (m1 + 1 + 1) m1 (m1 + 1) g 4 p k p' 0 place false v w4 (b3'.cell 0 _ rfl) (b1'.cell 0 _ rfl) hR4.blk b2' (by omega) (by omega) (by omega)).mono ?_
    rintro e u' w5 ⟨rfl, rfl, hg5, hk5, hK5⟩
    have hR5 : Rd w5 g base v zs p k p := ⟨hg5, hR4.row.keeps hK5 (fun b e f => by rcases f with f | f; (exact hR4.ne b e f); have := HVL.out b e; omega), hR4.hb, hR4.ne, h.le⟩
    have hK : Keeps (Two2 g nc) w w5 := (k3.of_none.trans hk4).andThen hK5 (fun i hi e => by have := HM.out; rcases e with e | e; (exact .inl e); omega)
    exact ⟨.bool false, results_ok _ _ (m1 + 1) false rfl (hk5.cell 0 _ rfl), .inr ⟨k, HD.out, rfl, hR5, hK⟩⟩
end Go.Proofs.Ytnhhmkgcgogddaa
