/- The reader's Num, whole. -/
import Derived.Test.YtnhhmkgcgogddaaReading
namespace Go.Proofs.Ytnhhmkgcgogddaa
open Go.RowKit
set_option linter.unusedVariables false

/-- Where a reader stands. -/
structure St where
  p : Nat
  err : Int
  place : Int
def St.at (s : St) (w : World) (g base : Nat) (v : Value) (zs : List Int) : Prop := Rd w g base v zs s.p s.err s.place
def numStep (zs : List Int) (s : St) : Int × St :=
  if s.err = 0 then match numD (decF 0 0 (zs.drop s.p)) with
    | .ok u m => ((u : Int), ⟨s.p + m, 0, s.place⟩)
    | .err k => (0, ⟨s.p, k, s.p⟩)
  else (0, s)

def StepEnd (val : Int → Value) (r : Int × St) (g base : Nat) (v : Value) (zs : List Int) (w : World) (e : Ending) (w' : World) : Prop := e = .returned (val r.1) ∧ r.2.at w' g base v zs ∧ Keeps (One g) w w'

theorem Keeps.one_of_two {w a b : World} {g nc : Nat} (h : Keeps None w a) (hk : Keeps (Two2 g nc) a b) (hn : w.heap.size ≤ nc) : Keeps (One g) w b :=
  h.of_none.andThen hk (fun i hi e => by rcases e with e | e; (exact e); omega)

set_option maxRecDepth 100000 in
set_option maxHeartbeats 1600000 in
theorem rNum_any (g base : Nat) (v : Value) (zs : List Int) (s : St) (w : World) (h : s.at w g base v zs) (hr : zs.length ≤ 140737488351232) (hb : Bytes zs) :
    Calls Try.prog 51 #[.pointer (some ⟨g, 0, Option.none⟩)] w (StepEnd (.int .i64) (numStep zs s) g base v zs w) := by
  obtain ⟨p, err, place⟩ := s
  have h : Rd w g base v zs p err place := h
  obtain ⟨R, hR⟩ : ∃ R, R = StepEnd (.int .i64) (numStep zs ⟨p, err, place⟩) g base v zs w := ⟨_, rfl⟩
  rw [← hR]
  have HR := Lib.hid hR
  clear hR
  go_enter Try.func51, Try.ntmps51
  go_wp2_with fail
  have hk : Keeps None w ((w.alloc (.cells #[.pointer (some ⟨g, 0, Option.none⟩)] 47)).alloc (.cells #[.int .i64 0] 3)) := ((Keeps.refl _ _).alloc _).alloc _
  have hrc := ((Blk.new w 47 [.pointer (some ⟨g, 0, Option.none⟩)]).alloc (.cells #[.int .i64 0] 3)).cell 0 _ rfl
  have hn : Blk ((w.alloc (.cells #[.pointer (some ⟨g, 0, Option.none⟩)] 47)).alloc (.cells #[.int .i64 0] 3)) (w.heap.size + 1) 3 [.int .i64 0] := by
    have := Blk.new (w.alloc (.cells #[.pointer (some ⟨g, 0, Option.none⟩)] 47)) 3 [.int .i64 0]
    rwa [World.size_alloc] at this
  have hgl := h.blk.lt
  have hvl := fun b (e : v.ownBlock = some b) => (h.row.lt b e).2
  obtain ⟨w1, hw1⟩ : ∃ w1, w1 = (w.alloc (.cells #[.pointer (some ⟨g, 0, Option.none⟩)] 47)).alloc (.cells #[.int .i64 0] 3) := ⟨_, rfl⟩
  rw [← hw1] at hk hrc hn ⊢
  clear hw1
  have h1 := h.grew hk
  by_cases he : err = 0
  · subst he
    refine (reading_num g base v zs p place 0 w.heap.size (w.heap.size + 1) w1 h1 hr hb hrc hn (by omega) (fun b e => by have := hvl b e; omega)).mono ?_
    rintro e w2 (⟨u, m, hd, hu, rfl, hR2, hn2, hk2⟩ | ⟨k, hd, rfl, hR2, hk2⟩)
    · have HD := Lib.hid (show StepEnd (.int .i64) (numStep zs ⟨p, 0, place⟩) g base v zs w (.returned (.int .i64 u)) w2 from by
        unfold numStep; rw [if_pos rfl]; simp only [hd]; exact ⟨rfl, hR2, hk.one_of_two hk2 (by omega)⟩)
      have c := hn2.cell 0 _ rfl
      clear hd
      go_wp2_with fail
      rw [HR.out]; exact HD.out
    · have HD := Lib.hid (show StepEnd (.int .i64) (numStep zs ⟨p, 0, place⟩) g base v zs w (.returned (.int .i64 0)) w2 from by
        unfold numStep; rw [if_pos rfl]; simp only [hd]; exact ⟨rfl, hR2, hk.one_of_two hk2 (by omega)⟩)
      clear hd
      go_wp2_with fail
      rw [HR.out]; exact HD.out
  · refine (reading_busy g base v zs p err place _ w1 h1 he).mono ?_
    rintro e w2 ⟨rfl, hk2⟩
    have HD := Lib.hid (show StepEnd (.int .i64) (numStep zs ⟨p, err, place⟩) g base v zs w (.returned (.int .i64 0)) w2 from by
      unfold numStep; rw [if_neg he]; exact ⟨rfl, h1.grew hk2, (hk.trans hk2).of_none⟩)
    go_wp2_with fail
    rw [HR.out]; exact HD.out
end Go.Proofs.Ytnhhmkgcgogddaa
