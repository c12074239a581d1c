/- cairnlaw6.known: two answers of three are enough: the closed sentence that every Tally statement asks first. -/
import Derived.Test.YtghbgcmhahndkaaTallyGots
namespace Go.Proofs.Ytghbgcmhahndkaa
open Go.RowKit Go.Maps

theorem Keeps.bm {w a b : World} {bm : Nat} (h : Keeps None w a) (hk : Keeps (One bm) a b) (hb : w.heap.size ≤ bm) : Keeps None w b := h.andThen hk (fun i hi e => by cases e; omega)

def Known (w : World) (e : Ending) (w' : World) : Prop := e = .returned (.bool true) ∧ Keeps None w w'

/-- The block of numbers that was just laid. -/
theorem nums_new (w : World) (zs : List Int) : Nums .i64 (w.alloc (.cells (zs.map (Value.int .i64)).toArray 3)) (some ⟨w.heap.size, 0, Option.none⟩) zs :=
  (Blk.new w 3 (zs.map (Value.int .i64))).nums 0 zs (by simp [List.take_of_length_le])

set_option maxRecDepth 100000 in
set_option maxHeartbeats 3200000 in
theorem known_any (w : World) : Calls Try.prog 14 #[] w (Known w) := by
  have wf : ∀ s ∈ ([3, 1, 2] : List Int), (Lit.int .i64 s).wf = true := by decide
  have WF := Lib.hid wf
  have k0 : Keeps None w (w.alloc (.cells #[.int .i64 3, .int .i64 1, .int .i64 2] 3)) := (Keeps.refl _ _).alloc _
  have K0 := Lib.hid k0
  have n0 : Nums .i64 (w.alloc (.cells #[.int .i64 3, .int .i64 1, .int .i64 2] 3)) (some ⟨w.heap.size, 0, Option.none⟩) [3, 1, 2] := nums_new w [3, 1, 2]
  have N0 := Lib.hid n0
  clear wf k0 n0
  go_enter Try.func14, Try.ntmps14
  go_wp2_with fail
  refine (new_any (some ⟨w.heap.size, 0, Option.none⟩) 3 3 [3, 1, 2] 2 _ N0.out rfl (by omega)).mono ?_
  rintro e w1 ⟨v, rfl, hT, hk⟩
  obtain ⟨g, hg⟩ : ∃ g, g = (w.alloc (.cells #[.int .i64 3, .int .i64 1, .int .i64 2] 3)).heap.size + 1 := ⟨_, rfl⟩
  obtain ⟨b, hb⟩ : ∃ b, b = (w.alloc (.cells #[.int .i64 3, .int .i64 1, .int .i64 2] 3)).heap.size := ⟨_, rfl⟩
  rw [← hg, ← hb] at hT
  rw [← hg]
  have hbw : w.heap.size ≤ b := by rw [hb]; simp
  have hK := K0.out.trans hk
  clear hg hb hk N0 K0
  have hT : Tal w1 g b v [3, 1, 2] 2 b [] := hT
  go_wp2_with fail
  refine (enough_any g b v [3, 1, 2] 2 b [] w1 hT).mono ?_
  rintro e w2 ⟨hd, rfl⟩
  have hT2 := Drew.tal hT hd
  have hK2 := hK.trans (hd.keeps None)
  clear hT hK hd
  rw [show decide ((2 : Int) ≤ (([] : List (Int × Int)).length : Int)) = false from rfl]
  go_wp2_with fail
  refine (take_any g b v [3, 1, 2] 2 b [] 1 5 w2 hT2 (by decide) (by decide) (by decide) (by decide)).mono ?_
  rintro e w3 ⟨rfl, hT3, hk3⟩
  have hK3 := hK2.bm hk3 hbw
  have hT3 : Tal w3 g b v [3, 1, 2] 2 b [(1, 5)] := hT3
  rw [show TookB [3, 1, 2] 2 [] 1 = false from rfl]
  clear hT2 hK2 hk3
  go_wp2_with fail
  refine (take_any g b v [3, 1, 2] 2 b [(1, 5)] 1 6 w3 hT3 (by decide) (by decide) (by decide) (by decide)).mono ?_
  rintro e w4 ⟨rfl, hT4, hk4⟩
  have hK4 := hK3.bm hk4 hbw
  have hT4 : Tal w4 g b v [3, 1, 2] 2 b [(1, 5)] := hT4
  rw [show TookB [3, 1, 2] 2 [(1, 5)] 1 = false from rfl]
  clear hT3 hK3 hk4
  go_wp2_with fail
  refine (take_any g b v [3, 1, 2] 2 b [(1, 5)] 9 7 w4 hT4 (by decide) (by decide) (by decide) (by decide)).mono ?_
  rintro e w5 ⟨rfl, hT5, hk5⟩
  have hK5 := hK4.bm hk5 hbw
  have hT5 : Tal w5 g b v [3, 1, 2] 2 b [(1, 5)] := hT5
  rw [show TookB [3, 1, 2] 2 [(1, 5)] 9 = false from rfl]
  clear hT4 hK4 hk5
  go_wp2_with fail
  refine (take_any g b v [3, 1, 2] 2 b [(1, 5)] 3 8 w5 hT5 (by decide) (by decide) (by decide) (by decide)).mono ?_
  rintro e w6 ⟨rfl, hT6, hk6⟩
  have hK6 := hK5.bm hk6 hbw
  have hT6 : Tal w6 g b v [3, 1, 2] 2 b [(1, 5), (3, 8)] := hT6
  rw [show TookB [3, 1, 2] 2 [(1, 5)] 3 = true from rfl]
  clear hT5 hK5 hk6
  go_wp2_with fail
  refine (take_any g b v [3, 1, 2] 2 b [(1, 5), (3, 8)] 2 9 w6 hT6 (by decide) (by decide) (by decide) (by decide)).mono ?_
  rintro e w7 ⟨rfl, hT7, hk7⟩
  have hK7 := hK6.bm hk7 hbw
  have hT7 : Tal w7 g b v [3, 1, 2] 2 b [(1, 5), (3, 8)] := hT7
  rw [show TookB [3, 1, 2] 2 [(1, 5), (3, 8)] 2 = false from rfl]
  clear hT6 hK6 hk7
  go_wp2_with fail
  refine (enough_any g b v [3, 1, 2] 2 b [(1, 5), (3, 8)] w7 hT7).mono ?_
  rintro e w8 ⟨hd, rfl⟩
  have hT8 := Drew.tal hT7 hd
  have hK8 := hK7.trans (hd.keeps None)
  clear hT7 hK7 hd
  rw [show decide ((2 : Int) ≤ (([(1, 5), (3, 8)] : List (Int × Int)).length : Int)) = true from rfl]
  go_wp2_with fail
  refine (got_any g b v [3, 1, 2] 2 b [(1, 5), (3, 8)] w8 hT8 WF.out (by decide)).mono ?_
  rintro e w9 ⟨v1, v2, rfl, hr1, hr2, hk9⟩
  have hr1 : Row .i64 3 w9 w8.heap.size v1 [3, 1] := hr1
  have hr2 : Row .i64 3 w9 w8.heap.size v2 [8, 5] := hr2
  have hT9 := hT8.grew hk9
  have hK9 := hK8.trans hk9
  clear hT8 hK8 hk9
  obtain ⟨A1, c1, rfl, -, m1, -⟩ := hr1.open_
  obtain ⟨A2, c2, rfl, -, m2, -⟩ := hr2.open_
  clear hr1 hr2
  go_wp2_with fail
  refine (sameints_any A1 2 c1 [3, 1] (some ⟨w9.heap.size, 0, Option.none⟩) 2 2 [3, 1] _ (m1.grew ((Keeps.refl _ _).alloc _)) rfl (nums_new w9 [3, 1]) rfl (by omega)).mono ?_
  rintro e wa ⟨rfl, hda⟩
  have hka : Keeps None w9 wa := ((Keeps.refl _ _).alloc _).trans (hda.keeps None)
  rw [show SameB [3, 1] [3, 1] = true from rfl]
  have m2a := m2.grew hka
  have hTa := hT9.grew hka
  have hKa := hK9.trans hka
  clear m1 m2 hT9 hK9 hda hka
  go_wp2_with fail
  refine (sameints_any A2 2 c2 [8, 5] (some ⟨wa.heap.size, 0, Option.none⟩) 2 2 [8, 5] _ (m2a.grew ((Keeps.refl _ _).alloc _)) rfl (nums_new wa [8, 5]) rfl (by omega)).mono ?_
  rintro e wb ⟨rfl, hdb⟩
  have hkb : Keeps None wa wb := ((Keeps.refl _ _).alloc _).trans (hdb.keeps None)
  rw [show SameB [8, 5] [8, 5] = true from rfl]
  have hTb := hTa.grew hkb
  have hKb := hKa.trans hkb
  clear m2a hTa hKa hdb hkb
  go_wp2_with fail
  refine (missing_any g b v [3, 1, 2] 2 b [(1, 5), (3, 8)] wb hTb WF.out (by decide)).mono ?_
  rintro e wc ⟨v3, rfl, hr3, hkc⟩
  have hr3 : Row .i64 3 wc wb.heap.size v3 [2] := hr3
  obtain ⟨A3, c3, rfl, -, m3, -⟩ := hr3.open_
  have hKc := hKb.trans hkc
  clear hTb hKb hkc hr3
  go_wp2_with fail
  refine (sameints_any A3 1 c3 [2] (some ⟨wc.heap.size, 0, Option.none⟩) 1 1 [2] _ (m3.grew ((Keeps.refl _ _).alloc _)) rfl (nums_new wc [2]) rfl (by omega)).mono ?_
  rintro e wd ⟨rfl, hdd⟩
  rw [show SameB [2] [2] = true from rfl]
  go_wp2_with fail
  go_ret
  exact ⟨rfl, (hKc.alloc _).trans (hdd.keeps None)⟩
end Go.Proofs.Ytghbgcmhahndkaa
