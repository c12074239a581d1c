/- The reference's New. -/
import Derived.Test.YtghbgcmhahndkaaRefGot
import Derived.Test.YtghbgcmhahndkaaLendI
import Derived.Deep.OwnRows
namespace Go.Proofs.Ytghbgcmhahndkaa
open Go.RowKit Go.Maps
set_option linter.unusedVariables false

theorem Try.infoBool : (Try.prog.info? 4).map (fun i => (i.zero, i.size, i.bytes)) = some (some (.bool false), 1, 1) := by kernel_rfl
theorem zeros_bool (n : Nat) : (madeCells #[Value.bool false] n).toList = List.replicate n (Value.bool false) := by
  unfold madeCells
  apply List.ext_getElem
  · simp
  · intro i h1 h2
    simp [Nat.mod_one]

theorem three_new (w : World) (a b c : Obj) : (((w.alloc a).alloc b).alloc c).heap[w.heap.size]? = some a ∧ (((w.alloc a).alloc b).alloc c).heap[w.heap.size + 1]? = some b ∧ (((w.alloc a).alloc b).alloc c).heap[w.heap.size + 1 + 1]? = some c := by
  refine ⟨?_, ?_, ?_⟩
  · rw [Below.heap_alloc _ _ _ (by simp; omega), Below.heap_alloc _ _ _ (by simp), heap_alloc_new]
  · rw [Below.heap_alloc _ _ _ (by simp)]
    have := heap_alloc_new (w.alloc a) b
    rwa [World.size_alloc] at this
  · have := heap_alloc_new ((w.alloc a).alloc b) c
    rwa [World.size_alloc, World.size_alloc] at this

def RNew (l : List Int) (need : Int) (w : World) (e : Ending) (w' : World) : Prop :=
  ∃ r G bv bh, e = .returned (.pointer (some ⟨r, 0, Option.none⟩)) ∧ RT w' r w.heap.size G bv bh (uniqF l) need [] ∧ Keeps None w w'

set_option maxRecDepth 100000 in
set_option maxHeartbeats 1600000 in
theorem refnew_any (A : Option Addr) (n cap : Nat) (l : List Int) (need : Int) (w : World) (hA : Nums .i64 w A l) (hn : l.length = n) (hr : n ≤ 17592186044416) :
    Calls Try.prog 18 #[.slice A n cap, .int .i64 need] w (RNew l need w) := by
  have hul := uniqF_len l
  go_enter Try.func18, Try.ntmps18
  go_wp2_with fail
  refine (unlike_any A n cap l w hA hn hr).mono ?_
  rintro e w1 ⟨v, rfl, hr1, hk1⟩
  obtain ⟨us, hus⟩ : ∃ us, us = uniqF l := ⟨_, rfl⟩
  rw [← hus] at hr1 hul
  have HUS := Lib.hid hus
  clear hus
  obtain ⟨A1, c1, rfl⟩ := hr1.slice
  have hs1 := hk1.size
  obtain ⟨C0, hC0⟩ : ∃ C, C = madeCells #[Value.int .i64 0] us.length := ⟨_, rfl⟩
  obtain ⟨C1, hC1⟩ : ∃ C, C = madeCells #[Value.bool false] us.length := ⟨_, rfl⟩
  have hm0 : ∀ w : World, (Instr.makeSlice 27 (.int .i64 (us.length : Int)) (.int .i64 (us.length : Int))).run Try.prog w = .ok (.slice (some ⟨w.heap.size, 0, Option.none⟩) us.length us.length) (w.alloc (.cells C0 3)) := fun w => by
    rw [hC0]
    exact run_make_row' 27 3 (.int .i64 0) 8 Try.underlying27 Try.infoI64 rfl .i64 .i64 us.length (by omega) (by omega) w
  have hm1 : ∀ w : World, (Instr.makeSlice 86 (.int .i64 (us.length : Int)) (.int .i64 (us.length : Int))).run Try.prog w = .ok (.slice (some ⟨w.heap.size, 0, Option.none⟩) us.length us.length) (w.alloc (.cells C1 4)) := fun w => by
    rw [hC1]
    exact run_make_row' 86 4 (.bool false) 1 Try.underlying86 Try.infoBool rfl .i64 .i64 us.length (by omega) (by omega) w
  have HC0 := Lib.hid hC0
  have HC1 := Lib.hid hC1
  clear hC0 hC1
  go_wp2_with fail
  go_region_with (fail)
  all_goals
    go_wp2_with fail
    go_ret
    have E0 : C0.toList = us.map fun s => Value.int .i64 (valF [] s) := by
      rw [HC0.out, zeros_i64]
      apply List.ext_getElem <;> simp [valF, look_nil]
    have E1 : C1.toList = us.map fun s => Value.bool (look [] s).isSome := by
      rw [HC1.out, zeros_bool]
      apply List.ext_getElem <;> simp [look_nil]
    have hlt := hr1.lt
    rw [HUS.out] at *
  · obtain ⟨b0, b1, b2⟩ := three_new w1 (.cells C0 3) (.cells C1 4) (.cells #[.slice A1 (uniqF l).length c1, .slice (some ⟨w1.heap.size, 0, Option.none⟩) (uniqF l).length (uniqF l).length, .slice (some ⟨w1.heap.size + 1, 0, Option.none⟩) (uniqF l).length (uniqF l).length, .int .i64 need] 88)
    have hk := ((((Keeps.refl None w1).alloc (.cells C0 3)).alloc (.cells C1 4)).alloc (.cells #[.slice A1 (uniqF l).length c1, .slice (some ⟨w1.heap.size, 0, Option.none⟩) (uniqF l).length (uniqF l).length, .slice (some ⟨w1.heap.size + 1, 0, Option.none⟩) (uniqF l).length (uniqF l).length, .int .i64 need] 88)).drew
    refine ⟨w1.heap.size + 1 + 1, .slice A1 (uniqF l).length c1, w1.heap.size, w1.heap.size + 1, rfl, ⟨b2, hr1.grew hk, ?_, ?_, ⟨by omega, by omega, by omega⟩, ⟨by omega, by omega, by omega, fun b e => by have := hlt b e; omega⟩⟩, hk1.trans hk⟩
    · unfold Blk; rw [← E0, Array.toArray_toList]; exact b0
    · unfold Blk; rw [← E1, Array.toArray_toList]; exact b1
  · obtain ⟨b0, b1, b2⟩ := three_new w1 (.cells C1 4) (.cells C0 3) (.cells #[.slice A1 (uniqF l).length c1, .slice (some ⟨w1.heap.size + 1, 0, Option.none⟩) (uniqF l).length (uniqF l).length, .slice (some ⟨w1.heap.size, 0, Option.none⟩) (uniqF l).length (uniqF l).length, .int .i64 need] 88)
    have hk := ((((Keeps.refl None w1).alloc (.cells C1 4)).alloc (.cells C0 3)).alloc (.cells #[.slice A1 (uniqF l).length c1, .slice (some ⟨w1.heap.size + 1, 0, Option.none⟩) (uniqF l).length (uniqF l).length, .slice (some ⟨w1.heap.size, 0, Option.none⟩) (uniqF l).length (uniqF l).length, .int .i64 need] 88)).drew
    refine ⟨w1.heap.size + 1 + 1, .slice A1 (uniqF l).length c1, w1.heap.size + 1, w1.heap.size, rfl, ⟨b2, hr1.grew hk, ?_, ?_, ⟨by omega, by omega, by omega⟩, ⟨by omega, by omega, by omega, fun b e => by have := hlt b e; omega⟩⟩, hk1.trans hk⟩
    · unfold Blk; rw [← E0, Array.toArray_toList]; exact b1
    · unfold Blk; rw [← E1, Array.toArray_toList]; exact b0
end Go.Proofs.Ytghbgcmhahndkaa
