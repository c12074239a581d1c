/- The lists that the Tally statements lend: Lend, Back. -/
import Derived.Test.YtghbgcmhahndkaaKnown
import Derived.Outline
namespace Go.Proofs.Ytghbgcmhahndkaa
open Go.RowKit

theorem Try.sizeI64 : (Try.prog.info? 3).map (·.size) = some 1 := by kernel_rfl

theorem zeros_i64 (n : Nat) : (madeCells #[Value.int .i64 0] n).toList = List.replicate n (Value.int .i64 0) := by
  unfold madeCells
  apply List.ext_getElem
  · simp
  · intro i h1 h2
    simp [Nat.mod_one]

/-- What is lent: n cells of zs, then sixty-seven marks (k of them laid already). -/
def lentCells (zs : List Int) (k : Nat) : List Value := zs.map (Value.int .i64) ++ (List.replicate k (Value.int .i64 (-77)) ++ List.replicate (67 - k) (Value.int .i64 0))

def Lent (w : World) (zs : List Int) (e : Ending) (w' : World) : Prop :=
  ∃ g, e = .returned (.slice (some ⟨g, 0, none⟩) zs.length (zs.length + 67)) ∧ w.heap.size ≤ g ∧ Blk w' g 3 (lentCells zs 67) ∧ Keeps None w w'

theorem lentCells_step (zs : List Int) (k : Nat) (hk : k < 67) : (lentCells zs k).set (zs.length + k) (.int .i64 (-77)) = lentCells zs (k + 1) := by
  unfold lentCells
  rw [List.set_append_right _ _ (by simp)]
  congr 1
  simp only [List.length_map, Nat.add_sub_cancel_left]
  rw [List.set_append_right _ _ (by simp)]
  simp only [List.length_replicate, Nat.sub_self]
  have e1 : (67 - k) = (67 - (k + 1)) + 1 := by omega
  rw [e1, List.replicate_succ, List.set_cons_zero, List.replicate_succ' (n := k)]
  simp

theorem lentCells_splice (zs : List Int) : splice (List.replicate (zs.length + 67) (Value.int .i64 0)) 0 (zs.map (Value.int .i64)) = lentCells zs 0 := by
  unfold splice lentCells
  simp

theorem lentCells_length (zs : List Int) (k : Nat) (hk : k ≤ 67) : (lentCells zs k).length = zs.length + 67 := by
  unfold lentCells; simp; omega

theorem lentCells_nums {w : World} {g t : Nat} {zs : List Int} {k : Nat} (h : Blk w g t (lentCells zs k)) : Nums .i64 w (some ⟨g, 0, none⟩) zs :=
  h.nums 0 zs (by unfold lentCells; simp)

set_option maxRecDepth 100000 in
set_option maxHeartbeats 800000 in
theorem lend_any (A : Option Addr) (n cap : Nat) (zs : List Int) (w : World) (hA : Nums .i64 w A zs) (hn : zs.length = n) (hr : n ≤ 17592186043904) :
    Calls Try.prog 15 #[.slice A n cap] w (Lent w zs) := by
  obtain ⟨i0, hi, hz0, hz1, hz2⟩ := info_parts Try.infoI64
  subst hn
  go_enter Try.func15, Try.ntmps15
  go_wp2_with (at_make; refine wpList_make_full _ rfl _ _ 27 rfl w.heap.size 3 i0 (.int .i64 0) 1 Try.underlying27 hi hz0 hz1 _ _ _ _ (zs.length + 67) rfl rfl (by omega) (by omega) (by rw [hz2]; omega) (by unfold maxLen; omega) (by omega) ?_)
  intro w1 hown hgrow
  rw [zeros_i64] at hown
  have hb1 : Blk w1 w.heap.size 3 (List.replicate (zs.length + 67) (Value.int .i64 0)) := Blk.of_full hown
  have hB1 : Below w.heap.size w w1 := (Below.refl _ _).grown hgrow (Nat.le_refl _) (by simp)
  have hA1 : Nums .i64 w1 A zs := hA.grew ((Keeps.refl _ _).grown hgrow (by simp))
  clear hown hgrow
  go_wp2_with (with_reducible refine wpList_copy_splice rfl (.tmp 9) (.tmp 10) 27 27 rfl 3 Try.underlying27 Try.sizeI64 _ _ _ _ _ _ rfl rfl w.heap.size 0 _ 3 hb1.raw (zs.map (Value.int .i64)) (copy_len _ _ _ (Nat.le_add_right _ _)) (fun h0 => ⟨rfl, hA1.src h0⟩) (copy_fits _ _ _ (by rw [List.length_replicate]; exact Nat.le_add_right _ _)) (ints_oneCell _ _) w.heap.size w hB1 (Nat.le_refl _) ?_)
  intro w2 hb2 hB2
  have hb2 : Blk w2 w.heap.size 3 (lentCells zs 0) := by have := hb2.out; rw [lentCells_splice] at this; exact this
  clear hb1 hB1 hA1 hA
  go_wp2
  go_loopw [4] (fun i wr => ∃ k : Nat, k ≤ 67 ∧ i = .int .i64 ((zs.length : Int) + k) ∧ Blk wr w.heap.size 3 (lentCells zs k) ∧ Below w.heap.size w wr) (fun i _ => zs.length + 67 - (intOf i).toNat)
  case atStart => exact ⟨0, by omega, by go_num, hb2, hB2⟩
  case round =>
    clear hb2 hB2
    obtain ⟨k, hk, rfl, hb, hB⟩ := hrel
    by_cases hlt : k < 67
    · have hf := hb.free (zs.length + k)
      obtain ⟨v0, hcell⟩ := hb.has (zs.length + k) (by rw [lentCells_length zs k hk]; omega)
      go_wp2
      go_roundw
      case rel => exact ⟨k + 1, by omega, by go_num, by rw [← lentCells_step zs k hlt]; exact hb.set _ _, hB.setCell (Nat.le_refl _) _⟩
      case measure => simp [intOf]; omega
    · have hk5 : k = 67 := by omega
      subst hk5
      go_wp2
      go_ret
      exact ⟨w.heap.size, rfl, Nat.le_refl _, hb, (Keeps.refl None w).of_below hB (fun k h1 h2 => by omega)⟩


theorem lentCells_mark (zs : List Int) (k : Nat) (hk : k < 67) : (lentCells zs 67)[zs.length + k]? = some (.int .i64 (-77)) := by
  unfold lentCells
  rw [List.getElem?_append_right (by rw [List.length_map]; exact Nat.le_add_right _ _), List.length_map, Nat.add_sub_cancel_left, List.getElem?_append_left (by rw [List.length_replicate]; exact hk), List.getElem?_replicate, if_pos hk]

set_option maxRecDepth 100000 in
set_option maxHeartbeats 800000 in
theorem back_any (g n : Nat) (zs : List Int) (B : Option Addr) (m cap' : Nat) (w : World) (hg : Blk w g 3 (lentCells zs 67)) (hn : zs.length = n) (hB : Nums .i64 w B zs) (hm : zs.length = m) (hr : n ≤ 17592186043904) :
    Calls Try.prog 17 #[.slice (some ⟨g, 0, none⟩) n (n + 67), .slice B m cap'] w (fun e w' => e = .returned (.bool true) ∧ Drew w w') := by
  have hS := sameints_any (some ⟨g, 0, none⟩) n (n + 67) zs B m cap' zs w (lentCells_nums hg) hn hB hm (by omega)
  subst hn
  subst hm
  have HS := Lib.hid hS
  clear hS hB
  go_enter Try.func17, Try.ntmps17
  go_wp2
  go_loopw [6] (fun i wr => ∃ k : Nat, k ≤ 67 ∧ i = .int .i64 ((zs.length : Int) + k) ∧ wr = w) (fun i _ => zs.length + 67 - (intOf i).toNat)
  case atStart => exact ⟨0, by omega, by go_num, rfl⟩
  case round =>
    obtain ⟨k, hk, rfl, rfl⟩ := hrel
    by_cases hlt : k < 67
    · have hc := hg.cell (zs.length + k) _ (lentCells_mark zs k hlt)
      go_wp2
      go_roundw
      case rel => exact ⟨k + 1, by omega, by go_num, by first | trivial | rfl⟩
      case measure => simp [intOf]; omega
    · obtain rfl : k = 67 := by omega
      go_wp2_with fail
      refine HS.out.mono ?_
      rintro e w1 ⟨rfl, hd⟩
      rw [show SameB zs zs = true from by simp [SameB]]
      go_wp2_with fail
      go_ret
      exact ⟨rfl, hd⟩
end Go.Proofs.Ytghbgcmhahndkaa
