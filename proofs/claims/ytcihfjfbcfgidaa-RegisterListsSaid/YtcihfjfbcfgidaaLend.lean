/- The contracts of cairnlaw1.Lend, Same, Back: bytes in memory of their own, five marks behind; byte for byte; lent bytes are as they were, and are written over. -/
import Derived.Test.YtcihfjfbcfgidaaBase
import Derived.Outline
namespace Go.Proofs.Ytcihfjfbcfgidaa
open Go.RowKit

theorem Try.infoU8 : (Try.prog.info? 5).map (fun i => (i.zero, i.size, i.bytes)) = some (some (.int .u8 0), 1, 1) := by kernel_rfl
theorem Try.sizeU8 : (Try.prog.info? 5).map (·.size) = some 1 := by kernel_rfl

theorem zeros_u8 (n : Nat) : (madeCells #[Value.int .u8 0] n).toList = List.replicate n (Value.int .u8 0) := by
  unfold madeCells
  apply List.ext_getElem
  · simp
  · intro i h1 h2
    simp [Nat.mod_one]

/-- What is lent: n cells of zs, then five marks (k of them laid already). -/
def lentCells (zs : List Int) (k : Nat) : List Value := zs.map (Value.int .u8) ++ (List.replicate k (Value.int .u8 169) ++ List.replicate (5 - k) (Value.int .u8 0))

def Lent (w : World) (zs : List Int) (e : Ending) (w' : World) : Prop :=
  ∃ g, e = .returned (.slice (some ⟨g, 0, none⟩) zs.length (zs.length + 5)) ∧ w.heap.size ≤ g ∧ Blk w' g 5 (lentCells zs 5) ∧ Keeps None w w'

theorem lentCells_step (zs : List Int) (k : Nat) (hk : k < 5) : (lentCells zs k).set (zs.length + k) (.int .u8 169) = lentCells zs (k + 1) := by
  unfold lentCells
  rw [List.set_append_right _ _ (by simp)]
  congr 1
  simp only [List.length_map, Nat.add_sub_cancel_left]
  rw [List.set_append_right _ _ (by simp)]
  simp only [List.length_replicate, Nat.sub_self]
  have e1 : (5 - k) = (5 - (k + 1)) + 1 := by omega
  rw [e1, List.replicate_succ, List.set_cons_zero, List.replicate_succ' (n := k)]
  simp

theorem lentCells_splice (zs : List Int) : splice (List.replicate (zs.length + 5) (Value.int .u8 0)) 0 (zs.map (Value.int .u8)) = lentCells zs 0 := by
  unfold splice lentCells
  simp

theorem lentCells_length (zs : List Int) (k : Nat) (hk : k ≤ 5) : (lentCells zs k).length = zs.length + 5 := by
  unfold lentCells; simp; omega

theorem lentCells_nums {w : World} {g t : Nat} {zs : List Int} {k : Nat} (h : Blk w g t (lentCells zs k)) : Nums .u8 w (some ⟨g, 0, none⟩) zs :=
  h.nums 0 zs (by unfold lentCells; simp)

set_option maxRecDepth 100000 in
set_option maxHeartbeats 800000 in
theorem lend_any (A : Option Addr) (n cap : Nat) (zs : List Int) (w : World) (hA : Nums .u8 w A zs) (hn : zs.length = n) (hr : n ≤ 140737488351232) :
    Calls Try.prog 9 #[.slice A n cap] w (Lent w zs) := by
  obtain ⟨i0, hi, hz0, hz1, hz2⟩ := info_parts Try.infoU8
  subst hn
  go_enter Try.func9, Try.ntmps9
  go_wp2_with (at_make; refine wpList_make_full _ rfl _ _ 24 rfl w.heap.size 5 i0 (.int .u8 0) 1 Try.underlying24 hi hz0 hz1 _ _ _ _ (zs.length + 5) rfl rfl (by omega) (by omega) (by rw [hz2]; omega) (by unfold maxLen; omega) (by omega) ?_)
  intro w1 hown hgrow
  rw [zeros_u8] at hown
  have hb1 : Blk w1 w.heap.size 5 (List.replicate (zs.length + 5) (Value.int .u8 0)) := Blk.of_full hown
  have hB1 : Below w.heap.size w w1 := (Below.refl _ _).grown hgrow (Nat.le_refl _) (by simp)
  have hA1 : Nums .u8 w1 A zs := hA.grew ((Keeps.refl _ _).grown hgrow (by simp))
  clear hown hgrow
  go_wp2_with (with_reducible refine wpList_copy_splice rfl (.tmp 9) (.tmp 10) 24 24 rfl 5 Try.underlying24 Try.sizeU8 _ _ _ _ _ _ rfl rfl w.heap.size 0 _ 5 hb1.raw (zs.map (Value.int .u8)) (copy_len _ _ _ (Nat.le_add_right _ _)) (fun h0 => ⟨rfl, hA1.src h0⟩) (copy_fits _ _ _ (by rw [List.length_replicate]; exact Nat.le_add_right _ _)) (ints_oneCell _ _) w.heap.size w hB1 (Nat.le_refl _) ?_)
  intro w2 hb2 hB2
  have hb2 : Blk w2 w.heap.size 5 (lentCells zs 0) := by have := hb2.out; rw [lentCells_splice] at this; exact this
  clear hb1 hB1 hA1 hA
  go_wp2
  go_loopw [4] (fun i wr => ∃ k : Nat, k ≤ 5 ∧ i = .int .i64 ((zs.length : Int) + k) ∧ Blk wr w.heap.size 5 (lentCells zs k) ∧ Below w.heap.size w wr) (fun i _ => zs.length + 5 - (intOf i).toNat)
  case atStart => exact ⟨0, by omega, by go_num, hb2, hB2⟩
  case round =>
    clear hb2 hB2
    obtain ⟨k, hk, rfl, hb, hB⟩ := hrel
    by_cases hlt : k < 5
    · have hf := hb.free (zs.length + k)
      obtain ⟨v0, hcell⟩ := hb.has (zs.length + k) (by rw [lentCells_length zs k hk]; omega)
      go_wp2
      go_roundw
      case rel => exact ⟨k + 1, by omega, by go_num, by rw [← lentCells_step zs k hlt]; exact hb.set _ _, hB.setCell (Nat.le_refl _) _⟩
      case measure => simp [intOf]; omega
    · have hk5 : k = 5 := by omega
      subst hk5
      go_wp2
      go_ret
      exact ⟨w.heap.size, rfl, Nat.le_refl _, hb, (Keeps.refl None w).of_below hB (fun k h1 h2 => by omega)⟩

/-- Byte for byte. -/
def SameB (xs ys : List Int) : Bool := decide (xs = ys)

def SameEnd (xs ys : List Int) (w : World) (e : Ending) (w' : World) : Prop := e = .returned (.bool (SameB xs ys)) ∧ Drew w w'

set_option maxRecDepth 100000 in
set_option maxHeartbeats 800000 in
theorem same_any (A : Option Addr) (n cap : Nat) (xs : List Int) (B : Option Addr) (m cap' : Nat) (ys : List Int) (w : World) (hA : Nums .u8 w A xs) (hn : xs.length = n) (hB : Nums .u8 w B ys) (hm : ys.length = m) (hr : n ≤ 140737488351232) :
    Calls Try.prog 13 #[.slice A n cap, .slice B m cap'] w (SameEnd xs ys w) := by
  subst hn
  subst hm
  by_cases hl : xs.length = ys.length
  · have hlb : (xs.length == ys.length) = true := by simpa using hl
    have hl1 : xs.length ≤ ys.length := by omega
    have hl2 : ys.length ≤ xs.length := by omega
    have HL := Lib.hid hl
    clear hl
    go_enter Try.func13, Try.ntmps13
    go_wp2
    go_loopw [5] (fun i wr => ∃ k : Nat, k ≤ xs.length ∧ i = .int .i64 k ∧ Hid (xs.take k = ys.take k) ∧ Drew w wr) (fun i _ => xs.length - (intOf i).toNat)
    case atStart => exact ⟨0, Nat.zero_le _, rfl, Lib.hid (by simp), Drew.refl w⟩
    case round =>
      obtain ⟨k, hk, rfl, ht, ⟨⟨nd, rfl⟩⟩⟩ := hrel
      by_cases hlt : k < xs.length
      · obtain ⟨x, b1, o1, rfl, hc1, hx⟩ := hA.get k hlt
        obtain ⟨y, b2, o2, rfl, hc2, hy⟩ := hB.get k (by omega)
        have hlt2 : k < ys.length := by omega
        by_cases he : x = y
        · have heb : (x == y) = true := by simpa using he
          have hen : (x != y) = false := by simpa using he
          have HE := Lib.hid he
          clear he
          go_wp2
          go_quiet (fail)
          go_wp2
          go_roundw
          case rel => exact ⟨k + 1, by omega, by go_num, Lib.hid (by rw [take_succ_of hx.out, take_succ_of hy.out, ht.out, HE.out]), ⟨_, rfl⟩⟩
          case measure => simp [intOf]; omega
        · have heb : (x == y) = false := by simpa using he
          have hen : (x != y) = true := by simpa using he
          have HE := Lib.hid he
          clear he
          go_wp2
          go_quiet (fail)
          go_wp2
          go_ret
          refine ⟨ret_bool ?_, by first | exact ⟨_, rfl⟩ | exact (Drew.of w nd).more nq⟩
          symm
          unfold SameB
          refine decide_eq_false fun e => HE.out ?_
          have h1 := hx.out
          rw [e, hy.out] at h1
          exact (Option.some.inj h1).symm
      · go_wp2
        go_ret
        refine ⟨ret_bool ?_, ⟨_, rfl⟩⟩
        symm
        unfold SameB
        refine decide_eq_true ?_
        have h1 := ht.out
        rwa [List.take_of_length_le (by omega), List.take_of_length_le (by omega)] at h1
  · have hlb : (xs.length == ys.length) = false := by simpa using hl
    go_enter Try.func13, Try.ntmps13
    go_wp2
    go_ret
    exact ⟨ret_bool (by unfold SameB; symm; simp; intro e; exact hl (by rw [e])), Drew.refl w⟩
/-! ### Back: lent bytes that lie as they were lent -/
def backCells (k : Nat) (cs : List Value) : List Value := List.replicate k (Value.int .u8 94) ++ cs.drop k

theorem backCells_step (k : Nat) (cs : List Value) (hk : k < cs.length) : (backCells k cs).set k (.int .u8 94) = backCells (k + 1) cs := by
  unfold backCells
  rw [List.set_append_right _ _ (by simp)]
  simp only [List.length_replicate, Nat.sub_self]
  rw [List.drop_eq_getElem_cons hk, List.set_cons_zero, List.replicate_succ' (n := k)]
  simp

theorem lentCells_mark (zs : List Int) (k : Nat) (hk : k < 5) : (lentCells zs 5)[zs.length + k]? = some (.int .u8 169) := by
  unfold lentCells
  rw [List.getElem?_append_right (by simp)]
  rcases (by omega : k = 0 ∨ k = 1 ∨ k = 2 ∨ k = 3 ∨ k = 4) with rfl | rfl | rfl | rfl | rfl <;> simp

def BackEnd (n : Nat) (g : Nat) (w : World) (e : Ending) (w' : World) : Prop := e = .returned (.bool true) ∧ Blk w' g 5 (List.replicate (n + 5) (Value.int .u8 94)) ∧ Keeps (One g) w w'

set_option maxRecDepth 100000 in
set_option maxHeartbeats 1600000 in
theorem back_any (g n : Nat) (zs : List Int) (B : Option Addr) (m cap' : Nat) (w : World) (hg : Blk w g 5 (lentCells zs 5)) (hn : zs.length = n) (hB : Nums .u8 w B zs) (hm : zs.length = m) (hr : n ≤ 140737488351232) :
    Calls Try.prog 12 #[.slice (some ⟨g, 0, none⟩) n (n + 5), .slice B m cap'] w (BackEnd n g w) := by
  have hS := same_any (some ⟨g, 0, none⟩) n (n + 5) zs B m cap' zs w (lentCells_nums hg) hn hB hm hr
  subst hn
  subst hm
  have hST := Lib.hid hS
  clear hS hB
  go_enter Try.func12, Try.ntmps12
  go_wp2_with (go_at_call 13; refine hST.out.mono ?_; rintro e w' ⟨rfl, ⟨⟨nd, rfl⟩⟩⟩; rw [show SameB zs zs = true from by simp [SameB]])
  clear hST
  go_loopw [5, 7] (fun v i wr => ∃ k : Nat, k ≤ 5 ∧ v = .bool true ∧ i = .int .i64 ((zs.length : Int) + k) ∧ Drew w wr) (fun _ i _ => zs.length + 5 - (intOf i).toNat)
  case atStart => exact ⟨0, by omega, rfl, by go_num, ⟨_, rfl⟩⟩
  case round =>
    obtain ⟨k, hk, rfl, rfl, ⟨⟨nd', rfl⟩⟩⟩ := hrel
    by_cases hlt : k < 5
    · have hcell := hg.cell (zs.length + k) _ (lentCells_mark zs k hlt)
      go_wp2
      go_roundw
      case rel => exact ⟨k + 1, by omega, rfl, by go_num, ⟨_, rfl⟩⟩
      case measure => simp [intOf]; omega
    · obtain rfl : k = 5 := by omega
      go_wp2
      go_loopw [8] (fun i wr => ∃ k : Nat, k ≤ zs.length + 5 ∧ i = .int .i64 k ∧ Blk wr g 5 (backCells k (lentCells zs 5)) ∧ Keeps (One g) w wr) (fun i _ => zs.length + 5 - (intOf i).toNat)
      case atStart => exact ⟨0, by omega, rfl, by simpa [backCells] using hg.keeps ((Keeps.refl None w).drewN nd') id, (Keeps.refl _ w).drewN nd'⟩
      case round =>
        clear hg
        obtain ⟨k, hk, rfl, hg, hK⟩ := hrel
        have hlen : (backCells k (lentCells zs 5)).length = zs.length + 5 := by
          have := lentCells_length zs 5 (Nat.le_refl _)
          simp [backCells, this]; omega
        have HL := Lib.hid hlen
        clear hlen
        by_cases hlt : k < zs.length + 5
        · obtain ⟨v0, hcell⟩ := hg.has k (by rw [HL.out]; exact hlt)
          have hf := hg.free k
          go_wp2
          go_roundw
          case rel => exact ⟨k + 1, by omega, by go_num, by rw [← backCells_step k _ (by rw [lentCells_length zs 5 (Nat.le_refl _)]; exact hlt)]; exact hg.set _ _, hK.setCell _ _ (fun _ => rfl)⟩
          case measure => simp [intOf]; omega
        · obtain rfl : k = zs.length + 5 := by omega
          go_wp2
          go_ret
          refine ⟨rfl, ?_, hK⟩
          have e1 : backCells (zs.length + 5) (lentCells zs 5) = List.replicate (zs.length + 5) (Value.int .u8 94) := by
            unfold backCells
            rw [List.drop_eq_nil_of_le (by rw [lentCells_length zs 5 (Nat.le_refl _)]; omega), List.append_nil]
          rw [← e1]; exact hg
end Go.Proofs.Ytcihfjfbcfgidaa
