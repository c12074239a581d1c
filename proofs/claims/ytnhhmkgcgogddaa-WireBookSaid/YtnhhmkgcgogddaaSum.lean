/- The contracts of wire.halves, wire.Sum and the reference's Sum. -/
import Derived.Test.YtnhhmkgcgogddaaLend
import Derived.Test.YtnhhmkgcgogddaaCrc
import Derived.Test.YtnhhmkgcgogddaaBits
namespace Go.Proofs.Ytnhhmkgcgogddaa
open Go.RowKit

/-- The table's cells, the first k of them laid. -/
def tabCells (k : Nat) : List Value := (List.range 16).map fun i => .int .u32 (if i < k then (Crc.tab i : Int) else 0)
theorem tabCells_length (k : Nat) : (tabCells k).length = 16 := by simp [tabCells]
theorem tabCells_step (k : Nat) (v : Int) (hv : v = Crc.tab k) : (tabCells k).set k (.int .u32 v) = tabCells (k + 1) := by
  apply List.ext_getElem
  · simp [tabCells]
  · intro i h1 h2
    simp only [tabCells, List.length_set, List.length_map, List.length_range] at h1
    rw [List.getElem_set]
    by_cases e : k = i
    · subst e; simp [tabCells, hv]
    · simp only [e, if_false]
      simp only [tabCells, List.getElem_map, List.getElem_range]
      have : (i < k) = (i < k + 1) := by simp; omega
      simp [this]
theorem tabCells_at (i : Nat) (h : i < 16) : (tabCells 16)[i]? = some (.int .u32 (Crc.tab i)) := by simp [tabCells, h]
theorem tabCells_one (k : Nat) : (tabCells k).toArray.all (·.oneCell') = true := by simp [tabCells, Value.oneCell']

theorem halves_step (n : Nat) (h : n < 4294967296) : bits BinOp.xor IntKind.u32 ((n : Int) / 2) (2197175160 * bits BinOp.and IntKind.u32 n 1 % 4294967296) = (Crc.stp n : Int) := by
  rw [bits_and1_u32 n h]
  have e : (2197175160 * ((n % 2 : Nat) : Int) % 4294967296) = ((if n % 2 = 1 then Crc.poly else 0 : Nat) : Int) := by
    unfold Crc.poly
    split <;> omega
  rw [e, show ((n : Int) / 2) = ((n / 2 : Nat) : Int) by omega, bits_xor_u32 _ _ (by omega) (by unfold Crc.poly; split <;> omega)]
  rfl

def Halves (w : World) (e : Ending) (w' : World) : Prop := e = .returned (.agg (tabCells 16).toArray) ∧ Keeps None w w'

theorem tabCells_size : (tabCells 16).toArray.size = 16 := by simp [tabCells]
theorem Try.sizeTab16 : (Try.prog.info? 71).map (·.size) = some 16 := by kernel_rfl
theorem Try.sizeTab : (Try.prog.info? 71).map (·.size) = some (tabCells 16).toArray.size := by rw [tabCells_size]; exact Try.sizeTab16
theorem tabCells_old : (List.replicate 16 (Value.int .u32 0)).toArray.size = (tabCells 16).toArray.size := by rw [tabCells_size]; rfl
set_option maxRecDepth 100000 in
set_option maxHeartbeats 1600000 in
theorem halves_any (w : World) : Calls Try.prog 40 #[] w (Halves w) := by
  have hb0 : Blk ((w.alloc (.cells (List.replicate 16 (.int .u32 0)).toArray 71)).alloc (.cells (List.replicate 16 (.int .u32 0)).toArray 71)) w.heap.size 71 (List.replicate 16 (.int .u32 0)) := (Blk.new w _ _).alloc _
  have hb1 : Blk ((w.alloc (.cells (List.replicate 16 (.int .u32 0)).toArray 71)).alloc (.cells (List.replicate 16 (.int .u32 0)).toArray 71)) (w.heap.size + 1) 71 (tabCells 0) := by
    have := Blk.new (w.alloc (.cells (List.replicate 16 (.int .u32 0)).toArray 71)) 71 (tabCells 0)
    rwa [World.size_alloc] at this
  have hK : Keeps None w ((w.alloc (.cells (List.replicate 16 (.int .u32 0)).toArray 71)).alloc (.cells (List.replicate 16 (.int .u32 0)).toArray 71)) := ((Keeps.refl _ w).alloc _).alloc _
  have H0 := Lib.hid hb0
  have H1 := Lib.hid hb1
  have HK := Lib.hid hK
  clear hb0 hb1 hK
  go_enter Try.func40, Try.ntmps40
  go_wp2
  go_loopw [2, 3, 4] (fun _ _ i wr => ∃ k : Nat, k ≤ 16 ∧ i = .int .i64 k ∧ Blk wr w.heap.size 71 (List.replicate 16 (.int .u32 0)) ∧ Blk wr (w.heap.size + 1) 71 (tabCells k) ∧ Keeps None w wr) (fun _ _ i _ => 16 - (intOf i).toNat)
  case atStart => exact ⟨0, by omega, rfl, H0.out, H1.out, HK.out⟩
  case round =>
    clear H0 H1 HK
    obtain ⟨k, hk, rfl, hz, ht, hK⟩ := hrel
    by_cases hlt : k < 16
    · have hltb : decide ((k : Int) < 16) = true := by simp; omega
      go_wp2
      go_loopw [3, 9] (fun x i wr' => ∃ (j : Nat) (X : Int), j ≤ 4 ∧ 0 ≤ X ∧ X ≤ 4294967295 ∧ Hid (X = Crc.it j k) ∧ x = .int .u32 X ∧ i = .int .i64 j ∧ wr' = wr) (fun _ i _ => 4 - (intOf i).toNat)
      case atStart => exact ⟨0, k, by omega, by omega, by omega, Lib.hid rfl, rfl, rfl, rfl⟩
      case round =>
        obtain ⟨j, X, hj, hx1, hx2, hX, rfl, rfl, rfl⟩ := hrel
        by_cases hjl : j < 4
        · go_wp2
          go_roundw
          case rel =>
            have hlt2 := Crc.it_lt j k (by omega)
            refine ⟨j + 1, _, by omega, ?_, ?_, Lib.hid ?_, rfl, by go_num, by first | trivial | rfl⟩
            rotate_right
            · rw [hX.out, halves_step _ hlt2]; rfl
            all_goals
              rw [hX.out, halves_step _ hlt2]
              have := Crc.stp_lt _ hlt2
              omega
          case measure => simp [intOf]; omega
        · obtain rfl : j = 4 := by omega
          have hf := ht.free k
          obtain ⟨v0, hc⟩ := ht.has k (by rw [tabCells_length]; exact hlt)
          go_wp2
          go_roundw
          case rel => exact ⟨k + 1, by omega, by go_num, hz.other _ _ (by simp), by rw [← tabCells_step k X hX.out]; exact ht.set _ _, hK.setCell _ _ (by simp; omega)⟩
          case measure => simp [intOf]; omega
    · obtain rfl : k = 16 := by omega
      go_wp2_with (first
        | (with_reducible refine wpList_load_row rfl 71 (.tmp 1) rfl (w.heap.size + 1) rfl 71 (tabCells 16).toArray (0, 0) _ ht.raw Try.underlying71 rfl Try.sizeTab ?_)
        | (with_reducible refine wpList_store_row rfl 71 (.tmp 0) (.tmp 22) rfl w.heap.size (tabCells 16).toArray rfl rfl 71 (List.replicate 16 (.int .u32 0)).toArray hz.raw Try.sizeTab tabCells_old (tabCells_one 16) ?_))
      exact bodyPost_ret (results_cell_row rfl _ _ w.heap.size 71 (tabCells 16).toArray (0, 0) _ rfl (hz.setRow _).raw Try.underlying71 rfl Try.sizeTab) rfl ⟨rfl, hK.setRow _ _ (by simp)⟩

/-- Bytes. -/
def Bytes (zs : List Int) : Prop := ∀ c ∈ zs, 0 ≤ c ∧ c ≤ 255
theorem Bytes.le {zs : List Int} (h : Bytes zs) : ∀ c ∈ zs, c ≤ 255 := fun c hc => (h c hc).2
theorem Bytes.at {zs : List Int} (h : Bytes zs) {j : Nat} {x : Int} (hx : zs[j]? = some x) : 0 ≤ x ∧ x ≤ 255 := h x (List.mem_of_getElem? hx)
theorem Bytes.take {zs : List Int} (h : Bytes zs) (n : Nat) : Bytes (zs.take n) := fun c hc => h c (List.mem_of_mem_take hc)

def SumEnd (zs : List Int) (w : World) (e : Ending) (w' : World) : Prop := e = .returned (.int .i64 (Crc.crc zs)) ∧ Keeps None w w'

set_option maxRecDepth 100000 in
set_option maxHeartbeats 1600000 in
theorem sum_any (A : Option Addr) (n cap : Nat) (zs : List Int) (w : World) (hA : Nums .u8 w A zs) (hb : Bytes zs) (hn : zs.length = n) (hr : n ≤ 140737488351232) :
    Calls Try.prog 15 #[.slice A n cap] w (SumEnd zs w) := by
  subst hn
  go_enter Try.func15, Try.ntmps15
  go_wp2_with (first
    | (go_at_call 40; refine (halves_any _).mono ?_; rintro e w1 ⟨rfl, hK⟩)
    | (with_reducible refine wpList_store_row rfl 71 (.tmp 3) (.tmp 7) rfl _ (tabCells 16).toArray rfl rfl 71 _ (heap_alloc_new _ _) Try.sizeTab (by simp [tabCells_length]) (tabCells_one 16) ?_))
  go_loopw [4, 10] (fun x i wr => ∃ (k n : Nat), k ≤ zs.length ∧ i = .int .i64 k ∧ n < 4294967296 ∧ x = .int .u32 (n : Int) ∧ Hid (n = Crc.from_ 4294967295 (zs.take k)) ∧ Blk wr w1.heap.size 71 (tabCells 16) ∧ Keeps None w wr) (fun _ i _ => zs.length - (intOf i).toNat)
  case atStart => exact ⟨0, 4294967295, Nat.zero_le _, rfl, by omega, rfl, Lib.hid rfl, setRow_heap _ _ _ _ _ _ (heap_alloc_new _ _), (hK.alloc _).setRow _ _ (fun h => by have := hK.size; omega)⟩
  case round =>
    clear hK
    obtain ⟨k, n, hk, rfl, hn, rfl, hX, hT, hK⟩ := hrel
    by_cases hlt : k < zs.length
    · obtain ⟨c, b, o, rfl, hc, hz⟩ := (hA.grew hK).get k hlt
      obtain ⟨hc0, hc1⟩ := hb.at hz.out
      obtain ⟨m, rfl⟩ := Int.eq_ofNat_of_zero_le hc0
      obtain ⟨n1, hn1⟩ : ∃ n1, n1 = n ^^^ m := ⟨_, rfl⟩
      have l1 : n1 < 4294967296 := by rw [hn1]; exact Nat.xor_lt_two_pow (n := 32) hn (by omega)
      have e1 : bits .xor .u32 (n : Int) (m : Int) = (n1 : Int) := by rw [hn1]; exact bits_xor_u32 n m hn (by omega)
      obtain ⟨i1, hi1⟩ : ∃ i1, i1 = n1 % 16 := ⟨_, rfl⟩
      have e2 : bits .and .u32 (n1 : Int) 15 = (i1 : Int) := by rw [hi1]; exact bits_and15_u32 n1 l1
      have j1 : i1 < 16 := by omega
      have c1 : wr.cell? ⟨w1.heap.size, i1, none⟩ = some (.int .u32 (Crc.tab i1)) := hT.cell i1 _ (tabCells_at i1 j1)
      obtain ⟨t1, ht1⟩ : ∃ t1, t1 = Crc.tab i1 := ⟨_, rfl⟩
      have lt1 : t1 < 4294967296 := by rw [ht1]; exact Crc.tab_lt i1 j1
      rw [← ht1] at c1
      obtain ⟨n2, hn2⟩ : ∃ n2, n2 = (n1 / 16) ^^^ t1 := ⟨_, rfl⟩
      have l2 : n2 < 4294967296 := by rw [hn2]; exact Nat.xor_lt_two_pow (n := 32) (by omega) lt1
      have e3 : bits .xor .u32 ((n1 : Int) / 16) (t1 : Int) = (n2 : Int) := by rw [hn2, show ((n1 : Int) / 16) = ((n1 / 16 : Nat) : Int) by omega]; exact bits_xor_u32 _ _ (by omega) lt1
      obtain ⟨i2, hi2⟩ : ∃ i2, i2 = n2 % 16 := ⟨_, rfl⟩
      have e4 : bits .and .u32 (n2 : Int) 15 = (i2 : Int) := by rw [hi2]; exact bits_and15_u32 n2 l2
      have j2 : i2 < 16 := by omega
      have c2 : wr.cell? ⟨w1.heap.size, i2, none⟩ = some (.int .u32 (Crc.tab i2)) := hT.cell i2 _ (tabCells_at i2 j2)
      obtain ⟨t2, ht2⟩ : ∃ t2, t2 = Crc.tab i2 := ⟨_, rfl⟩
      have lt2 : t2 < 4294967296 := by rw [ht2]; exact Crc.tab_lt i2 j2
      rw [← ht2] at c2
      obtain ⟨n3, hn3⟩ : ∃ n3, n3 = (n2 / 16) ^^^ t2 := ⟨_, rfl⟩
      have l3 : n3 < 4294967296 := by rw [hn3]; exact Nat.xor_lt_two_pow (n := 32) (by omega) lt2
      have e5 : bits .xor .u32 ((n2 : Int) / 16) (t2 : Int) = (n3 : Int) := by rw [hn3, show ((n2 : Int) / 16) = ((n2 / 16 : Nat) : Int) by omega]; exact bits_xor_u32 _ _ (by omega) lt2
      have fin : n3 = Crc.from_ 4294967295 (zs.take (k + 1)) := by
        rw [take_succ_of hz.out, Crc.from_snoc, ← hX.out, hn3, ht2, hi2, hn2, ht1, hi1, hn1]
        unfold Crc.byt
        rw [Crc.it8, Crc.it4]; rfl
      have FIN := Lib.hid fin
      clear fin hn1 hi1 ht1 hn2 hi2 ht2 hn3 hX hz
      go_wp2
      go_roundw
      case rel => exact ⟨k + 1, n3, by omega, by go_num, l3, rfl, FIN, hT, hK⟩
      case measure => simp [intOf]; omega
    · obtain rfl : k = zs.length := by omega
      go_wp2
      go_ret
      refine ⟨ret_int ?_, hK⟩
      rw [show IntKind.u32.max = ((4294967295 : Nat) : Int) from rfl, bits_xor_u32 _ _ (by omega) hn]
      have h1 := hX.out
      rw [List.take_of_length_le (Nat.le_refl _)] at h1
      have h2 : 4294967295 ^^^ n < 2 ^ 32 := Nat.xor_lt_two_pow (by omega) hn
      rw [show Crc.crc zs = 4294967295 ^^^ n from by unfold Crc.crc; rw [← h1, Nat.xor_comm]]
      unfold wrap64
      omega

/-- The reference's checksum, bit by bit. -/
theorem refsum_step (n : Nat) (h : n < 4294967296) :
    (n % 2 = 1 → bits .xor .u32 ((n : Int) / 2) 2197175160 = (Crc.stp n : Int)) ∧ (¬ n % 2 = 1 → ((n : Int) / 2) = (Crc.stp n : Int)) := by
  constructor
  · intro h1
    rw [show ((n : Int) / 2) = ((n / 2 : Nat) : Int) by omega, show (2197175160 : Int) = ((2197175160 : Nat) : Int) from rfl, bits_xor_u32 _ _ (by omega) (by omega)]
    unfold Crc.stp Crc.poly; rw [if_pos h1]
  · intro h1
    unfold Crc.stp; rw [if_neg h1]; simp

set_option maxRecDepth 100000 in
set_option maxHeartbeats 1600000 in
theorem refsum_any (A : Option Addr) (n cap : Nat) (zs : List Int) (w : World) (hA : Nums .u8 w A zs) (hb : Bytes zs) (hn : zs.length = n) (hr : n ≤ 140737488351232) :
    Calls Try.prog 17 #[.slice A n cap] w (SumEnd zs w) := by
  subst hn
  go_enter Try.func17, Try.ntmps17
  go_wp2
  go_loopw [3, 4] (fun x i wr => ∃ (k n : Nat), k ≤ zs.length ∧ i = .int .i64 k ∧ n < 4294967296 ∧ x = .int .u32 (n : Int) ∧ Hid (n = Crc.from_ 4294967295 (zs.take k)) ∧ wr = w) (fun _ i _ => zs.length - (intOf i).toNat)
  case atStart => exact ⟨0, 4294967295, Nat.zero_le _, rfl, by omega, rfl, Lib.hid rfl, rfl⟩
  case round =>
    obtain ⟨k, n, hk, rfl, hn, rfl, hX, rfl⟩ := hrel
    by_cases hlt : k < zs.length
    · obtain ⟨c, b, o, rfl, hc, hz⟩ := hA.get k hlt
      obtain ⟨hc0, hc1⟩ := hb.at hz.out
      obtain ⟨m, rfl⟩ := Int.eq_ofNat_of_zero_le hc0
      obtain ⟨n1, hn1⟩ : ∃ n1, n1 = n ^^^ m := ⟨_, rfl⟩
      have l1 : n1 < 4294967296 := by rw [hn1]; exact Nat.xor_lt_two_pow (n := 32) hn (by omega)
      have e1 : bits .xor .u32 (n : Int) (m : Int) = (n1 : Int) := by rw [hn1]; exact bits_xor_u32 n m hn (by omega)
      have HN := Lib.hid hn1
      have hltb : decide ((k : Int) < (zs.length : Int)) = true := by simp; omega
      clear hn1
      go_wp2
      go_loopw [3, 5] (fun x i wr' => ∃ (j y : Nat), j ≤ 8 ∧ i = .int .i64 j ∧ y < 4294967296 ∧ x = .int .u32 (y : Int) ∧ Hid (y = Crc.it j n1) ∧ wr' = wr) (fun _ i _ => 8 - (intOf i).toNat)
      case atStart => exact ⟨0, n1, by omega, rfl, l1, rfl, Lib.hid rfl, rfl⟩
      case round =>
        clear e1
        obtain ⟨j, y, hj, rfl, hy, rfl, hY, rfl⟩ := hrel
        by_cases hj8 : j < 8
        · obtain ⟨s1, s0⟩ := refsum_step y hy
          have l2 := Crc.stp_lt y hy
          by_cases hp : y % 2 = 1
          · have e2 : bits .and .u32 (y : Int) 1 = 1 := by rw [bits_and1_u32 y hy, hp]; rfl
            have e3 := s1 hp
            clear s1 s0
            go_wp2
            go_roundw
            case rel => exact ⟨j + 1, _, by omega, by go_num, l2, rfl, Lib.hid (by rw [hY.out]; rfl), by first | trivial | rfl⟩
            case measure => simp [intOf]; omega
          · have e2 : bits .and .u32 (y : Int) 1 = 0 := by rw [bits_and1_u32 y hy, show y % 2 = 0 by omega]; rfl
            have e3 := s0 hp
            clear s1 s0
            go_wp2
            go_roundw
            case rel => exact ⟨j + 1, _, by omega, by go_num, l2, rfl, Lib.hid (by rw [hY.out]; rfl), by first | trivial | rfl⟩
            case measure => simp [intOf]; omega
        · obtain rfl : j = 8 := by omega
          go_wp2
          go_roundw
          case rel => exact ⟨k + 1, y, by omega, by go_num, hy, rfl, Lib.hid (by rw [take_succ_of hz.out, Crc.from_snoc, ← hX.out, hY.out, HN.out]; rfl), by first | trivial | rfl⟩
          case measure => simp [intOf]; omega
    · obtain rfl : k = zs.length := by omega
      go_wp2
      go_ret
      refine ⟨ret_int ?_, Keeps.refl _ _⟩
      rw [show (4294967295 : Int) = ((4294967295 : Nat) : Int) from rfl, bits_xor_u32 _ _ hn (by omega)]
      have h1 := hX.out
      rw [List.take_of_length_le (Nat.le_refl _)] at h1
      have h2 : n ^^^ 4294967295 < 2 ^ 32 := Nat.xor_lt_two_pow hn (by omega)
      rw [show Crc.crc zs = n ^^^ 4294967295 from by unfold Crc.crc; rw [← h1]]
      unfold wrap64
      omega
end Go.Proofs.Ytnhhmkgcgogddaa
