/- TallyBests: Best by a less that goes by a part of the number; what less is called with. No condition. -/
import Derived.Test.YtghbgcmhahndkaaOpen
import Derived.Test.YtghbgcmhahndkaaLendI
namespace Go.Proofs.Ytghbgcmhahndkaa.tallyBests
open Go.ChangeShapes Go.WideShapes Go.ChangeAt Go.RowKit
open Go.ChangeMaps (open_string shut_string)
set_option linter.unusedVariables false

def LawEnd (w : World) (e : Ending) (w' : World) : Prop := e = .returned (.bool true) ∧ Below w.heap.size w w'

/-- The place of the best of the first k, the first of alike ones. -/
def bi (m : Int) (l : List Int) : Nat → Nat
  | 0 => 0
  | k + 1 => if (l.getD (bi m l k) 0).tmod m < (l.getD k 0).tmod m then k else bi m l k
theorem bi_le (m : Int) (l : List Int) : ∀ k, bi m l k ≤ k
  | 0 => Nat.le_refl _
  | k + 1 => by
    have := bi_le m l k
    unfold bi
    split <;> omega
theorem bi_lt (m : Int) (l : List Int) : ∀ k, 0 < k → bi m l k < k
  | k + 1, _ => by
    have := bi_le m l k
    unfold bi
    split <;> omega
theorem bi_one (m : Int) (l : List Int) : bi m l 1 = 0 := by
  unfold bi
  split
  · rfl
  · rfl

set_option maxRecDepth 100000 in
set_option maxHeartbeats 1600000 in
theorem less_any (a b m : Int) (c : Nat) (bc bm : Nat) (w : World) (hc : Blk w bc 3 [.int .i64 (c : Int)]) (hm : Blk w bm 3 [.int .i64 m]) (hne : bc ≠ bm) (h1 : 1 ≤ m) (hcl : c ≤ 17592186044416) :
    Calls Try.prog 37 #[.int .i64 a, .int .i64 b, .pointer (some ⟨bc, 0, Option.none⟩), .pointer (some ⟨bm, 0, Option.none⟩)] w fun e w' => e = .returned (.bool (decide (a.tmod m < b.tmod m))) ∧ Blk w' bc 3 [.int .i64 ((c + 1 : Nat) : Int)] ∧ Blk w' bm 3 [.int .i64 m] ∧ Keeps (One bc) w w' := by
  have d0 := hc.cell 0 _ rfl
  have f0 := hc.free 0
  have hm1 := hm.other ⟨bc, 0, Option.none⟩ (.int .i64 ((c : Int) + 1)) (Ne.symm hne)
  have d1 := hm1.cell 0 _ rfl
  have hz : ¬ m = 0 := by omega
  have hzb : (m == 0) = false := by simpa using hz
  go_enter Try.func37, Try.ntmps37
  go_wp2
  go_quiet (fail)
  go_wp2
  go_ret
  refine ⟨ret_bool rfl, ?_, ?_, ?_⟩
  · exact (hc.set 0 (.int .i64 ((c : Int) + 1))).of_block rfl
  · exact hm1.of_block rfl
  · exact Keeps.drewN ((Keeps.refl (One bc) w).setCell ⟨bc, 0, Option.none⟩ _ (fun _ => rfl)) _

def bestV (m : Int) (l : List Int) : Int := if l.length = 0 then 0 else l.getD (bi m l l.length) 0

set_option maxRecDepth 100000 in
set_option maxHeartbeats 1600000 in
theorem best_any (A : Option Addr) (n cap : Nat) (l : List Int) (m : Int) (bc bm : Nat) (w : World) (hA : Nums .i64 w A l) (hoff : Off A (One bc)) (hn : l.length = n) (hr : n ≤ 17592186043904) (hc : Blk w bc 3 [.int .i64 ((0 : Nat) : Int)]) (hm : Blk w bm 3 [.int .i64 m]) (hne : bc ≠ bm) (h1 : 1 ≤ m) :
    Calls Try.prog 38 #[.func (.func 37) #[] #[.pointer (some ⟨bc, 0, Option.none⟩), .pointer (some ⟨bm, 0, Option.none⟩)], .slice A n cap] w (fun e w' => e = .returned (.tuple #[.int .i64 (bestV m l), .bool (decide (0 < l.length))]) ∧ Blk w' bc 3 [.int .i64 ((l.length - 1 : Nat) : Int)] ∧ Blk w' bm 3 [.int .i64 m] ∧ Keeps (One bc) w w') := by
  subst hn
  go_enter Try.func38, Try.ntmps38
  go_wp2
  go_loopw [6, 11] (fun y i wr => ∃ (k : Nat) (B : Int), k ≤ l.length ∧ i = .int .i64 k ∧ y = .int .i64 B ∧ Hid ((k = 0 → B = 0) ∧ (0 < k → B = l.getD (bi m l k) 0)) ∧ Blk wr bc 3 [.int .i64 ((k - 1 : Nat) : Int)] ∧ Blk wr bm 3 [.int .i64 m] ∧ Keeps (One bc) w wr) (fun _ i _ => l.length - (intOf i).toNat)
  case atStart => exact ⟨0, 0, Nat.zero_le _, rfl, rfl, Lib.hid ⟨fun _ => rfl, fun h => by omega⟩, hc, hm, Keeps.refl _ _⟩
  case round =>
    clear hc hm
    obtain ⟨k, B, hk, rfl, rfl, hB, hc, hm, hK⟩ := hrel
    by_cases hlt : k < l.length
    · obtain ⟨s, b, o, rfl, c0, hs⟩ := (hA.keeps hK hoff).get k hlt
      have HS : Hid (l.getD k 0 = s) := Lib.hid (by simp [List.getD, hs.out])
      clear hs
      by_cases h0 : k = 0
      · subst h0
        rw [Nat.add_zero] at c0
        go_wp2_with fail
        go_roundw
        case rel => exact ⟨1, s, by omega, by go_num, rfl, Lib.hid ⟨fun h => by omega, fun _ => by rw [bi_one]; exact HS.out.symm⟩, hc, hm, hK⟩
        case measure => simp [intOf]; omega
      · have hkb : ((k : Int) == 0) = false := by simpa using h0
        have hK0 := hK
        go_wp2_with fail
        refine (less_any B s m (k - 1) bc bm _ hc hm hne h1 (by omega)).mono ?_
        rintro e w1 ⟨rfl, hc1, hm1, hk1⟩
        have hc1 : Blk w1 bc 3 [.int .i64 ((k + 1 - 1 : Nat) : Int)] := by rw [show k + 1 - 1 = k - 1 + 1 by omega]; exact hc1
        by_cases hl : B.tmod m < s.tmod m
        · rw [decide_eq_true hl]
          have HL := Lib.hid hl
          clear hl
          go_wp2_with fail
          go_roundw
          case rel => exact ⟨k + 1, s, by omega, by go_num, rfl, Lib.hid ⟨fun h => by omega, fun _ => by unfold bi; rw [← hB.out.2 (by omega), HS.out, if_pos HL.out]; exact HS.out.symm⟩, hc1, hm1, hK0.trans hk1⟩
          case measure => simp [intOf]; omega
        · rw [decide_eq_false hl]
          have HL := Lib.hid hl
          clear hl
          go_wp2_with fail
          go_roundw
          case rel => exact ⟨k + 1, B, by omega, by go_num, rfl, Lib.hid ⟨fun h => by omega, fun _ => by unfold bi; rw [← hB.out.2 (by omega), HS.out, if_neg (by have := HL.out; omega)]; exact hB.out.2 (by omega)⟩, hc1, hm1, hK0.trans hk1⟩
          case measure => simp [intOf]; omega
    · obtain rfl : k = l.length := by omega
      go_wp2_with fail
      go_ret2
      refine ⟨?_, hc, hm, hK⟩
      have : bestV m l = B := by
        unfold bestV
        split
        · next h => exact (hB.out.1 h).symm
        · next h => exact (hB.out.2 (by omega)).symm
      rw [this]
      simp

set_option maxRecDepth 100000 in
set_option maxHeartbeats 6400000 in
theorem walk (A : Option Addr) (n cap : Nat) (l : List Int) (m0 : Int) (w : World) (hA : Nums .i64 w A l) (hn : l.length = n) (hr : n ≤ 17592186043904) (hm0 : -9223372036854775808 ≤ m0 ∧ m0 ≤ 9223372036854775807) :
    Calls Try.prog 9 #[.slice A n cap, .int .i64 m0] w (LawEnd w) := by
  subst hn
  go_enter Try.func9, Try.ntmps9
  go_wp2_with fail
  refine (known_any w).mono ?_
  rintro e w1 ⟨rfl, hk1⟩
  have hA1 := hA.grew hk1
  have hs1 := hk1.size
  by_cases hneg : m0 < 1
  · obtain ⟨m1, hm1⟩ : ∃ m1 : Int, m1 = 1 := ⟨_, rfl⟩
    have hkX : Keeps None w1 ((w1.alloc (.cells #[.int .i64 1] 3)).alloc (.cells #[.int .i64 0] 3)) := ((Keeps.refl _ _).alloc _).alloc _
    have hm : Blk ((w1.alloc (.cells #[.int .i64 1] 3)).alloc (.cells #[.int .i64 0] 3)) w1.heap.size 3 [.int .i64 m1] := by rw [hm1]; exact (Blk.new w1 _ _).alloc _
    have hc : Blk ((w1.alloc (.cells #[.int .i64 1] 3)).alloc (.cells #[.int .i64 0] 3)) (w1.heap.size + 1) 3 [.int .i64 ((0 : Nat) : Int)] := by have := Blk.new (w1.alloc (.cells #[.int .i64 1] 3)) 3 [.int .i64 0]; rwa [World.size_alloc] at this
    have hxs : ((w1.alloc (.cells #[.int .i64 1] 3)).alloc (.cells #[.int .i64 0] 3)).heap.size = w1.heap.size + 2 := by simp
    have h1m : (1 : Int) ≤ m1 := by omega
    have HH := Lib.hid (And.intro hkX (And.intro hm (And.intro hc hxs)))
    clear hkX hm hc hxs hm1
    go_wp2_with fail
    refine (lend_any A l.length cap l _ (hA1.grew HH.out.1) rfl (by omega)).mono ?_
    rintro e w2 ⟨g, rfl, hg, hL, hk2⟩
    rw [HH.out.2.2.2] at hg
    have hc2 := HH.out.2.2.1.grew hk2
    have hm2 := HH.out.2.1.grew hk2
    have hK2 := (hk1.trans HH.out.1).trans hk2
    have hA2 := hA1.grew (HH.out.1.trans hk2)
    clear HH hk2 hA1
    go_wp2_with fail
    refine (best_any (some ⟨g, 0, Option.none⟩) l.length (l.length + 67) l m1 (w1.heap.size + 1) w1.heap.size w2 (lentCells_nums hL) (fun b o e f => by cases e; cases f; omega) rfl (by omega) hc2 hm2 (by omega) h1m).mono ?_
    rintro e w3 ⟨rfl, hc3, hm3, hk3⟩
    obtain ⟨B, hB⟩ : ∃ B, B = bestV m1 l := ⟨_, rfl⟩
    rw [← hB]
    have HB := Lib.hid hB
    have hL3 := hL.keeps hk3 (fun e => by cases e; omega)
    have hA3 : Nums .i64 w3 A l := hA.grew (hK2.andThen hk3 (fun i hi e => by cases e; have := hk1.size; omega))
    have hK3 : Keeps None w w3 := hK2.andThen hk3 (fun i hi e => by cases e; have := hk1.size; omega)
    clear hB hc2 hm2 hL hk3 hK2 hA2 hA
    have dm := hm3.cell 0 _ rfl
    have dc := hc3.cell 0 _ rfl
    go_wp2_with fail
    go_loopw [11, 12] (fun b i wr => ∃ (k : Nat), k ≤ l.length + 1 ∧ 1 ≤ k ∧ (k = l.length + 1 → l.length = 0) ∧ i = .int .i64 k ∧ b = .int .i64 (bi m1 l k : Nat) ∧ Drew w3 wr) (fun _ i _ => l.length - (intOf i).toNat)
    case atStart => exact ⟨1, by omega, by omega, by omega, rfl, by rw [bi_one]; rfl, Drew.refl _⟩
    case round =>
      obtain ⟨k, hk, hk1', hk0, rfl, rfl, ⟨⟨nd, rfl⟩⟩⟩ := hrel
      by_cases hlt : k < l.length
      · have hblt := bi_lt m1 l k (by omega)
        obtain ⟨q, hq⟩ : ∃ q, q = bi m1 l k := ⟨_, rfl⟩
        rw [← hq] at hblt
        obtain ⟨s, b, o, rfl, c0, hs⟩ := hA3.get k hlt
        obtain ⟨t, _, _, e1, c1, ht⟩ := hA3.get q (by omega)
        cases e1
        have HS : Hid (l.getD k 0 = s ∧ l.getD q 0 = t) := Lib.hid ⟨by simp [List.getD, hs.out], by simp [List.getD, ht.out]⟩
        have HQ := Lib.hid hq
        have hql : q < l.length := by omega
        have hz : ¬ (m1 : Int) = 0 := by omega
        have hzb : ((m1 : Int) == 0) = false := by simpa using hz
        rw [← hq]
        clear hs ht hq hk0
        by_cases hl : t.tmod m1 < s.tmod m1
        · have HL := Lib.hid hl
          go_wp2_with fail
          go_quiet (fail)
          go_wp2_with fail
          go_roundw
          case rel => exact ⟨k + 1, by omega, by omega, by omega, by go_num, by unfold bi; rw [← HQ.out, HS.out.1, HS.out.2, if_pos HL.out], by first | exact ⟨_, rfl⟩ | exact (Drew.of w3 nd).more _⟩
          case measure => simp [intOf]; omega
        · have HL := Lib.hid hl
          have hl2 : s.tmod m1 ≤ t.tmod m1 := by omega
          clear hl
          go_wp2_with fail
          go_quiet (fail)
          go_wp2_with fail
          go_roundw
          case rel => exact ⟨k + 1, by omega, by omega, by omega, by go_num, by unfold bi; rw [← HQ.out, HS.out.1, HS.out.2, if_neg (by have := HL.out; omega)], by first | exact ⟨_, rfl⟩ | exact (Drew.of w3 nd).more _⟩
          case measure => simp [intOf]; omega
      · by_cases h0 : l.length = 0
        · have hBe : B = 0 := by rw [HB.out]; unfold bestV; rw [if_pos h0]
          subst hBe
          have hz : ((l.length : Nat) : Int) = 0 := by omega
          have dc' : (w3.drewN nd).cell? ⟨w1.heap.size + 1, 0, Option.none⟩ = some (.int .i64 0) := by have := dc; rw [show l.length - 1 = 0 by omega] at this; exact this
          clear dc
          go_wp2_with fail
          go_ret
          exact ⟨ret_bool (by simp [hz]), (hK3.trans ((Drew.of w3 nd).keeps None)).to_below⟩
        · obtain rfl : k = l.length := by omega
          have hblt := bi_lt m1 l l.length (by omega)
          obtain ⟨q, hq⟩ : ∃ q, q = bi m1 l l.length := ⟨_, rfl⟩
          rw [← hq] at hblt
          obtain ⟨t, b, o, rfl, c0, ht⟩ := hA3.get q hblt
          have hBt : B = t := by
            rw [HB.out]; unfold bestV; rw [if_neg h0, ← hq]; simp [List.getD, ht.out]
          subst hBt
          rw [← hq]
          have h0b : ((l.length : Int) == 0) = false := by simpa using h0
          have hm2 : (q : Int) < (l.length : Int) := by omega
          have dc' : (w3.drewN nd).cell? ⟨w1.heap.size + 1, 0, Option.none⟩ = some (.int .i64 ((l.length : Int) - 1)) := by have := dc; rw [show ((l.length - 1 : Nat) : Int) = (l.length : Int) - 1 by omega] at this; exact this
          have hLd : Blk (w3.drewN nd) g 3 (lentCells l 67) := hL3
          have hAd : Nums .i64 (w3.drewN nd) (some ⟨b, o, Option.none⟩) l := hA3
          clear hq ht HB hk0 dc
          go_wp2_with fail
          refine (back_any g l.length l (some ⟨b, o, Option.none⟩) l.length cap _ hLd rfl hAd rfl (by omega)).mono ?_
          rintro e w4 ⟨rfl, hd4⟩
          go_wp2_with fail
          go_ret
          exact ⟨ret_bool (by simp), ((hK3.trans ((Drew.of w3 nd).keeps None)).trans (hd4.keeps None)).to_below⟩
  · skip
    have hkX : Keeps None w1 ((w1.alloc (.cells #[.int .i64 m0] 3)).alloc (.cells #[.int .i64 0] 3)) := ((Keeps.refl _ _).alloc _).alloc _
    have hm : Blk ((w1.alloc (.cells #[.int .i64 m0] 3)).alloc (.cells #[.int .i64 0] 3)) w1.heap.size 3 [.int .i64 m0] := (Blk.new w1 _ _).alloc _
    have hc : Blk ((w1.alloc (.cells #[.int .i64 m0] 3)).alloc (.cells #[.int .i64 0] 3)) (w1.heap.size + 1) 3 [.int .i64 ((0 : Nat) : Int)] := by have := Blk.new (w1.alloc (.cells #[.int .i64 m0] 3)) 3 [.int .i64 0]; rwa [World.size_alloc] at this
    have hxs : ((w1.alloc (.cells #[.int .i64 m0] 3)).alloc (.cells #[.int .i64 0] 3)).heap.size = w1.heap.size + 2 := by simp
    have h1m : (1 : Int) ≤ m0 := by omega
    have HH := Lib.hid (And.intro hkX (And.intro hm (And.intro hc hxs)))
    clear hkX hm hc hxs
    go_wp2_with fail
    refine (lend_any A l.length cap l _ (hA1.grew HH.out.1) rfl (by omega)).mono ?_
    rintro e w2 ⟨g, rfl, hg, hL, hk2⟩
    rw [HH.out.2.2.2] at hg
    have hc2 := HH.out.2.2.1.grew hk2
    have hm2 := HH.out.2.1.grew hk2
    have hK2 := (hk1.trans HH.out.1).trans hk2
    have hA2 := hA1.grew (HH.out.1.trans hk2)
    clear HH hk2 hA1
    go_wp2_with fail
    refine (best_any (some ⟨g, 0, Option.none⟩) l.length (l.length + 67) l m0 (w1.heap.size + 1) w1.heap.size w2 (lentCells_nums hL) (fun b o e f => by cases e; cases f; omega) rfl (by omega) hc2 hm2 (by omega) h1m).mono ?_
    rintro e w3 ⟨rfl, hc3, hm3, hk3⟩
    obtain ⟨B, hB⟩ : ∃ B, B = bestV m0 l := ⟨_, rfl⟩
    rw [← hB]
    have HB := Lib.hid hB
    have hL3 := hL.keeps hk3 (fun e => by cases e; omega)
    have hA3 : Nums .i64 w3 A l := hA.grew (hK2.andThen hk3 (fun i hi e => by cases e; have := hk1.size; omega))
    have hK3 : Keeps None w w3 := hK2.andThen hk3 (fun i hi e => by cases e; have := hk1.size; omega)
    clear hB hc2 hm2 hL hk3 hK2 hA2 hA
    have dm := hm3.cell 0 _ rfl
    have dc := hc3.cell 0 _ rfl
    go_wp2_with fail
    go_loopw [11, 12] (fun b i wr => ∃ (k : Nat), k ≤ l.length + 1 ∧ 1 ≤ k ∧ (k = l.length + 1 → l.length = 0) ∧ i = .int .i64 k ∧ b = .int .i64 (bi m0 l k : Nat) ∧ Drew w3 wr) (fun _ i _ => l.length - (intOf i).toNat)
    case atStart => exact ⟨1, by omega, by omega, by omega, rfl, by rw [bi_one]; rfl, Drew.refl _⟩
    case round =>
      obtain ⟨k, hk, hk1', hk0, rfl, rfl, ⟨⟨nd, rfl⟩⟩⟩ := hrel
      by_cases hlt : k < l.length
      · have hblt := bi_lt m0 l k (by omega)
        obtain ⟨q, hq⟩ : ∃ q, q = bi m0 l k := ⟨_, rfl⟩
        rw [← hq] at hblt
        obtain ⟨s, b, o, rfl, c0, hs⟩ := hA3.get k hlt
        obtain ⟨t, _, _, e1, c1, ht⟩ := hA3.get q (by omega)
        cases e1
        have HS : Hid (l.getD k 0 = s ∧ l.getD q 0 = t) := Lib.hid ⟨by simp [List.getD, hs.out], by simp [List.getD, ht.out]⟩
        have HQ := Lib.hid hq
        have hql : q < l.length := by omega
        have hz : ¬ (m0 : Int) = 0 := by omega
        have hzb : ((m0 : Int) == 0) = false := by simpa using hz
        rw [← hq]
        clear hs ht hq hk0
        by_cases hl : t.tmod m0 < s.tmod m0
        · have HL := Lib.hid hl
          go_wp2_with fail
          go_quiet (fail)
          go_wp2_with fail
          go_roundw
          case rel => exact ⟨k + 1, by omega, by omega, by omega, by go_num, by unfold bi; rw [← HQ.out, HS.out.1, HS.out.2, if_pos HL.out], by first | exact ⟨_, rfl⟩ | exact (Drew.of w3 nd).more _⟩
          case measure => simp [intOf]; omega
        · have HL := Lib.hid hl
          have hl2 : s.tmod m0 ≤ t.tmod m0 := by omega
          clear hl
          go_wp2_with fail
          go_quiet (fail)
          go_wp2_with fail
          go_roundw
          case rel => exact ⟨k + 1, by omega, by omega, by omega, by go_num, by unfold bi; rw [← HQ.out, HS.out.1, HS.out.2, if_neg (by have := HL.out; omega)], by first | exact ⟨_, rfl⟩ | exact (Drew.of w3 nd).more _⟩
          case measure => simp [intOf]; omega
      · by_cases h0 : l.length = 0
        · have hBe : B = 0 := by rw [HB.out]; unfold bestV; rw [if_pos h0]
          subst hBe
          have hz : ((l.length : Nat) : Int) = 0 := by omega
          have dc' : (w3.drewN nd).cell? ⟨w1.heap.size + 1, 0, Option.none⟩ = some (.int .i64 0) := by have := dc; rw [show l.length - 1 = 0 by omega] at this; exact this
          clear dc
          go_wp2_with fail
          go_ret
          exact ⟨ret_bool (by simp [hz]), (hK3.trans ((Drew.of w3 nd).keeps None)).to_below⟩
        · obtain rfl : k = l.length := by omega
          have hblt := bi_lt m0 l l.length (by omega)
          obtain ⟨q, hq⟩ : ∃ q, q = bi m0 l l.length := ⟨_, rfl⟩
          rw [← hq] at hblt
          obtain ⟨t, b, o, rfl, c0, ht⟩ := hA3.get q hblt
          have hBt : B = t := by
            rw [HB.out]; unfold bestV; rw [if_neg h0, ← hq]; simp [List.getD, ht.out]
          subst hBt
          rw [← hq]
          have h0b : ((l.length : Int) == 0) = false := by simpa using h0
          have hm2 : (q : Int) < (l.length : Int) := by omega
          have dc' : (w3.drewN nd).cell? ⟨w1.heap.size + 1, 0, Option.none⟩ = some (.int .i64 ((l.length : Int) - 1)) := by have := dc; rw [show ((l.length - 1 : Nat) : Int) = (l.length : Int) - 1 by omega] at this; exact this
          have hLd : Blk (w3.drewN nd) g 3 (lentCells l 67) := hL3
          have hAd : Nums .i64 (w3.drewN nd) (some ⟨b, o, Option.none⟩) l := hA3
          clear hq ht HB hk0 dc
          go_wp2_with fail
          refine (back_any g l.length l (some ⟨b, o, Option.none⟩) l.length cap _ hLd rfl hAd rfl (by omega)).mono ?_
          rintro e w4 ⟨rfl, hd4⟩
          go_wp2_with fail
          go_ret
          exact ⟨ret_bool (by simp), ((hK3.trans ((Drew.of w3 nd).keeps None)).trans (hd4.keeps None)).to_below⟩
set_option maxRecDepth 100000 in
theorem lifted (os : Os) (started : os.Started) (H : Type) (enc : TypeId × Value → H) :
    ReturnsInHanded {} Try.checked os 9 .any (Rows.tallyBestsSpec.pre6 enc Try.prog Try.f9 Rows.tallyBestsRow.domain false) (Rows.tallyBestsSpec.post enc Try.prog Try.f9 false true false false) := by
  refine returnsInHanded_of_change_sized (C := Try.checked) Try.own started (by kernel_rfl) Try.func9
    (ChangeSpec.witness6 (enc := enc) (C := Try.checked) false ⟨#[], #[.slice none 0 0, .int .i64 0], []⟩ 8 (by kernel_rfl) (by kernel_rfl) (by kernel_rfl) (by kernel_rfl)) ?_
  intro W base args ds gs before hval0 hW hcnd hsz0 _
  have hsz : (DataW.weightsEach Try.prog (Try.f9.params.toList ++ Rows.tallyBestsSpec.plain.varTypes Try.prog) (ds ++ gs)).all (· ≤ reachBytes) = true := hsz0
  have hval : ∀ (j : Nat) t v, Try.f9.params[j]? = some t → args[j]? = some v → Value.okWide Try.prog W .any base t v := hval0
  have hW' := hW
  obtain ⟨p, q, hA0, hV, rfl, hfz, hnd⟩ := hW
  have hA : DataW.TrodAll enc Try.prog W 0 (fun _ => true) true Try.f9.params.toList args.toList ds p := hA0
  rw [Try.params9] at hA hval hsz
  obtain ⟨v0, vs0, d0, ds0, p0, q0, hargs, rfl, rfl, h0, r0⟩ := trodAll_cons hA
  obtain ⟨v1, vs1, d1, ds1, p1, q1, rfl, rfl, rfl, h1, r1⟩ := trodAll_cons r0
  obtain ⟨rfl, rfl, rfl⟩ := trodAll_nil r1
  obtain rfl : args = #[v0, v1] := by cases args; simp_all
  obtain ⟨rfl, rfl⟩ := trodVars_none hV
  have k0 := h0
  have lt0 : ∀ x ∈ p0, x.block < W.heap.size := by obtain ⟨m, hm⟩ := k0; exact DataW.trod_lt m _ _ _ hm
  obtain ⟨a0, len0, cap0, rfl⟩ := okWide_slice Try.underlying27 (hval 0 27 v0 rfl rfl)
  obtain ⟨z0, n0, w0, b0, y0, c0, e0⟩ := open_nums hsz (j := 0) (t := 27) rfl rfl Try.underlying27 Try.underlying3 (by kernel_rfl) (B := 8) (by kernel_rfl) h0
  obtain ⟨a1, rfl, rfl, rfl, w1⟩ := open_int Try.underlying3 (hval 1 3 v1 rfl rfl) h1
  clear hA0 hval0 hsz0 hsz
  refine (walk a0 len0 cap0 z0 a1 W w0 n0 (by omega) (wf_i64 w1)).mono fun e W' ⟨he, bel⟩ => ?_
  subst he
  exact ⟨_, rfl, _, _, _, [], _, [], hW', trodAll_mk1 (shut_bool Try.underlying4 _), (trodAll_cons_mk (Below.trod Try.laidOut (by kernel_rfl) (of_decide_eq_true (by kernel_rfl)) k0 bel lt0) (trodAll_cons_mk (shut_int Try.underlying3 w1) trodAll_mk0)), rfl, bel.frame _, fun h => by cases h⟩

theorem over : Rows.tallyBestsRow.holds Try.pinned (OpenSpec.ofChange Rows.tallyBestsSpec) :=
  OpenClaim.holds_of_wide 9 Try.f9 rfl rfl rfl rfl rfl rfl rfl ⟨rfl, rfl, rfl, rfl, rfl⟩ rfl rfl rfl rfl rfl (by kernel_rfl) Try.func9 (by kernel_rfl)
    (of_decide_eq_true (by kernel_rfl)) (by unfold Func.isWrapper; first | (rw [if_pos (by decide +kernel)]; kernel_rfl) | (rw [if_neg (by decide +kernel)]; exact ⟨rfl, rfl⟩))
    (fun os started H enc _ => lifted os started H enc)
end Go.Proofs.Ytghbgcmhahndkaa.tallyBests
namespace Go.Proofs.Ytghbgcmhahndkaa
/-- The row, under a short name, for the claim. -/
theorem tallyBests_holds : Rows.TallyBestsSaid := tallyBests.over
end Go.Proofs.Ytghbgcmhahndkaa
