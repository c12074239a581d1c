/- Lists of numbers: Index, Contains; register.made. -/
import Derived.Test.YtcihfjfbcfgidaaRegNewer
import Derived.Maps.OwnSet
import Derived.Maps.OwnOps
namespace Go.Proofs.Ytcihfjfbcfgidaa
open Go.RowKit Go.Maps

theorem Try.infoI64 : (Try.prog.info? 3).map (fun i => (i.zero, i.size, i.bytes)) = some (some (.int .i64 0), 1, 8) := by kernel_rfl
set_option maxRecDepth 100000 in
set_option maxHeartbeats 1600000 in
theorem index_any (A : Option Addr) (n cap : Nat) (l : List Int) (s : Int) (w : World) (hA : Nums .i64 w A l) (hn : l.length = n) (hr : n ≤ 140737488351232) :
    Calls Try.prog 66 #[.slice A n cap, .int .i64 s] w fun e w' => w' = w ∧ ∃ k : Int, e = .returned (.int .i64 k) ∧ (0 ≤ k ↔ s ∈ l) := by
  subst hn
  go_enter Try.func66, Try.ntmps66
  go_wp2
  go_loopw [8] (fun i wr => ∃ k : Nat, k ≤ l.length ∧ i = .int .i64 k ∧ Hid (s ∉ l.take k) ∧ wr = w) (fun i _ => l.length - (intOf i).toNat)
  case atStart => exact ⟨0, Nat.zero_le _, rfl, Lib.hid (by simp), rfl⟩
  case round =>
    obtain ⟨k, hk, rfl, hN, rfl⟩ := hrel
    by_cases hlt : k < l.length
    · obtain ⟨x, b, o, rfl, hc, hx⟩ := hA.get k hlt
      by_cases he : s = x
      · obtain ⟨t1, t2⟩ := test_eq he
        have hm : Hid (s ∈ l) := Lib.hid (he ▸ List.mem_of_getElem? hx.out)
        clear he hx
        go_wp2
        go_ret
        exact ⟨rfl, k, rfl, fun _ => hm.out, fun _ => by omega⟩
      · obtain ⟨t1, t2⟩ := test_ne he
        have hm : Hid (s ∉ l.take (k + 1)) := Lib.hid (by rw [take_succ_of hx.out]; simp; exact ⟨hN.out, he⟩)
        clear he hx
        go_wp2
        go_roundw
        case rel => exact ⟨k + 1, by omega, by go_num, hm, by first | trivial | rfl⟩
        case measure => simp [intOf]; omega
    · obtain rfl : k = l.length := by omega
      go_wp2
      go_ret
      refine ⟨rfl, -1, rfl, fun h => by omega, fun h => ?_⟩
      have := hN.out
      rw [List.take_of_length_le (Nat.le_refl _)] at this
      exact absurd h this

set_option maxRecDepth 100000 in
set_option maxHeartbeats 1600000 in
theorem contains_any (A : Option Addr) (n cap : Nat) (l : List Int) (s : Int) (w : World) (hA : Nums .i64 w A l) (hn : l.length = n) (hr : n ≤ 140737488351232) :
    Calls Try.prog 59 #[.slice A n cap, .int .i64 s] w fun e w' => w' = w ∧ e = .returned (.bool (decide (s ∈ l))) := by
  go_enter Try.func59, Try.ntmps59
  go_wp2_with fail
  refine (index_any A n cap l s w hA hn hr).mono ?_
  rintro e w' ⟨rfl, k, rfl, hk⟩
  have HK := Lib.hid hk
  clear hk
  go_wp2_with fail
  go_ret
  exact ⟨rfl, ret_bool (by have := HK.out; simp [this])⟩


/-- The unlike ones, each where it first stands. -/
def uniqF : List Int → List Int := fun l => l.foldl (fun ys s => if s ∈ ys then ys else ys ++ [s]) []
theorem uniqF_snoc (l : List Int) (s : Int) : uniqF (l ++ [s]) = if s ∈ uniqF l then uniqF l else uniqF l ++ [s] := by unfold uniqF; rw [List.foldl_append]; rfl

/-- A machine's cells. -/
def mcells (client op round need k0 k1 k2 k3 : Int) (v : Value) (wr : Bool) (bl : Value) (size : Int) (st : Value) : List Value :=
  [.int .i64 client, .int .i64 op, .int .i64 round, .int .i64 need, .int .i64 k0, .int .i64 k1, .int .i64 k2, .int .i64 k3, v, .bool wr, bl, .int .i64 size, st]
def freshV : Value := .iface 128 (.agg #[])

set_option maxRecDepth 100000 in
set_option maxHeartbeats 1600000 in
theorem made_any (client op k0 k1 k2 k3 round : Int) (A : Option Addr) (n cap : Nat) (l : List Int) (w : World) (hA : Nums .i64 w A l) (hn : l.length = n) (hr : n ≤ 17592186044416) :
    Calls Try.prog 39 #[.int .i64 client, .int .i64 op, .agg #[.int .i64 k0, .int .i64 k1, .int .i64 k2, .int .i64 k3], .slice A n cap, .int .i64 round] w fun e w' => ∃ v,
      e = .returned (.pointer (some ⟨w.heap.size + 1, 0, Option.none⟩)) ∧ Blk w' (w.heap.size + 1) 109 (mcells client op round ((uniqF l).length / 2 + 1 : Nat) k0 k1 k2 k3 v false (.slice Option.none 0 0) 0 freshV) ∧
      Row .i64 3 w' w.heap.size v (uniqF l) ∧ (∀ b, v.ownBlock = some b → b ≠ w.heap.size + 1) ∧ Keeps None w w' := by
  obtain ⟨i0, hi, hz0, hz1, hz2⟩ := info_parts Try.infoI64
  subst hn
  go_enter Try.func39, Try.ntmps39
  go_wp2
  go_loopw [24] (fun i wr => ∃ (k : Nat) (v : Value) (ys : List Int), k ≤ l.length ∧ i = .int .i64 k ∧ Blk wr (w.heap.size + 1) 109 [.int .i64 client, .int .i64 op, .int .i64 round, .int .i64 0, .int .i64 k0, .int .i64 k1, .int .i64 k2, .int .i64 k3, v, .bool false, .slice Option.none 0 0, .int .i64 0, .iface 128 (.agg #[])] ∧ Row .i64 3 wr w.heap.size v ys ∧ (∀ b, v.ownBlock = some b → b ≠ w.heap.size + 1) ∧ Hid (ys = uniqF (l.take k)) ∧ ys.length ≤ k ∧ Keeps None w wr) (fun i _ => l.length - (intOf i).toNat)
  case atStart =>
    refine ⟨0, .slice Option.none 0 0, [], Nat.zero_le _, rfl, ?_, Row.nil _ _ _ _, fun b e => by simp [Value.ownBlock] at e, Lib.hid rfl, Nat.le_refl _, ((Keeps.refl _ _).alloc _).alloc _⟩
    have := Blk.new (w.alloc (.cells #[.int .i64 k0, .int .i64 k1, .int .i64 k2, .int .i64 k3] 51)) 109 [.int .i64 client, .int .i64 op, .int .i64 round, .int .i64 0, .int .i64 k0, .int .i64 k1, .int .i64 k2, .int .i64 k3, .slice Option.none 0 0, .bool false, .slice Option.none 0 0, .int .i64 0, .iface 128 (.agg #[])]
    rwa [World.size_alloc] at this
  case round =>
    obtain ⟨k, v, ys, hk, rfl, hB, hR, hne, hE, hyl, hK⟩ := hrel
    have hsz := hK.size
    have hBl := hB.lt
    obtain ⟨Ay, cy, rfl, -, hNy, -⟩ := hR.open_
    have c8 := hB.cell 8 _ rfl
    by_cases hlt : k < l.length
    · obtain ⟨s, b, o, rfl, hc, hs⟩ := (hA.grew hK).get k hlt
      have HT := Lib.hid (take_succ_of hs.out)
      go_wp2_with fail
      refine (contains_any Ay ys.length cy ys s wr hNy rfl (by omega)).mono ?_
      rintro e w0 ⟨rfl, rfl⟩
      by_cases hin : s ∈ ys
      · have E2 : Hid (ys = uniqF (l.take (k + 1))) := Lib.hid (by rw [HT.out, uniqF_snoc, ← hE.out, if_pos hin])
        rw [decide_eq_true hin]
        clear hin
        go_wp2_with fail
        go_roundw
        case rel => exact ⟨k + 1, _, ys, by omega, by go_num, hB, hR, hne, E2, by omega, hK⟩
        case measure => simp [intOf]; omega
      · have E2 : Hid (ys ++ [s] = uniqF (l.take (k + 1))) := Lib.hid (by rw [HT.out, uniqF_snoc, ← hE.out, if_neg hin])
        rw [decide_eq_false hin]
        clear hin
        have hb0 := hB.grew ((Keeps.refl None w0).alloc (.cells #[Value.int .i64 s] 3))
        have HNE := Lib.hid hne
        clear hne
        go_wp2_with (at_builtin; refine wpList_append_row _ rfl (.tmp 39) (.tmp 41) 52 rfl w.heap.size 3 i0 (.int .i64 0) 1 8 Try.underlying52 hi hz0 hz1 hz2 rfl (by decide) _ ys.length _ rfl (hR.raw.alloc _) (some ⟨w0.heap.size, 0, Option.none⟩) 1 1 [Value.int .i64 s] rfl rfl (fun e => by cases e) (src_new w0 3 _ _ rfl) (ints_oneCell _ [s]) (by unfold maxLen; omega) (by omega) (by simp; omega) ?_; intro v' w1 hown hk1 hloc; have hr1 : Row .i64 3 w1 w.heap.size v' (ys ++ [s]) := Row.of_append rfl rfl hown; have hb1 := hb0.keeps hk1 (fun e => HNE.out _ e rfl); have hf := hb1.free 8; have hq := hb1.cell 8 _ rfl; have hne' : ∀ b, v'.ownBlock = some b → b ≠ w.heap.size + 1 := (fun b e => by rcases hloc with h | h; (rw [h] at e; exact HNE.out b e); (rw [h] at e; cases e; simp; omega)); have HN2 := Lib.hid hne'; have hk2 : Keeps None w w1 := (hK.alloc _).own (hR.raw.alloc _) (Nat.le_refl _) hk1; obtain ⟨A', c', ev⟩ := hr1.slice; obtain rfl : v' = .slice A' (ys.length + 1) c' := ev.trans (by simp); clear hown ev hloc hne')
        have ks : Keeps (One (w.heap.size + 1)) w1 (w1.setCell ⟨w.heap.size + 1, 8, Option.none⟩ (.slice A' (ys.length + 1) c')) := (Keeps.refl _ _).setCell _ _ (fun _ => rfl)
        have hB2 := hb1.set 8 (.slice A' (ys.length + 1) c')
        simp only [List.set] at hB2
        go_roundw
        case rel => exact ⟨k + 1, _, ys ++ [s], by omega, by go_num, hB2, hr1.keeps ks (fun b hb e => HN2.out b hb e), HN2.out, E2, by simp; omega, hk2.andThen ks (fun i hi e => by simp only [One] at e; omega)⟩
        case measure => simp [intOf]; omega
    · obtain rfl : k = l.length := by omega
      have f3 := hB.free 3
      have c3 := hB.cell 3 _ rfl
      rw [List.take_of_length_le (Nat.le_refl _)] at hE
      go_wp2_with fail
      have ks : Keeps (One (w.heap.size + 1)) wr (wr.setCell ⟨w.heap.size + 1, 3, Option.none⟩ (.int .i64 ((ys.length : Int) / 2 + 1))) := (Keeps.refl _ _).setCell _ _ (fun _ => rfl)
      have hB3 := hB.set 3 (.int .i64 ((ys.length : Int) / 2 + 1))
      simp only [List.set] at hB3
      go_ret
      rw [← hE.out]
      have e1 : ((ys.length / 2 + 1 : Nat) : Int) = (ys.length : Int) / 2 + 1 := by omega
      refine ⟨_, rfl, ?_, hR.keeps ks (fun b hb e => hne b hb e), hne, hK.andThen ks (fun i hi e => by simp only [One] at e; omega)⟩
      rw [e1]
      exact hB3

set_option maxRecDepth 100000 in
set_option maxHeartbeats 1600000 in
theorem write_any (client op k0 k1 k2 k3 round : Int) (A : Option Addr) (n cap : Nat) (l : List Int) (B : Option Addr) (m cap' : Nat) (zs : List Int) (w : World) (hA : Nums .i64 w A l) (hn : l.length = n) (hr : n ≤ 17592186044416) (hB : Nums .u8 w B zs) (hm : zs.length = m) (hr' : m ≤ 140737488351232) :
    Calls Try.prog 17 #[.int .i64 client, .int .i64 op, .agg #[.int .i64 k0, .int .i64 k1, .int .i64 k2, .int .i64 k3], .slice A n cap, .int .i64 round, .slice B m cap'] w fun e w' => ∃ g v u, e = .returned (.iface 104 (.pointer (some ⟨g, 0, Option.none⟩))) ∧ w.heap.size ≤ g ∧
      Blk w' g 109 (mcells client op round ((uniqF l).length / 2 + 1 : Nat) k0 k1 k2 k3 v true u 0 freshV) ∧ Row .i64 3 w' w.heap.size v (uniqF l) ∧ (∀ b, v.ownBlock = some b → b ≠ g) ∧
      Row .u8 5 w' w.heap.size u zs ∧ (∀ b, u.ownBlock = some b → b ≠ g) ∧ Keeps None w w' := by
  subst hm
  have hb := Blk.new w 51 [.int .i64 k0, .int .i64 k1, .int .i64 k2, .int .i64 k3]
  have c0 := hb.cell 0 _ rfl
  have c1 := hb.cell 1 _ rfl
  have c2 := hb.cell 2 _ rfl
  have c3 := hb.cell 3 _ rfl
  go_enter Try.func17, Try.ntmps17
  go_wp2_with fail
  have kA := (Keeps.refl None w).alloc (.cells #[.int .i64 k0, .int .i64 k1, .int .i64 k2, .int .i64 k3] 51)
  refine (made_any client op k0 k1 k2 k3 round A n cap l _ (hA.grew kA) hn hr).mono ?_
  rintro e w1 ⟨v, rfl, hB1, hR1, hne, hk1⟩
  have kw1 := kA.trans hk1
  have hsA := kA.size
  obtain ⟨g, eg⟩ : ∃ g, g = (w.alloc (.cells #[.int .i64 k0, .int .i64 k1, .int .i64 k2, .int .i64 k3] 51)).heap.size + 1 := ⟨_, rfl⟩
  rw [← eg] at hB1 hne ⊢
  have hgl := hB1.lt
  have hgw : w.heap.size ≤ g := by omega
  have hR1' := hR1.down hsA
  clear eg hR1
  go_wp2_with fail
  refine (clone_any B zs.length cap' zs w1 (hB.grew kw1) rfl hr').mono ?_
  rintro e w2 ⟨u, rfl, hU, hk2⟩
  have hB2 := hB1.grew hk2
  have hR2 := hR1'.grew hk2
  obtain ⟨Au, cu, rfl⟩ := hU.slice
  have c9 := hB2.cell 9 _ rfl
  have c10 := hB2.cell 10 _ rfl
  have f9 := hB2.free 9
  have f10 := hB2.free 10
  go_wp2_with fail
  have hB3 := (hB2.set 9 (.bool true)).set 10 (.slice Au zs.length cu)
  have h1 : Keeps (One g) w2 (w2.setCell ⟨g, 9, Option.none⟩ (.bool true)) := (Keeps.refl _ _).setCell _ _ (fun _ => rfl)
  have h2 : Keeps (One g) (w2.setCell ⟨g, 9, Option.none⟩ (.bool true)) ((w2.setCell ⟨g, 9, Option.none⟩ (.bool true)).setCell ⟨g, 10, Option.none⟩ (.slice Au zs.length cu)) := (Keeps.refl _ _).setCell _ _ (fun _ => rfl)
  have ks := h1.trans h2
  go_ret
  have hug : ∀ b, (Value.slice Au zs.length cu).ownBlock = some b → b ≠ g := fun b e => by have := (hU.lt b e).1; omega
  exact ⟨g, v, .slice Au zs.length cu, rfl, hgw, hB3, hR2.keeps ks (fun b hb e => hne b hb e), hne, (hU.down kw1.size).keeps ks (fun b hb e => hug b hb e), hug, (kw1.trans hk2).andThen ks (fun i hi e => by simp only [One] at e; omega)⟩
end Go.Proofs.Ytcihfjfbcfgidaa
