/- tally.New at blocks. -/
import Derived.Test.YtcihfjfbcfgidaaRegMade
namespace Go.Proofs.Ytcihfjfbcfgidaa
open Go.RowKit Go.Maps

/-- A row's block holds cells. -/
theorem owns_obj {w : World} {base e size n : Nat} {v : Value} {xs : List Value} {b : Nat} (h : w.ownsRow base e size v n xs) (hb : v.ownBlock = some b) : ∃ cur, w.heap[b]? = some (.cells cur e (0, 0)) := by
  rcases h.2 with ⟨rfl, _⟩ | ⟨g, cap, cur, rfl, _, hg, _⟩
  · cases hb
  · cases hb; exact ⟨cur, hg⟩

set_option maxRecDepth 100000 in
set_option maxHeartbeats 1600000 in
theorem newB_any (A : Option Addr) (n cap : Nat) (l : List Int) (need : Int) (w : World) (hA : Nums .i64 w A l) (hn : l.length = n) (hr : n ≤ 17592186044416) :
    Calls Try.prog 90 #[.slice A n cap, .int .i64 need] w fun e w' => ∃ v,
      e = .returned (.pointer (some ⟨w.heap.size + 1, 0, Option.none⟩)) ∧ Blk w' (w.heap.size + 1) 171 [v, .int .i64 need, .map (some w.heap.size)] ∧
      Row .i64 3 w' w.heap.size v (uniqF l) ∧ (∀ b, v.ownBlock = some b → b ≠ w.heap.size + 1) ∧ w'.heap[w.heap.size]? = some (.map #[] 0) ∧ Keeps None w w' := by
  obtain ⟨i0, hi, hz0, hz1, hz2⟩ := info_parts Try.infoI64
  have hmm := @run_makeMap Try.prog
  subst hn
  go_enter Try.func90, Try.ntmps90
  go_wp2
  go_loopw [14] (fun i wr => ∃ (k : Nat) (v : Value) (ys : List Int), k ≤ l.length ∧ i = .int .i64 k ∧ Blk wr (w.heap.size + 1) 171 [v, .int .i64 need, .map (some w.heap.size)] ∧ Row .i64 3 wr w.heap.size v ys ∧ (∀ b, v.ownBlock = some b → b ≠ w.heap.size + 1) ∧ wr.heap[w.heap.size]? = some (.map #[] 0) ∧ Hid (ys = uniqF (l.take k)) ∧ ys.length ≤ k ∧ Keeps None w wr) (fun i _ => l.length - (intOf i).toNat)
  case atStart =>
    refine ⟨0, .slice Option.none 0 0, [], Nat.zero_le _, rfl, ?_, Row.nil _ _ _ _, fun b e => by simp [Value.ownBlock] at e, ?_, Lib.hid rfl, Nat.le_refl _, ((Keeps.refl _ _).alloc _).alloc _⟩
    · have := Blk.new (w.alloc (.map #[] 0)) 171 [.slice Option.none 0 0, .int .i64 need, .map (some w.heap.size)]
      rwa [World.size_alloc] at this
    · exact (Below.heap_alloc _ _ _ (by simp)).trans (heap_alloc_new w _)
  case round =>
    obtain ⟨k, v, ys, hk, rfl, hB, hR, hne, hMp, hE, hyl, hK⟩ := hrel
    have hsz := hK.size
    have hBl := hB.lt
    obtain ⟨Ay, cy, rfl, -, hNy, -⟩ := hR.open_
    have c0 := hB.cell 0 _ rfl
    by_cases hlt : k < l.length
    · obtain ⟨s, b, o, rfl, hc, hs⟩ := (hA.grew hK).get k hlt
      have HT := Lib.hid (take_succ_of hs.out)
      go_wp2_with fail
      refine (contains_any Ay ys.length cy ys s wr hNy rfl (by omega)).mono ?_
      rintro e w0 ⟨rfl, rfl⟩
      by_cases hin : s ∈ ys
      · have E2 : Hid (ys = uniqF (l.take (k + 1))) := Lib.hid (by rw [HT.out, uniqF_snoc, ← hE.out, if_pos hin])
        rw [decide_eq_true hin]
        clear hin
        go_wp2_with fail
        go_roundw
        case rel => exact ⟨k + 1, _, ys, by omega, by go_num, hB, hR, hne, hMp, E2, by omega, hK⟩
        case measure => simp [intOf]; omega
      · have E2 : Hid (ys ++ [s] = uniqF (l.take (k + 1))) := Lib.hid (by rw [HT.out, uniqF_snoc, ← hE.out, if_neg hin])
        rw [decide_eq_false hin]
        clear hin
        have hb0 := hB.grew ((Keeps.refl None w0).alloc (.cells #[Value.int .i64 s] 3))
        have HNE := Lib.hid hne
        have HMP := Lib.hid hMp
        have HMO := Lib.hid (show ∀ b, (Value.slice Ay ys.length cy).ownBlock = some b → b ≠ w.heap.size from fun b e q => by obtain ⟨cur, hc⟩ := owns_obj hR.raw e; rw [q, HMP.out] at hc; cases hc)
        clear hne hMp
        go_wp2_with (at_builtin; refine wpList_append_row _ rfl (.tmp 29) (.tmp 31) 52 rfl w.heap.size 3 i0 (.int .i64 0) 1 8 Try.underlying52 hi hz0 hz1 hz2 rfl (by decide) _ ys.length _ rfl (hR.raw.alloc _) (some ⟨w0.heap.size, 0, Option.none⟩) 1 1 [Value.int .i64 s] rfl rfl (fun e => by cases e) (src_new w0 3 _ _ rfl) (ints_oneCell _ [s]) (by unfold maxLen; omega) (by omega) (by simp; omega) ?_; intro v' w1 hown hk1 hloc; have hr1 : Row .i64 3 w1 w.heap.size v' (ys ++ [s]) := Row.of_append rfl rfl hown; have hb1 := hb0.keeps hk1 (fun e => HNE.out _ e rfl); have hf := hb1.free 0; have hq := hb1.cell 0 _ rfl; have hne' : ∀ b, v'.ownBlock = some b → b ≠ w.heap.size + 1 := (fun b e => by rcases hloc with h | h; (rw [h] at e; exact HNE.out b e); (rw [h] at e; cases e; simp; omega)); have HN2 := Lib.hid hne'; have HM1 := Lib.hid ((hk1.block w.heap.size (by rw [World.size_alloc]; omega) (fun e => (by have := (World.ownsRow.lt (hR.raw) _ e).1; have := HMO.out _ e; omega))).trans ((Below.heap_alloc _ _ _ (by omega)).trans HMP.out)); have hk2 : Keeps None w w1 := (hK.alloc _).own (hR.raw.alloc _) (Nat.le_refl _) hk1; obtain ⟨A', c', ev⟩ := hr1.slice; obtain rfl : v' = .slice A' (ys.length + 1) c' := ev.trans (by simp); clear hown ev hloc hne')
        have ks : Keeps (One (w.heap.size + 1)) w1 (w1.setCell ⟨w.heap.size + 1, 0, Option.none⟩ (.slice A' (ys.length + 1) c')) := (Keeps.refl _ _).setCell _ _ (fun _ => rfl)
        have hB2 := hb1.set 0 (.slice A' (ys.length + 1) c')
        simp only [List.set] at hB2
        have HMK := (ks.block w.heap.size (by have := hk2.size; have := hb1.lt; omega) (fun e => by simp only [One] at e; omega)).trans HM1.out
        go_roundw
        case rel => exact ⟨k + 1, _, ys ++ [s], by omega, by go_num, hB2, hr1.keeps ks (fun b hb e => HN2.out b hb e), HN2.out, HMK, E2, by simp; omega, hk2.andThen ks (fun i hi e => by simp only [One] at e; omega)⟩
        case measure => simp [intOf]; omega
    · obtain rfl : k = l.length := by omega
      rw [List.take_of_length_le (Nat.le_refl _)] at hE
      go_wp2_with fail
      go_ret
      rw [← hE.out]
      exact ⟨_, rfl, hB, hR, hne, hMp, hK⟩

end Go.Proofs.Ytcihfjfbcfgidaa
