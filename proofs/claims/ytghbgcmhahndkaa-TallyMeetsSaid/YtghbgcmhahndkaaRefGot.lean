/- The reference's Missing, Got, New. -/
import Derived.Test.YtghbgcmhahndkaaRefTake
namespace Go.Proofs.Ytghbgcmhahndkaa
open Go.RowKit Go.Maps
set_option linter.unusedVariables false

set_option maxRecDepth 100000 in
set_option maxHeartbeats 1600000 in
theorem refmissing_any (r base : Nat) (G : Value) (bv bh : Nat) (grp : List Int) (need : Int) (got : List (Int × Int)) (w : World) (hT : RT w r base G bv bh grp need got) (hgl : grp.length ≤ 17592186044416) :
    Calls Try.prog 49 #[.pointer (some ⟨r, 0, Option.none⟩)] w (MissEnd grp got w) := by
  obtain ⟨i0, hi, hz0, hz1, hz2⟩ := info_parts Try.infoI64
  obtain ⟨A, cv, rfl, -, hN, -⟩ := hT.row.open_
  have c0 := hT.blk.cell 0 _ rfl
  go_enter Try.func49, Try.ntmps49
  go_wp2
  go_loopw [3, 4] (fun y i wr => ∃ (k : Nat) (ys : List Int), k ≤ grp.length ∧ i = .int .i64 k ∧ Row .i64 3 wr w.heap.size y ys ∧ Hid (ys = missF (grp.take k) got) ∧ ys.length ≤ k ∧ Keeps None w wr) (fun _ i _ => grp.length - (intOf i).toNat)
  case atStart => exact ⟨0, [], Nat.zero_le _, rfl, Row.nil _ _ _ _, Lib.hid rfl, Nat.le_refl _, Keeps.refl _ _⟩
  case round =>
    obtain ⟨k, ys, hk, rfl, hw, hE, hyl, hK⟩ := hrel
    have hsz := hK.size
    have hTr := hT.grew hK
    have c0 := hTr.blk.cell 0 _ rfl
    have c2 := hTr.blk.cell 2 _ rfl
    obtain ⟨Ay, cy, rfl⟩ := hw.slice
    by_cases hlt : k < grp.length
    · obtain ⟨s, b, o, rfl, hc, hs⟩ := (hN.grew hK).get k hlt
      have HT := Lib.hid (take_succ_of hs.out)
      have ch := hTr.hasAt hs.out
      obtain ⟨H, hH⟩ : ∃ H : Bool, H = (look got s).isSome := ⟨_, rfl⟩
      rw [← hH] at ch
      cases H with
      | true =>
        have E2 : Hid (ys = missF (grp.take (k + 1)) got) := Lib.hid (by rw [HT.out, missF_snoc, ← hH, hE.out]; simp)
        clear hH
        go_wp2_with fail
        go_roundw
        case rel => exact ⟨k + 1, ys, by omega, by go_num, hw, E2, by omega, hK⟩
        case measure => simp [intOf]; omega
      | false =>
        have E2 : Hid (ys ++ [s] = missF (grp.take (k + 1)) got) := Lib.hid (by rw [HT.out, missF_snoc, ← hH, hE.out]; simp)
        clear hH
        go_wp2_with (at_builtin; refine wpList_append_row _ rfl (.tmp 22) (.tmp 30) 27 rfl w.heap.size 3 i0 (.int .i64 0) 1 8 Try.underlying27 hi hz0 hz1 hz2 rfl (by decide) _ ys.length _ rfl (hw.raw.alloc _) (some ⟨wr.heap.size, 0, Option.none⟩) 1 1 [Value.int .i64 s] rfl rfl (fun e => by cases e) (src_new wr 3 _ _ rfl) (ints_oneCell _ [s]) (by unfold maxLen; omega) (by omega) (by simp; omega) ?_; intro v' w1 hown hk1 hloc; have hr1 : Row .i64 3 w1 w.heap.size v' (ys ++ [s]) := Row.of_append rfl rfl hown; have hk2 : Keeps None w w1 := (hK.alloc _).own (hw.raw.alloc _) (Nat.le_refl _) hk1; clear hown)
        go_roundw
        case rel => exact ⟨k + 1, ys ++ [s], by omega, by go_num, hr1, E2, by simp; omega, hk2⟩
        case measure => simp [intOf]; omega
    · obtain rfl : k = grp.length := by omega
      go_wp2_with fail
      go_ret
      refine ⟨_, rfl, hw.cast ?_, hK⟩
      rw [hE.out, List.take_of_length_le (Nat.le_refl _)]

theorem ansF_at (grp l : List Int) (got : List (Int × Int)) (s : Int) (h : true = (look got s).isSome) : ansF (l ++ [s]) got = ansF l got ++ [valF got s] := by
  rw [ansF_snoc]
  unfold valF
  cases e : look got s with
  | some c => rfl
  | none => rw [e] at h; cases h

def RGot (grp : List Int) (got : List (Int × Int)) (w : World) (e : Ending) (w' : World) : Prop :=
  ∃ v1 v2, e = .returned (.tuple #[v1, v2]) ∧ Row .i64 3 w' w.heap.size v1 (hasF grp got) ∧ Row .i64 3 w' w.heap.size v2 (ansF grp got) ∧ Keeps None w w'

set_option maxRecDepth 100000 in
set_option maxHeartbeats 3200000 in
theorem refgot_any (r base : Nat) (G : Value) (bv bh : Nat) (grp : List Int) (need : Int) (got : List (Int × Int)) (w : World) (hT : RT w r base G bv bh grp need got) (hgl : grp.length ≤ 17592186044416) :
    Calls Try.prog 48 #[.pointer (some ⟨r, 0, Option.none⟩)] w (RGot grp got w) := by
  obtain ⟨i0, hi, hz0, hz1, hz2⟩ := info_parts Try.infoI64
  obtain ⟨A, cv, rfl, -, hN, -⟩ := hT.row.open_
  have c0 := hT.blk.cell 0 _ rfl
  go_enter Try.func48, Try.ntmps48
  go_wp2
  go_loopw [4, 5, 6] (fun y z i wr => ∃ (k : Nat) (ys zs : List Int), k ≤ grp.length ∧ i = .int .i64 k ∧ Row .i64 3 wr w.heap.size y ys ∧ Row .i64 3 wr w.heap.size z zs ∧ (∀ b, y.ownBlock = some b → ¬ z.ownBlock = some b) ∧ Hid (ys = hasF (grp.take k) got) ∧ Hid (zs = ansF (grp.take k) got) ∧ ys.length ≤ k ∧ zs.length ≤ k ∧ Keeps None w wr) (fun _ _ i _ => grp.length - (intOf i).toNat)
  case atStart => exact ⟨0, [], [], Nat.zero_le _, rfl, Row.nil _ _ _ _, Row.nil _ _ _ _, fun b e => by simp [Value.ownBlock] at e, Lib.hid rfl, Lib.hid rfl, Nat.le_refl _, Nat.le_refl _, Keeps.refl _ _⟩
  case round =>
    obtain ⟨k, ys, zs, hk, rfl, hw, hz, hne, hE, hF, hyl, hzl, hK⟩ := hrel
    have hsz := hK.size
    have hTr := hT.grew hK
    have c0 := hTr.blk.cell 0 _ rfl
    have c2 := hTr.blk.cell 2 _ rfl
    by_cases hlt : k < grp.length
    · obtain ⟨s, b, o, rfl, hc, hs⟩ := (hN.grew hK).get k hlt
      have HT := Lib.hid (take_succ_of hs.out)
      have ch := hTr.hasAt hs.out
      obtain ⟨H, hH⟩ : ∃ H : Bool, H = (look got s).isSome := ⟨_, rfl⟩
      rw [← hH] at ch
      obtain ⟨Ay, cy, rfl⟩ := hw.slice
      obtain ⟨Az, cz, rfl⟩ := hz.slice
      cases H with
      | false =>
        have E2 : Hid (ys = hasF (grp.take (k + 1)) got) := Lib.hid (by rw [HT.out, hasF_snoc, ← hH, hE.out]; simp)
        have F2 : Hid (zs = ansF (grp.take (k + 1)) got) := Lib.hid (by rw [HT.out, ansF_snoc, hF.out]; cases e : look got s with
          | none => simp
          | some c => rw [e] at hH; cases hH)
        clear hH
        go_wp2_with fail
        go_roundw
        case rel => exact ⟨k + 1, ys, zs, by omega, by go_num, hw, hz, hne, E2, F2, by omega, by omega, hK⟩
        case measure => simp [intOf]; omega
      | true =>
        have E2 : Hid (ys ++ [s] = hasF (grp.take (k + 1)) got) := Lib.hid (by rw [HT.out, hasF_snoc, ← hH, hE.out]; simp)
        have F2 : Hid (zs ++ [valF got s] = ansF (grp.take (k + 1)) got) := Lib.hid (by rw [HT.out, ansF_at grp _ got s hH, hF.out])
        clear hH
        obtain ⟨x, hx⟩ : ∃ x, x = valF got s := ⟨_, rfl⟩
        have hva : ∀ w', RT w' r base (.slice (some ⟨b, o, Option.none⟩) grp.length cv) bv bh grp need got → w'.cell? ⟨bv, k, Option.none⟩ = some (.int .i64 x) := fun w' h => by rw [hx]; exact h.valAt hs.out
        rw [← hx] at F2
        have HVA := Lib.hid hva
        clear hva hx
        go_wp2_with (first
          | (at_builtin; refine wpList_append_row _ rfl (.tmp 23) (.tmp 31) 27 rfl w.heap.size 3 i0 (.int .i64 0) 1 8 Try.underlying27 hi hz0 hz1 hz2 rfl (by decide) _ ys.length _ rfl (hw.raw.alloc _) (some ⟨wr.heap.size, 0, Option.none⟩) 1 1 [Value.int .i64 s] rfl rfl (fun e => by cases e) (src_new wr 3 _ _ rfl) (ints_oneCell _ [s]) (by unfold maxLen; omega) (by omega) (by simp; omega) ?_; intro v1 w1 hown hk1 hloc1; have hr1 : Row .i64 3 w1 w.heap.size v1 (ys ++ [s]) := Row.of_append rfl rfl hown; have hk2 : Keeps None w w1 := (hK.alloc _).own (hw.raw.alloc _) (Nat.le_refl _) hk1; have hz1 : Row .i64 3 w1 w.heap.size _ zs := Row.keeps (hz.grew ((Keeps.refl None wr).alloc (.cells #[Value.int .i64 s] 3))) hk1 (fun b e f => hne b f e); have hn1 : ∀ b, v1.ownBlock = some b → ¬ (Value.slice Az zs.length cz).ownBlock = some b := (fun b e f => by rcases hloc1 with l | l; (exact hne b (l ▸ e) f); rw [e] at l; have := (hz.lt b f).2; simp at l; omega); have hT1 := hT.grew hk2; have d0 := hT1.blk.cell 0 _ rfl; have d1 := hT1.blk.cell 1 _ rfl; have dv := HVA.out _ hT1; have hs1 := hk2.size; clear hown)
          | (at_builtin; refine wpList_append_row _ rfl (.tmp 33) (.tmp 41) 27 rfl w.heap.size 3 i0 (.int .i64 0) 1 8 Try.underlying27 hi hz0 ‹i0.size = 1› hz2 rfl (by decide) _ zs.length _ rfl (hz1.raw.alloc _) (some ⟨w1.heap.size, 0, Option.none⟩) 1 1 [Value.int .i64 x] rfl rfl (fun e => by cases e) (src_new w1 3 _ _ rfl) (ints_oneCell _ [x]) (by unfold maxLen; omega) (by omega) (by simp; omega) ?_; intro v2 w2 hown hk3 hloc2; have hr2 : Row .i64 3 w2 w.heap.size v2 (zs ++ [x]) := Row.of_append rfl rfl hown; have hk4 : Keeps None w w2 := (hk2.alloc _).own (hz1.raw.alloc _) (Nat.le_refl _) hk3; have hr3 : Row .i64 3 w2 w.heap.size v1 (ys ++ [s]) := Row.keeps (hr1.grew ((Keeps.refl None w1).alloc (.cells #[Value.int .i64 x] 3))) hk3 (fun b e f => hn1 b e f); have hn2 : ∀ b, v1.ownBlock = some b → ¬ v2.ownBlock = some b := (fun b e f => by rcases hloc2 with l | l; (exact hn1 b e (l ▸ f)); rw [f] at l; have := (hr1.lt b e).2; simp at l; omega); clear hown))
        go_roundw
        case rel => exact ⟨k + 1, ys ++ [s], zs ++ [x], by omega, by go_num, hr3, hr2, hn2, E2, F2, by simp; omega, by simp; omega, hk4⟩
        case measure => simp [intOf]; omega
    · obtain rfl : k = grp.length := by omega
      go_wp2_with fail
      refine bodyPost_ret (results_tmp2 rfl _ _ _) rfl ?_
      have h1 := hE.out
      have h2 := hF.out
      rw [List.take_of_length_le (Nat.le_refl _)] at h1 h2
      exact ⟨_, _, rfl, hw.cast h1, hz.cast h2, hK⟩
end Go.Proofs.Ytghbgcmhahndkaa
