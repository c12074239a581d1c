/- The program's tally of blocks: its state, New, Enough, Take, Missing. -/
import Derived.Test.YtcihfjfbcfgidaaTalG
import Derived.Test.YtcihfjfbcfgidaaTallyBlk
namespace Go.Proofs.Ytcihfjfbcfgidaa.TB
open Go.RowKit Go.Maps Go.Proofs.Ytcihfjfbcfgidaa.TG

def zeroB : Value := .agg #[.int .i64 0, .int .i64 0, .slice Option.none 0 0]
theorem zeroV (w : World) : (zeroValue 26).run Try.prog w = .ok zeroB w := by kernel_rfl

/-! ### The tally's state -/
structure Tal (w : World) (g base : Nat) (v : Value) (grp : List Int) (need : Int) (bm : Nat) (got : List (Int × Value)) : Prop where
  blk : Blk w g 171 [v, .int .i64 need, .map (some bm)]
  row : Row .i64 3 w base v grp
  map : ∃ D : DataW Value, w.ownsMap Try.prog 3 heldElem bm got.length D ∧ TD D got
  hg : base ≤ g ∧ base ≤ bm
  ne : g ≠ bm ∧ (∀ b, v.ownBlock = some b → b ≠ g ∧ b ≠ bm)
  shape : ∀ p ∈ got, ∃ n c A m cap, p.2 = blkV (n, c) (.slice A m cap)

theorem Tal.lt {w : World} {g base : Nat} {v : Value} {grp : List Int} {need : Int} {bm : Nat} {got : List (Int × Value)} (h : Tal w g base v grp need bm got) : g < w.heap.size ∧ bm < w.heap.size := by
  obtain ⟨D, ⟨es, clock, h1, _⟩, _⟩ := h.map
  exact ⟨h.blk.lt, lt_of_block h1⟩
theorem Tal.keeps {S : Nat → Prop} {w w' : World} {g base : Nat} {v : Value} {grp : List Int} {need : Int} {bm : Nat} {got : List (Int × Value)} (h : Tal w g base v grp need bm got) (hk : Keeps S w w') (hg : ¬ S g) (hb : ¬ S bm) (hv : ∀ b, v.ownBlock = some b → ¬ S b) : Tal w' g base v grp need bm got := by
  obtain ⟨D, h1, h2⟩ := h.map
  exact ⟨h.blk.keeps hk hg, h.row.keeps hk hv, ⟨D, ownsMap_block h1 (fun hlt => hk.block bm hlt hb), h2⟩, h.hg, h.ne, h.shape⟩
theorem Tal.grew {w w' : World} {g base : Nat} {v : Value} {grp : List Int} {need : Int} {bm : Nat} {got : List (Int × Value)} (h : Tal w g base v grp need bm got) (hk : Keeps None w w') : Tal w' g base v grp need bm got := h.keeps hk id id (fun _ _ f => f)
theorem Tal.down {w : World} {g base base' : Nat} {v : Value} {grp : List Int} {need : Int} {bm : Nat} {got : List (Int × Value)} (h : Tal w g base v grp need bm got) (hb : base' ≤ base) : Tal w g base' v grp need bm got := ⟨h.blk, h.row.down hb, h.map, ⟨Nat.le_trans hb h.hg.1, Nat.le_trans hb h.hg.2⟩, h.ne, h.shape⟩
theorem Drew.tal {w w' : World} {g base : Nat} {v : Value} {grp : List Int} {need : Int} {bm : Nat} {got : List (Int × Value)} (h : Tal w g base v grp need bm got) (hd : Drew w w') : Tal w' g base v grp need bm got := h.grew (hd.keeps None)

theorem new_any (A : Option Addr) (n cap : Nat) (l : List Int) (need : Int) (w : World) (hA : Nums .i64 w A l) (hn : l.length = n) (hr : n ≤ 17592186044416) :
    Calls Try.prog 90 #[.slice A n cap, .int .i64 need] w fun e w' => ∃ v,
      e = .returned (.pointer (some ⟨w.heap.size + 1, 0, Option.none⟩)) ∧ Tal w' (w.heap.size + 1) w.heap.size v (uniqF l) need w.heap.size [] ∧ Keeps None w w' := by
  refine (newB_any A n cap l need w hA hn hr).mono ?_
  rintro e w' ⟨v, rfl, hB, hR, hne, hm, hk⟩
  refine ⟨v, rfl, ⟨hB, hR, ⟨.map [], ownsMap_empty hm, TD.nil⟩, ⟨by omega, Nat.le_refl _⟩, ⟨by omega, fun b e => ⟨hne b e, fun f => ?_⟩⟩, (fun _ h => by cases h)⟩, hk⟩
  subst f
  obtain ⟨cur, hc⟩ := owns_obj hR.raw e
  rw [hm] at hc
  cases hc

set_option maxRecDepth 100000 in
set_option maxHeartbeats 1600000 in
theorem enough_any (g base : Nat) (v : Value) (grp : List Int) (need : Int) (bm : Nat) (got : List (Int × Value)) (w : World) (hT : Tal w g base v grp need bm got) :
    Calls Try.prog 95 #[.pointer (some ⟨g, 0, Option.none⟩)] w fun e w' => Drew w w' ∧ e = .returned (.bool (decide (need ≤ (got.length : Int)))) := by
  obtain ⟨D, hD, hTD⟩ := hT.map
  have c1 := hT.blk.cell 1 _ rfl
  have c2 := hT.blk.cell 2 _ rfl
  have hlen : ∀ n ty, (Builtin.len_ #[169] ty #[.map (some bm)]).run Try.prog (w.drewN n) = .ok (.int .i64 (Maps.size D)) (w.drewN n) := fun n ty => World.ownsMap.len (ownsMap_block (w' := w.drewN n) hD (fun _ => rfl)) Try.underlying169 ty
  have hs := hTD.size
  rw [hs] at hlen
  go_enter Try.func95, Try.ntmps95
  go_wp2
  go_quiet (fail)
  go_wp2
  go_ret
  exact ⟨⟨_, rfl⟩, rfl⟩

def Took (g base : Nat) (v : Value) (grp : List Int) (need : Int) (bm : Nat) (got : List (Int × Value)) (s : Int) (x : Value) (w : World) (e : Ending) (w' : World) : Prop :=
  e = .returned (.bool (TookB grp need got s)) ∧ Tal w' g base v grp need bm (tookF grp need got s x) ∧ Keeps (One bm) w w'

set_option maxRecDepth 100000 in
set_option maxHeartbeats 1600000 in
theorem take_any (g base : Nat) (v : Value) (grp : List Int) (need : Int) (bm : Nat) (got : List (Int × Value)) (s x1 x2 : Int) (Ax : Option Addr) (mx cx : Nat) (w : World) (hT : Tal w g base v grp need bm got) (hs : (Lit.int .i64 s).wf = true) (hgl : grp.length ≤ 140737488351232) (hl : got.length ≤ 140737488351232) :
    Calls Try.prog 96 #[.pointer (some ⟨g, 0, Option.none⟩), .int .i64 s, blkV (x1, x2) (.slice Ax mx cx)] w (Took g base v grp need bm got s (blkV (x1, x2) (.slice Ax mx cx)) w) := by
  have hkey := keyOf_int_mk Try.underlying3 hs
  have hbX := Blk.new w 26 [.int .i64 x1, .int .i64 x2, .slice Ax mx cx]
  have kX := (Keeps.refl None w).alloc (.cells #[.int .i64 x1, .int .i64 x2, .slice Ax mx cx] 26)
  have hT0 := hT.grew kX
  obtain ⟨D, hD, hTD⟩ := hT0.map
  have c0 := hT0.blk.cell 0 _ rfl
  have c2 := hT0.blk.cell 2 _ rfl
  obtain ⟨A, cv, rfl, -, hN, -⟩ := hT.row.open_
  have hhas := hTD.has s
  have HV := Lib.hid (hTD.val s)
  have HSH := Lib.hid hT.shape
  obtain ⟨L, hL⟩ : ∃ L, L = lookV got s := ⟨_, rfl⟩
  rw [← hL] at hhas HV
  have HTD := Lib.hid hTD
  have HH := Lib.hid hL
  clear hTD hL
  cases L with
  | some c =>
    have hhas : Maps.has D (.int .i64 s) = true := hhas
    have E : Hid (takes grp need got s = false) := Lib.hid (by unfold takes; rw [← HH.out]; rfl)
    obtain ⟨n, cc, Ac, mc, capc, ec⟩ := HSH.out _ (lookV_mem HH.out.symm)
    simp only [blkV] at ec ⊢
    have HEC := Lib.hid ec
    clear ec
    go_enter Try.func96, Try.ntmps96
    go_wp2_with (at_lookup; refine wpList_lookup_own_ok _ rfl _ _ 169 rfl 3 26 keyI Try.underlying169 heldElem (zeroV _) _ [] rfl bm got.length D rfl hD _ _ rfl hkey ?_; intro v' ps hat; rw [hhas]; obtain rfl : v' = .agg #[.int .i64 n, .int .i64 cc, .slice Ac mc capc] := by { have h1 := HV.out c rfl (.held zeroB); rw [h1] at hat; cases hat; exact HEC.out })
    go_ret
    exact ⟨ret_bool (by unfold TookB; rw [E.out]; rfl), by unfold tookF; rw [E.out]; exact (hT0.grew ((Keeps.refl _ _).alloc _)), (kX.alloc _).of_none⟩
  | none =>
    have hhas : Maps.has D (.int .i64 s) = false := hhas
    have hatz := atKey_of_not_has hhas (.held zeroB)
    simp only [blkV]
    go_enter Try.func96, Try.ntmps96
    go_wp2_with (at_lookup; refine wpList_lookup_own_ok _ rfl _ _ 169 rfl 3 26 keyI Try.underlying169 heldElem (zeroV _) _ [] rfl bm got.length D rfl hD _ _ rfl hkey ?_; intro v' ps hat; rw [hhas]; obtain rfl : v' = .agg #[.int .i64 0, .int .i64 0, .slice Option.none 0 0] := by { rw [hatz] at hat; cases hat; rfl })
    have k1 := (kX.alloc (.cells #[.int .i64 0, .int .i64 0, .slice Option.none 0 0] 26))
    have hbX1 := hbX.alloc (.cells #[.int .i64 0, .int .i64 0, .slice Option.none 0 0] 26)
    have hT1 := hT0.grew ((Keeps.refl _ _).alloc (.cells #[.int .i64 0, .int .i64 0, .slice Option.none 0 0] 26))
    refine (enough_any g base _ grp need bm got _ hT1).mono ?_
    rintro e w1 ⟨hd1, rfl⟩
    have hK1 := k1.trans (hd1.keeps None)
    have hbX2 := hbX1.grew (hd1.keeps None)
    have hT2 := Drew.tal hT1 hd1
    clear hT1 hd1 hbX hbX1 hT0 c0 c2 hD
    have c0 := hT2.blk.cell 0 _ rfl
    have c2 := hT2.blk.cell 2 _ rfl
    have hN1 := hN.grew hK1
    by_cases hen : need ≤ (got.length : Int)
    · have E : Hid (takes grp need got s = false) := Lib.hid (by unfold takes; simp [hen])
      go_wp2_with fail
      go_ret
      exact ⟨ret_bool (by unfold TookB; rw [E.out]; rfl), by unfold tookF; rw [E.out]; exact hT2, hK1.of_none⟩
    · go_wp2_with fail
      refine (contains_any A grp.length cv grp s w1 hN1 rfl hgl).mono ?_
      rintro e w2 ⟨rfl, rfl⟩
      by_cases hin : s ∈ grp
      · have E : Hid (takes grp need got s = true) := Lib.hid (by unfold takes; simp [hen, hin, ← HH.out])
        rw [decide_eq_true hin]
        have x0 := hbX2.cell 0 _ rfl
        have x1' := hbX2.cell 1 _ rfl
        have x2' := hbX2.cell 2 _ rfl
        go_wp2_with fail
        go_still_tail 6, (by kernel_rfl)
        change wpList _ _ _ _ _ w2.drew
        have hT3 := hT2.grew (Keeps.refl None w2).drew
        have kd : Keeps None w2 w2.drew := (Keeps.refl None w2).drew
        obtain ⟨wq, hwq⟩ : ∃ wq, wq = w2.drew := ⟨_, rfl⟩
        rw [← hwq] at hT3 kd ⊢
        clear hwq hT2 c0 c2 x0 x1' x2'
        obtain ⟨D1, hD1, hTD1⟩ := hT3.map
        have hput := Lib.hid (hTD1.put (hD1.tidy keyI) s (.agg #[.int .i64 x1, .int .i64 x2, .slice Ax mx cx]) (by simpa using HH.out.symm))
        clear hTD1
        go_wp2_with (at_mapUpdate; refine wpList_mapUpdate_own _ rfl _ _ _ 169 rfl 3 26 keyI Try.underlying169 heldElem bm got.length _ rfl hD1 (by unfold maxLen; omega) _ _ _ rfl rfl hkey _ [] rfl ?_; intro w3 hown3 hgrow3)
        have hkg : Keeps (One bm) wq w3 := (Keeps.refl _ _).grown hgrow3 (fun k e _ => (Option.some.inj e).symm)
        have hT4 : Tal w3 g base (.slice A grp.length cv) grp need bm (got ++ [(s, .agg #[.int .i64 x1, .int .i64 x2, .slice Ax mx cx])]) :=
          ⟨hT3.blk.keeps hkg hT3.ne.1, hT3.row.keeps hkg (fun b e f => (hT3.ne.2 b e).2 f), ⟨_, by rw [List.length_append]; exact hown3, hput.out⟩, hT3.hg, hT3.ne,
            fun p hp => by
              rcases List.mem_append.1 hp with hp | hp
              · exact HSH.out p hp
              · obtain rfl := List.mem_singleton.1 hp
                exact ⟨_, _, _, _, _, rfl⟩⟩
        refine (enough_any g base _ grp need bm (got ++ [(s, .agg #[.int .i64 x1, .int .i64 x2, .slice Ax mx cx])]) w3 hT4).mono ?_
        rintro e w4 ⟨hd4, rfl⟩
        have hT5 := Drew.tal hT4 hd4
        go_wp2_with fail
        go_ret
        exact ⟨ret_bool (by unfold TookB; rw [E.out]; simp), by unfold tookF; rw [E.out]; exact hT5, (((hK1.trans kd).of_none).trans hkg).trans (hd4.keeps _)⟩
      · have E : Hid (takes grp need got s = false) := Lib.hid (by unfold takes; simp [hin])
        rw [decide_eq_false hin]
        go_wp2_with fail
        go_ret
        exact ⟨ret_bool (by unfold TookB; rw [E.out]; rfl), by unfold tookF; rw [E.out]; exact hT2, hK1.of_none⟩
def MissEnd (grp : List Int) (got : List (Int × Value)) (w : World) (e : Ending) (w' : World) : Prop := ∃ v, e = .returned v ∧ Row .i64 3 w' w.heap.size v (missF grp got) ∧ Keeps None w w'

set_option maxRecDepth 100000 in
set_option maxHeartbeats 1600000 in
theorem missing_any (g base : Nat) (v : Value) (grp : List Int) (need : Int) (bm : Nat) (got : List (Int × Value)) (w : World) (hT : Tal w g base v grp need bm got) (hwf : ∀ s ∈ grp, (Lit.int .i64 s).wf = true) (hgl : grp.length ≤ 17592186044416) :
    Calls Try.prog 106 #[.pointer (some ⟨g, 0, Option.none⟩)] w (MissEnd grp got w) := by
  obtain ⟨i0, hi, hz0, hz1, hz2⟩ := info_parts Try.infoI64
  obtain ⟨A, cv, rfl, -, hN, -⟩ := hT.row.open_
  have c0 := hT.blk.cell 0 _ rfl
  have HSH := Lib.hid hT.shape
  go_enter Try.func106, Try.ntmps106
  go_wp2
  go_loopw [3, 13] (fun y i wr => ∃ (k : Nat) (ys : List Int), k ≤ grp.length ∧ i = .int .i64 k ∧ Row .i64 3 wr w.heap.size y ys ∧ Hid (ys = missF (grp.take k) got) ∧ ys.length ≤ k ∧ Keeps None w wr) (fun _ i _ => grp.length - (intOf i).toNat)
  case atStart => exact ⟨0, [], Nat.zero_le _, rfl, Row.nil _ _ _ _, Lib.hid rfl, Nat.le_refl _, Keeps.refl _ _⟩
  case round =>
    obtain ⟨k, ys, hk, rfl, hw, hE, hyl, hK⟩ := hrel
    have hsz := hK.size
    obtain ⟨Ay, cy, rfl⟩ := hw.slice
    by_cases hlt : k < grp.length
    · obtain ⟨s, b, o, rfl, hc, hs⟩ := (hN.grew hK).get k hlt
      have hT1 := hT.grew hK
      obtain ⟨D, hD, hTD⟩ := hT1.map
      have c0 := hT1.blk.cell 0 _ rfl
      have c2 := hT1.blk.cell 2 _ rfl
      have hkey := keyOf_int_mk Try.underlying3 (hwf s (List.mem_of_getElem? hs.out))
      have hhas := hTD.has s
      have HT := Lib.hid (take_succ_of hs.out)
      have HV := Lib.hid (hTD.val s)
      obtain ⟨L, hL⟩ : ∃ L, L = lookV got s := ⟨_, rfl⟩
      rw [← hL] at hhas HV
      have HH := Lib.hid hL
      clear hTD hL
      cases L with
      | some c =>
        have hhas : Maps.has D (.int .i64 s) = true := hhas
        obtain ⟨n, cc, Ac, mc, capc, ec⟩ := HSH.out _ (lookV_mem HH.out.symm)
        simp only [blkV] at ec
        have HEC := Lib.hid ec
        clear ec
        go_wp2_with (at_lookup; refine wpList_lookup_own_ok _ rfl _ _ 169 rfl 3 26 keyI Try.underlying169 heldElem (zeroV _) _ [] rfl bm got.length D rfl hD _ _ rfl hkey ?_; intro v' ps hat; rw [hhas]; obtain rfl : v' = .agg #[.int .i64 n, .int .i64 cc, .slice Ac mc capc] := by { have h1 := HV.out c rfl (.held zeroB); rw [h1] at hat; cases hat; exact HEC.out })
        go_roundw
        case rel => exact ⟨k + 1, ys, by omega, by go_num, hw.grew ((Keeps.refl _ _).alloc _), Lib.hid (by rw [HT.out, missF_snoc, ← HH.out, hE.out]; simp), by omega, hK.alloc _⟩
        case measure => simp [intOf]; omega
      | none =>
        have hhas : Maps.has D (.int .i64 s) = false := hhas
        have hatz := Lib.hid (atKey_of_not_has hhas (.held zeroB))
        have hw1 := hw.grew ((Keeps.refl _ _).alloc (.cells #[.int .i64 0, .int .i64 0, .slice Option.none 0 0] 26))
        go_wp2_with (first
          | (at_lookup; refine wpList_lookup_own_ok _ rfl _ _ 169 rfl 3 26 keyI Try.underlying169 heldElem (zeroV _) _ [] rfl bm got.length D rfl hD _ _ rfl hkey ?_; intro v' ps hat; rw [hhas]; obtain rfl : v' = .agg #[.int .i64 0, .int .i64 0, .slice Option.none 0 0] := by { rw [hatz.out] at hat; cases hat; rfl })
          | (at_builtin; refine wpList_append_row _ rfl (.tmp 28) (.tmp 30) 52 rfl w.heap.size 3 i0 (.int .i64 0) 1 8 Try.underlying52 hi hz0 hz1 hz2 rfl (by decide) _ ys.length _ rfl (hw1.raw.alloc _) (some ⟨wr.heap.size + 1, 0, Option.none⟩) 1 1 [Value.int .i64 s] rfl rfl (fun e => by cases e) (src_new (wr.alloc (.cells #[.int .i64 0, .int .i64 0, .slice Option.none 0 0] 26)) 3 _ _ (by simp)) (ints_oneCell _ [s]) (by unfold maxLen; omega) (by omega) (by simp; omega) ?_; intro v' w1 hown hk1 hloc; have hr1 : Row .i64 3 w1 w.heap.size v' (ys ++ [s]) := Row.of_append rfl rfl hown; have hk2 : Keeps None w w1 := ((hK.alloc _).alloc _).own (hw1.raw.alloc _) (Nat.le_refl _) hk1; clear hown))
        go_roundw
        case rel => exact ⟨k + 1, ys ++ [s], by omega, by go_num, hr1, Lib.hid (by rw [HT.out, missF_snoc, ← HH.out, hE.out]; simp), by simp; omega, hk2⟩
        case measure => simp [intOf]; omega
    · obtain rfl : k = grp.length := by omega
      go_wp2
      go_ret
      refine ⟨_, rfl, hw.cast ?_, hK⟩
      rw [hE.out, List.take_of_length_le (Nat.le_refl _)]
end Go.Proofs.Ytcihfjfbcfgidaa.TB
