/- The program's tally of tallies: its state, New, Enough, Take. -/
import Derived.Test.YtghbgcmhahndkaaTalG
import Derived.Test.YtghbgcmhahndkaaTallyNew
namespace Go.Proofs.Ytghbgcmhahndkaa.KZ
open Go.RowKit Go.Maps Go.Proofs.Ytghbgcmhahndkaa.TG
set_option linter.unusedVariables false

/-- A row's block holds cells. -/
theorem owns_obj {w : World} {base e size n : Nat} {v : Value} {xs : List Value} {b : Nat} (h : w.ownsRow base e size v n xs) (hb : v.ownBlock = some b) : ∃ cur, w.heap[b]? = some (.cells cur e (0, 0)) := by
  rcases h.2 with ⟨rfl, _⟩ | ⟨g, cap, cur, rfl, _, hg, _⟩
  · cases hb
  · cases hb; exact ⟨cur, hg⟩

set_option maxRecDepth 100000 in
set_option maxHeartbeats 1600000 in
theorem newB_any (A : Option Addr) (n cap : Nat) (l : List Int) (need : Int) (w : World) (hA : Nums .i64 w A l) (hn : l.length = n) (hr : n ≤ 17592186044416) :
    Calls Try.prog 29 #[.slice A n cap, .int .i64 need] w fun e w' => ∃ v,
      e = .returned (.pointer (some ⟨w.heap.size + 1, 0, Option.none⟩)) ∧ Blk w' (w.heap.size + 1) 100 [v, .int .i64 need, .map (some w.heap.size)] ∧
      Row .i64 3 w' w.heap.size v (uniqF l) ∧ (∀ b, v.ownBlock = some b → b ≠ w.heap.size + 1) ∧ w'.heap[w.heap.size]? = some (.map #[] 0) ∧ Keeps None w w' := by
  obtain ⟨i0, hi, hz0, hz1, hz2⟩ := info_parts Try.infoI64
  have hmm := @run_makeMap Try.prog
  subst hn
  go_enter Try.func29, Try.ntmps29
  go_wp2
  go_loopw [14] (fun i wr => ∃ (k : Nat) (v : Value) (ys : List Int), k ≤ l.length ∧ i = .int .i64 k ∧ Blk wr (w.heap.size + 1) 100 [v, .int .i64 need, .map (some w.heap.size)] ∧ Row .i64 3 wr w.heap.size v ys ∧ (∀ b, v.ownBlock = some b → b ≠ w.heap.size + 1) ∧ wr.heap[w.heap.size]? = some (.map #[] 0) ∧ Hid (ys = uniqF (l.take k)) ∧ ys.length ≤ k ∧ Keeps None w wr) (fun i _ => l.length - (intOf i).toNat)
  case atStart =>
    refine ⟨0, .slice Option.none 0 0, [], Nat.zero_le _, rfl, ?_, Row.nil _ _ _ _, fun b e => by simp [Value.ownBlock] at e, ?_, Lib.hid rfl, Nat.le_refl _, ((Keeps.refl _ _).alloc _).alloc _⟩
    · have := Blk.new (w.alloc (.map #[] 0)) 100 [.slice Option.none 0 0, .int .i64 need, .map (some w.heap.size)]
      rwa [World.size_alloc] at this
    · exact (Below.heap_alloc _ _ _ (by simp)).trans (heap_alloc_new w _)
  case round =>
    obtain ⟨k, v, ys, hk, rfl, hB, hR, hne, hMp, hE, hyl, hK⟩ := hrel
    have hsz := hK.size
    have hBl := hB.lt
    obtain ⟨Ay, cy, rfl, -, hNy, -⟩ := hR.open_
    have c0 := hB.cell 0 _ rfl
    by_cases hlt : k < l.length
    · obtain ⟨s, b, o, rfl, hc, hs⟩ := (hA.grew hK).get k hlt
      have HT := Lib.hid (take_succ_of hs.out)
      go_wp2_with fail
      refine (contains_any Ay ys.length cy ys s wr hNy rfl (by omega)).mono ?_
      rintro e w0 ⟨rfl, rfl⟩
      by_cases hin : s ∈ ys
      · have E2 : Hid (ys = uniqF (l.take (k + 1))) := Lib.hid (by rw [HT.out, uniqF_snoc, ← hE.out, if_pos hin])
        rw [decide_eq_true hin]
        clear hin
        go_wp2_with fail
        go_roundw
        case rel => exact ⟨k + 1, _, ys, by omega, by go_num, hB, hR, hne, hMp, E2, by omega, hK⟩
        case measure => simp [intOf]; omega
      · have E2 : Hid (ys ++ [s] = uniqF (l.take (k + 1))) := Lib.hid (by rw [HT.out, uniqF_snoc, ← hE.out, if_neg hin])
        rw [decide_eq_false hin]
        clear hin
        have hb0 := hB.grew ((Keeps.refl None w0).alloc (.cells #[Value.int .i64 s] 3))
        have HNE := Lib.hid hne
        have HMP := Lib.hid hMp
        have HMO := Lib.hid (show ∀ b, (Value.slice Ay ys.length cy).ownBlock = some b → b ≠ w.heap.size from fun b e q => by obtain ⟨cur, hc⟩ := owns_obj hR.raw e; rw [q, HMP.out] at hc; cases hc)
        clear hne hMp
        go_wp2_with (at_builtin; refine wpList_append_row _ rfl (.tmp 29) (.tmp 31) 27 rfl w.heap.size 3 i0 (.int .i64 0) 1 8 Try.underlying27 hi hz0 hz1 hz2 rfl (by decide) _ ys.length _ rfl (hR.raw.alloc _) (some ⟨w0.heap.size, 0, Option.none⟩) 1 1 [Value.int .i64 s] rfl rfl (fun e => by cases e) (src_new w0 3 _ _ rfl) (ints_oneCell _ [s]) (by unfold maxLen; omega) (by omega) (by simp; omega) ?_; intro v' w1 hown hk1 hloc; have hr1 : Row .i64 3 w1 w.heap.size v' (ys ++ [s]) := Row.of_append rfl rfl hown; have hb1 := hb0.keeps hk1 (fun e => HNE.out _ e rfl); have hf := hb1.free 0; have hq := hb1.cell 0 _ rfl; have hne' : ∀ b, v'.ownBlock = some b → b ≠ w.heap.size + 1 := (fun b e => by rcases hloc with h | h; (rw [h] at e; exact HNE.out b e); (rw [h] at e; cases e; simp; omega)); have HN2 := Lib.hid hne'; have HM1 := Lib.hid ((hk1.block w.heap.size (by rw [World.size_alloc]; omega) (fun e => (by have := (World.ownsRow.lt (hR.raw) _ e).1; have := HMO.out _ e; omega))).trans ((Below.heap_alloc _ _ _ (by omega)).trans HMP.out)); have hk2 : Keeps None w w1 := (hK.alloc _).own (hR.raw.alloc _) (Nat.le_refl _) hk1; obtain ⟨A', c', ev⟩ := hr1.slice; obtain rfl : v' = .slice A' (ys.length + 1) c' := ev.trans (by simp); clear hown ev hloc hne')
        have ks : Keeps (One (w.heap.size + 1)) w1 (w1.setCell ⟨w.heap.size + 1, 0, Option.none⟩ (.slice A' (ys.length + 1) c')) := (Keeps.refl _ _).setCell _ _ (fun _ => rfl)
        have hB2 := hb1.set 0 (.slice A' (ys.length + 1) c')
        simp only [List.set] at hB2
        have HMK := (ks.block w.heap.size (by have := hk2.size; have := hb1.lt; omega) (fun e => by simp only [One] at e; omega)).trans HM1.out
        go_roundw
        case rel => exact ⟨k + 1, _, ys ++ [s], by omega, by go_num, hB2, hr1.keeps ks (fun b hb e => HN2.out b hb e), HN2.out, HMK, E2, by simp; omega, hk2.andThen ks (fun i hi e => by simp only [One] at e; omega)⟩
        case measure => simp [intOf]; omega
    · obtain rfl : k = l.length := by omega
      rw [List.take_of_length_le (Nat.le_refl _)] at hE
      go_wp2_with fail
      go_ret
      rw [← hE.out]
      exact ⟨_, rfl, hB, hR, hne, hMp, hK⟩

def val (x : Nat) : Value := .pointer (some ⟨x, 0, Option.none⟩)
def zeroB : Value := .pointer Option.none
theorem zeroV (w : World) : (zeroValue 49).run Try.prog w = .ok zeroB w := by kernel_rfl

/-! ### The tally's state -/
structure Tal (w : World) (g base : Nat) (v : Value) (grp : List Int) (need : Int) (bm : Nat) (got : List (Int × Value)) : Prop where
  blk : Blk w g 100 [v, .int .i64 need, .map (some bm)]
  row : Row .i64 3 w base v grp
  map : ∃ D : DataW Value, w.ownsMap Try.prog 3 heldElem bm got.length D ∧ TG.TD D got
  hg : base ≤ g ∧ base ≤ bm
  ne : g ≠ bm ∧ (∀ b, v.ownBlock = some b → b ≠ g ∧ b ≠ bm)
  shape : ∀ p ∈ got, ∃ x, p.2 = val x

theorem Tal.lt {w : World} {g base : Nat} {v : Value} {grp : List Int} {need : Int} {bm : Nat} {got : List (Int × Value)} (h : Tal w g base v grp need bm got) : g < w.heap.size ∧ bm < w.heap.size := by
  obtain ⟨D, ⟨es, clock, h1, _⟩, _⟩ := h.map
  exact ⟨h.blk.lt, lt_of_block h1⟩
theorem Tal.keeps {S : Nat → Prop} {w w' : World} {g base : Nat} {v : Value} {grp : List Int} {need : Int} {bm : Nat} {got : List (Int × Value)} (h : Tal w g base v grp need bm got) (hk : Keeps S w w') (hg : ¬ S g) (hb : ¬ S bm) (hv : ∀ b, v.ownBlock = some b → ¬ S b) : Tal w' g base v grp need bm got := by
  obtain ⟨D, h1, h2⟩ := h.map
  exact ⟨h.blk.keeps hk hg, h.row.keeps hk hv, ⟨D, ownsMap_block h1 (fun hlt => hk.block bm hlt hb), h2⟩, h.hg, h.ne, h.shape⟩
theorem Tal.grew {w w' : World} {g base : Nat} {v : Value} {grp : List Int} {need : Int} {bm : Nat} {got : List (Int × Value)} (h : Tal w g base v grp need bm got) (hk : Keeps None w w') : Tal w' g base v grp need bm got := h.keeps hk id id (fun _ _ f => f)
theorem Tal.down {w : World} {g base base' : Nat} {v : Value} {grp : List Int} {need : Int} {bm : Nat} {got : List (Int × Value)} (h : Tal w g base v grp need bm got) (hb : base' ≤ base) : Tal w g base' v grp need bm got := ⟨h.blk, h.row.down hb, h.map, ⟨Nat.le_trans hb h.hg.1, Nat.le_trans hb h.hg.2⟩, h.ne, h.shape⟩
theorem Drew.tal {w w' : World} {g base : Nat} {v : Value} {grp : List Int} {need : Int} {bm : Nat} {got : List (Int × Value)} (h : Tal w g base v grp need bm got) (hd : Drew w w') : Tal w' g base v grp need bm got := h.grew (hd.keeps None)

theorem new_any (A : Option Addr) (n cap : Nat) (l : List Int) (need : Int) (w : World) (hA : Nums .i64 w A l) (hn : l.length = n) (hr : n ≤ 17592186044416) :
    Calls Try.prog 29 #[.slice A n cap, .int .i64 need] w fun e w' => ∃ v,
      e = .returned (.pointer (some ⟨w.heap.size + 1, 0, Option.none⟩)) ∧ Tal w' (w.heap.size + 1) w.heap.size v (uniqF l) need w.heap.size [] ∧ Keeps None w w' := by
  refine (newB_any A n cap l need w hA hn hr).mono ?_
  rintro e w' ⟨v, rfl, hB, hR, hne, hm, hk⟩
  refine ⟨v, rfl, ⟨hB, hR, ⟨.map [], ownsMap_empty hm, TG.TD.nil⟩, ⟨by omega, Nat.le_refl _⟩, ⟨by omega, fun b e => ⟨hne b e, fun f => ?_⟩⟩, (fun _ h => by cases h)⟩, hk⟩
  subst f
  obtain ⟨cur, hc⟩ := owns_obj hR.raw e
  rw [hm] at hc
  cases hc

set_option maxRecDepth 100000 in
set_option maxHeartbeats 1600000 in
theorem enough_any (g base : Nat) (v : Value) (grp : List Int) (need : Int) (bm : Nat) (got : List (Int × Value)) (w : World) (hT : Tal w g base v grp need bm got) :
    Calls Try.prog 53 #[.pointer (some ⟨g, 0, Option.none⟩)] w fun e w' => Drew w w' ∧ e = .returned (.bool (decide (need ≤ (got.length : Int)))) := by
  obtain ⟨D, hD, hTD⟩ := hT.map
  have c1 := hT.blk.cell 1 _ rfl
  have c2 := hT.blk.cell 2 _ rfl
  have hlen : ∀ n ty, (Builtin.len_ #[98] ty #[.map (some bm)]).run Try.prog (w.drewN n) = .ok (.int .i64 (Maps.size D)) (w.drewN n) := fun n ty => World.ownsMap.len (ownsMap_block (w' := w.drewN n) hD (fun _ => rfl)) Try.underlying98 ty
  have hs := hTD.size
  rw [hs] at hlen
  go_enter Try.func53, Try.ntmps53
  go_wp2
  go_quiet (fail)
  go_wp2
  go_ret
  exact ⟨⟨_, rfl⟩, rfl⟩

def Took (g base : Nat) (v : Value) (grp : List Int) (need : Int) (bm : Nat) (got : List (Int × Value)) (s : Int) (x : Value) (w : World) (e : Ending) (w' : World) : Prop :=
  e = .returned (.bool (TG.TookB grp need got s)) ∧ Tal w' g base v grp need bm (TG.tookF grp need got s x) ∧ Keeps (One bm) w w'


set_option maxRecDepth 100000 in
set_option maxHeartbeats 1600000 in
theorem take_any (g base : Nat) (v : Value) (grp : List Int) (need : Int) (bm : Nat) (got : List (Int × Value)) (s : Int) (x : Nat) (w : World) (hT : Tal w g base v grp need bm got) (hs : (Lit.int .i64 s).wf = true) (hgl : grp.length ≤ 140737488351232) (hl : got.length ≤ 140737488351232) :
    Calls Try.prog 32 #[.pointer (some ⟨g, 0, Option.none⟩), .int .i64 s, .pointer (some ⟨x, 0, Option.none⟩)] w (Took g base v grp need bm got s (.pointer (some ⟨x, 0, Option.none⟩)) w) := by
  have hkey := keyOf_int_mk Try.underlying3 hs
  obtain ⟨D, hD, hTD⟩ := hT.map
  have c0 := hT.blk.cell 0 _ rfl
  have c2 := hT.blk.cell 2 _ rfl
  obtain ⟨A, cv, rfl, -, hN, -⟩ := hT.row.open_
  have hhas := hTD.has s
  have HV := Lib.hid (hTD.val s)
  have HSH := Lib.hid hT.shape
  obtain ⟨L, hL⟩ : ∃ L, L = lookV got s := ⟨_, rfl⟩
  rw [← hL] at hhas HV
  have HTD := Lib.hid hTD
  have HH := Lib.hid hL
  clear hTD hL
  cases L with
  | some c =>
    have hhas : Maps.has D (.int .i64 s) = true := hhas
    have E : Hid (TG.takes grp need got s = false) := Lib.hid (by unfold TG.takes; rw [← HH.out]; rfl)
    obtain ⟨xv, ec⟩ := HSH.out _ (lookV_mem HH.out.symm)
    simp only [val] at ec
    have HEC := Lib.hid ec
    clear ec
    go_enter Try.func32, Try.ntmps32
    go_wp2_with (at_lookup; refine wpList_lookup_own_ok _ rfl _ _ 98 rfl 3 49 keyI Try.underlying98 heldElem (zeroV _) _ [] rfl bm got.length D rfl hD _ _ rfl hkey ?_; intro v' ps hat; rw [hhas]; obtain rfl : v' = .pointer (some ⟨xv, 0, Option.none⟩) := by { have h1 := HV.out c rfl (.held zeroB); rw [h1] at hat; cases hat; exact HEC.out })
    go_ret
    exact ⟨ret_bool (by unfold TG.TookB; rw [E.out]; rfl), by unfold TG.tookF; rw [E.out]; exact hT, Keeps.refl _ _⟩
  | none =>
    have hhas : Maps.has D (.int .i64 s) = false := hhas
    have hatz := atKey_of_not_has hhas (.held zeroB)
    go_enter Try.func32, Try.ntmps32
    go_wp2_with (at_lookup; refine wpList_lookup_own_ok _ rfl _ _ 98 rfl 3 49 keyI Try.underlying98 heldElem (zeroV _) _ [] rfl bm got.length D rfl hD _ _ rfl hkey ?_; intro v' ps hat; rw [hhas]; obtain rfl : v' = .pointer Option.none := by { rw [hatz] at hat; cases hat; rfl })
    refine (enough_any g base _ grp need bm got w hT).mono ?_
    rintro e w1 ⟨hd1, rfl⟩
    have hT1 := Drew.tal hT hd1
    have hK1 := hd1.keeps (One bm)
    have hN1 := hN.grew (hd1.keeps None)
    clear c0 c2 hD
    have c0 := hT1.blk.cell 0 _ rfl
    have c2 := hT1.blk.cell 2 _ rfl
    by_cases hen : need ≤ (got.length : Int)
    · have E : Hid (TG.takes grp need got s = false) := Lib.hid (by unfold TG.takes; simp [hen])
      go_wp2_with fail
      go_ret
      exact ⟨ret_bool (by unfold TG.TookB; rw [E.out]; rfl), by unfold TG.tookF; rw [E.out]; exact hT1, hK1⟩
    · go_wp2_with fail
      refine (contains_any A grp.length cv grp s w1 hN1 rfl hgl).mono ?_
      rintro e w2 ⟨rfl, rfl⟩
      by_cases hin : s ∈ grp
      · have E : Hid (TG.takes grp need got s = true) := Lib.hid (by unfold TG.takes; simp [hen, hin, ← HH.out])
        obtain ⟨D1, hD1, hTD1⟩ := hT1.map
        have hput := Lib.hid (hTD1.put (hD1.tidy keyI) s (.pointer (some ⟨x, 0, Option.none⟩)) (by simpa using HH.out.symm))
        clear hTD1
        rw [decide_eq_true hin]
        go_wp2_with (at_mapUpdate; refine wpList_mapUpdate_own _ rfl _ _ _ 98 rfl 3 49 keyI Try.underlying98 heldElem bm got.length _ rfl hD1 (by unfold maxLen; omega) _ _ _ rfl rfl hkey _ [] rfl ?_; intro w3 hown3 hgrow3)
        have hkg : Keeps (One bm) w2 w3 := (Keeps.refl _ _).grown hgrow3 (fun k e _ => (Option.some.inj e).symm)
        have hT3 : Tal w3 g base (.slice A grp.length cv) grp need bm (got ++ [(s, .pointer (some ⟨x, 0, Option.none⟩))]) :=
          ⟨hT1.blk.keeps hkg hT1.ne.1, hT1.row.keeps hkg (fun b e f => (hT1.ne.2 b e).2 f), ⟨_, by rw [List.length_append]; exact hown3, hput.out⟩, hT1.hg, hT1.ne,
            fun p hp => by
              rcases List.mem_append.1 hp with hp | hp
              · exact HSH.out p hp
              · obtain rfl := List.mem_singleton.1 hp
                exact ⟨x, rfl⟩⟩
        refine (enough_any g base _ grp need bm (got ++ [(s, .pointer (some ⟨x, 0, Option.none⟩))]) w3 hT3).mono ?_
        rintro e w4 ⟨hd4, rfl⟩
        have hT4 := Drew.tal hT3 hd4
        go_wp2_with fail
        go_ret
        exact ⟨ret_bool (by unfold TG.TookB; rw [E.out]; simp), by unfold TG.tookF; rw [E.out]; exact hT4, (hK1.trans hkg).trans (hd4.keeps _)⟩
      · have E : Hid (TG.takes grp need got s = false) := Lib.hid (by unfold TG.takes; simp [hin])
        rw [decide_eq_false hin]
        go_wp2_with fail
        go_ret
        exact ⟨ret_bool (by unfold TG.TookB; rw [E.out]; rfl), by unfold TG.tookF; rw [E.out]; exact hT1, hK1⟩
end Go.Proofs.Ytghbgcmhahndkaa.KZ
