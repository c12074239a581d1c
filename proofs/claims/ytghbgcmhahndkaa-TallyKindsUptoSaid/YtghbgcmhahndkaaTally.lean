/- The program's tally of numbers: its state, Contains, Enough, Take, Missing. -/
import Derived.Test.YtghbgcmhahndkaaBase
import Derived.Test.YtghbgcmhahndkaaRow
import Derived.Maps.OwnSet
import Derived.Maps.OwnOps
namespace Go.Proofs.Ytghbgcmhahndkaa
open Go.RowKit Go.Maps

theorem keyInt : Keyed Try.prog 3 := int_keyed Try.underlying3
theorem zeroInt (w : World) : (zeroValue 3).run Try.prog w = .ok (.int .i64 0) w := by kernel_rfl

/-- Where a number stands first in a list; -1: nowhere. -/
def placeF (l : List Int) (s : Int) : Int := match l.findIdx? (· == s) with | some j => (j : Int) | none => -1

def look (got : List (Int × Int)) (s : Int) : Option Int := (got.find? (fun p => p.1 == s)).map (·.2)

set_option maxRecDepth 100000 in
set_option maxHeartbeats 1600000 in
theorem index_any (A : Option Addr) (n cap : Nat) (l : List Int) (s : Int) (w : World) (hA : Nums .i64 w A l) (hn : l.length = n) (hr : n ≤ 140737488351232) :
    Calls Try.prog 57 #[.slice A n cap, .int .i64 s] w fun e w' => w' = w ∧ ∃ k : Int, e = .returned (.int .i64 k) ∧ (0 ≤ k ↔ s ∈ l) := by
  subst hn
  go_enter Try.func57, Try.ntmps57
  go_wp2
  go_loopw [8] (fun i wr => ∃ k : Nat, k ≤ l.length ∧ i = .int .i64 k ∧ Hid (s ∉ l.take k) ∧ wr = w) (fun i _ => l.length - (intOf i).toNat)
  case atStart => exact ⟨0, Nat.zero_le _, rfl, Lib.hid (by simp), rfl⟩
  case round =>
    obtain ⟨k, hk, rfl, hN, rfl⟩ := hrel
    by_cases hlt : k < l.length
    · obtain ⟨x, b, o, rfl, hc, hx⟩ := hA.get k hlt
      by_cases he : s = x
      · obtain ⟨t1, t2⟩ := test_eq he
        have hm : Hid (s ∈ l) := Lib.hid (he ▸ List.mem_of_getElem? hx.out)
        clear he hx
        go_wp2
        go_ret
        exact ⟨rfl, k, rfl, fun _ => hm.out, fun _ => by omega⟩
      · obtain ⟨t1, t2⟩ := test_ne he
        have hm : Hid (s ∉ l.take (k + 1)) := Lib.hid (by rw [take_succ_of hx.out]; simp; exact ⟨hN.out, he⟩)
        clear he hx
        go_wp2
        go_roundw
        case rel => exact ⟨k + 1, by omega, by go_num, hm, by first | trivial | rfl⟩
        case measure => simp [intOf]; omega
    · obtain rfl : k = l.length := by omega
      go_wp2
      go_ret
      refine ⟨rfl, -1, rfl, fun h => by omega, fun h => ?_⟩
      have := hN.out
      rw [List.take_of_length_le (Nat.le_refl _)] at this
      exact absurd h this

set_option maxRecDepth 100000 in
set_option maxHeartbeats 1600000 in
theorem contains_any (A : Option Addr) (n cap : Nat) (l : List Int) (s : Int) (w : World) (hA : Nums .i64 w A l) (hn : l.length = n) (hr : n ≤ 140737488351232) :
    Calls Try.prog 44 #[.slice A n cap, .int .i64 s] w fun e w' => w' = w ∧ e = .returned (.bool (decide (s ∈ l))) := by
  go_enter Try.func44, Try.ntmps44
  go_wp2_with fail
  refine (index_any A n cap l s w hA hn hr).mono ?_
  rintro e w' ⟨rfl, k, rfl, hk⟩
  have HK := Lib.hid hk
  clear hk
  go_wp2_with fail
  go_ret
  exact ⟨rfl, ret_bool (by have := HK.out; simp [this])⟩

/-! ### The map that lies behind -/
structure TD (D : DataW Unit) (got : List (Int × Int)) : Prop where
  size : Maps.size D = got.length
  has : ∀ s, Maps.has D (.int .i64 s) = (look got s).isSome
  val : ∀ s c, look got s = some c → ∀ z, D.atKey (.int .i64 s) z = .lit (.int .i64 c)

theorem look_nil (s : Int) : look [] s = none := rfl
theorem look_snoc (got : List (Int × Int)) (p : Int × Int) (s : Int) : look (got ++ [p]) s = if (look got s).isSome then look got s else if p.1 = s then some p.2 else none := by
  unfold look
  rw [List.find?_append]
  cases h : got.find? (fun p => p.1 == s) with
  | some q => simp
  | none =>
    simp only [Option.none_or, Option.map_none, Option.isSome_none]
    by_cases e : p.1 = s
    · simp [List.find?, e]
    · have e' : (p.1 == s) = false := by simpa using e
      simp [List.find?, e, e']

theorem TD.nil : TD (.map []) [] := ⟨rfl, fun _ => rfl, fun s c h => by cases h⟩
theorem TD.put {D : DataW Unit} {got : List (Int × Int)} (h : TD D got) (ht : Tidy D) (s x : Int) (hs : look got s = none) : TD (D.put (.int .i64 s) (.lit (.int .i64 x))) (got ++ [(s, x)]) := by
  have hh := h.has s
  rw [hs] at hh
  refine ⟨?_, fun s' => ?_, fun s' c hc z => ?_⟩
  · rw [size_put ht, hh, List.length_append, h.size]; rfl
  · by_cases e : s' = s
    · subst e
      rw [has_put_same ht.isMap (by simp [WideAt.IsKeyLit]), look_snoc, hs]; simp
    · rw [has_put_other (by simpa using e), h.has, look_snoc]
      cases hl : look got s' with
      | some y => rfl
      | none => simp [Ne.symm e]
  · by_cases e : s' = s
    · subst e
      rw [look_snoc, hs] at hc
      simp at hc
      subst hc
      exact atKey_put_same ht.isMap (by simp [WideAt.IsKeyLit]) _ _
    · rw [atKey_put_other (by simpa using e)]
      rw [look_snoc] at hc
      refine h.val s' c ?_ z
      cases hl : look got s' with
      | some y => rw [hl] at hc; simpa using hc
      | none => rw [hl] at hc; simp [Ne.symm e] at hc

/-! ### The tally's state -/
structure Tal (w : World) (g base : Nat) (v : Value) (grp : List Int) (need : Int) (bm : Nat) (got : List (Int × Int)) : Prop where
  blk : Blk w g 85 [v, .int .i64 need, .map (some bm)]
  row : Row .i64 3 w base v grp
  map : ∃ D : DataW Unit, w.ownsMap Try.prog 3 (plainElem Try.prog 3) bm got.length D ∧ TD D got
  hg : base ≤ g ∧ base ≤ bm
  ne : g ≠ bm ∧ (∀ b, v.ownBlock = some b → b ≠ g ∧ b ≠ bm)

theorem ownsMap_block {H : Type} {P : Program} {w w' : World} {k b n : Nat} {R : Value → Option (DataW H × List MemPlace)} {D : DataW H} (h : w.ownsMap P k R b n D) (hb : b < w.heap.size → w'.heap[b]? = w.heap[b]?) : w'.ownsMap P k R b n D := by
  obtain ⟨es, clock, h1, h2⟩ := h
  exact ⟨es, clock, by rw [hb (lt_of_block h1)]; exact h1, h2⟩
theorem Tal.keeps {S : Nat → Prop} {w w' : World} {g base : Nat} {v : Value} {grp : List Int} {need : Int} {bm : Nat} {got : List (Int × Int)} (h : Tal w g base v grp need bm got) (hk : Keeps S w w') (hg : ¬ S g) (hb : ¬ S bm) (hv : ∀ b, v.ownBlock = some b → ¬ S b) : Tal w' g base v grp need bm got := by
  obtain ⟨D, h1, h2⟩ := h.map
  exact ⟨h.blk.keeps hk hg, h.row.keeps hk hv, ⟨D, ownsMap_block h1 (fun hlt => hk.block bm hlt hb), h2⟩, h.hg, h.ne⟩
theorem Tal.grew {w w' : World} {g base : Nat} {v : Value} {grp : List Int} {need : Int} {bm : Nat} {got : List (Int × Int)} (h : Tal w g base v grp need bm got) (hk : Keeps None w w') : Tal w' g base v grp need bm got := h.keeps hk id id (fun _ _ f => f)

set_option maxRecDepth 100000 in
set_option maxHeartbeats 1600000 in
theorem enough_any (g base : Nat) (v : Value) (grp : List Int) (need : Int) (bm : Nat) (got : List (Int × Int)) (w : World) (hT : Tal w g base v grp need bm got) :
    Calls Try.prog 23 #[.pointer (some ⟨g, 0, Option.none⟩)] w fun e w' => Drew w w' ∧ e = .returned (.bool (decide (need ≤ (got.length : Int)))) := by
  obtain ⟨D, hD, hTD⟩ := hT.map
  have c1 := hT.blk.cell 1 _ rfl
  have c2 := hT.blk.cell 2 _ rfl
  have hlen : ∀ n ty, (Builtin.len_ #[83] ty #[.map (some bm)]).run Try.prog (w.drewN n) = .ok (.int .i64 (Maps.size D)) (w.drewN n) := fun n ty => World.ownsMap.len (ownsMap_block (w' := w.drewN n) hD (fun _ => rfl)) Try.underlying83 ty
  have hs := hTD.size
  rw [hs] at hlen
  go_enter Try.func23, Try.ntmps23
  go_wp2
  go_quiet (fail)
  go_wp2
  go_ret
  exact ⟨⟨_, rfl⟩, rfl⟩

/-- Does the answer count? -/
def takes (grp : List Int) (need : Int) (got : List (Int × Int)) (s : Int) : Bool := !(look got s).isSome && !(decide (need ≤ (got.length : Int))) && decide (s ∈ grp)
/-- What has come behind it. -/
def tookF (grp : List Int) (need : Int) (got : List (Int × Int)) (s x : Int) : List (Int × Int) := if takes grp need got s then got ++ [(s, x)] else got
def TookB (grp : List Int) (need : Int) (got : List (Int × Int)) (s : Int) : Bool := takes grp need got s && decide (need ≤ (got.length : Int) + 1)

def Took (g base : Nat) (v : Value) (grp : List Int) (need : Int) (bm : Nat) (got : List (Int × Int)) (s x : Int) (w : World) (e : Ending) (w' : World) : Prop :=
  e = .returned (.bool (TookB grp need got s)) ∧ Tal w' g base v grp need bm (tookF grp need got s x) ∧ Keeps (One bm) w w'

theorem Drew.tal {w w' : World} {g base : Nat} {v : Value} {grp : List Int} {need : Int} {bm : Nat} {got : List (Int × Int)} (h : Tal w g base v grp need bm got) (hd : Drew w w') : Tal w' g base v grp need bm got := h.grew (hd.keeps None)

set_option maxRecDepth 100000 in
set_option maxHeartbeats 1600000 in
theorem take_any (g base : Nat) (v : Value) (grp : List Int) (need : Int) (bm : Nat) (got : List (Int × Int)) (s x : Int) (w : World) (hT : Tal w g base v grp need bm got) (hs : (Lit.int .i64 s).wf = true) (hx : (Lit.int .i64 x).wf = true) (hgl : grp.length ≤ 140737488351232) (hl : got.length ≤ 140737488351232) :
    Calls Try.prog 19 #[.pointer (some ⟨g, 0, Option.none⟩), .int .i64 s, .int .i64 x] w (Took g base v grp need bm got s x w) := by
  obtain ⟨D, hD, hTD⟩ := hT.map
  have c0 := hT.blk.cell 0 _ rfl
  have c2 := hT.blk.cell 2 _ rfl
  obtain ⟨A, cv, rfl, -, hN, -⟩ := hT.row.open_
  have hkey := keyOf_int_mk Try.underlying3 hs
  have hhas := hTD.has s
  obtain ⟨H, hH⟩ : ∃ H : Bool, H = (look got s).isSome := ⟨_, rfl⟩
  rw [← hH] at hhas
  have HTD := Lib.hid hTD
  have HH := Lib.hid hH
  clear hTD hH
  cases H with
  | true =>
    have E : Hid (takes grp need got s = false) := Lib.hid (by unfold takes; rw [← HH.out]; rfl)
    go_enter Try.func19, Try.ntmps19
    go_wp2_with (at_lookup; refine wpList_lookup_own_ok_int _ rfl _ _ 83 rfl 3 3 .i64 keyInt Try.underlying83 Try.underlying3 (zeroInt _) bm got.length D rfl hD _ _ rfl hkey ?_; intro c hat hwc; rw [hhas])
    go_ret
    exact ⟨ret_bool (by unfold TookB; rw [E.out]; rfl), by unfold tookF; rw [E.out]; exact hT, Keeps.refl _ _⟩
  | false =>
    go_enter Try.func19, Try.ntmps19
    go_wp2_with (at_lookup; refine wpList_lookup_own_ok_int _ rfl _ _ 83 rfl 3 3 .i64 keyInt Try.underlying83 Try.underlying3 (zeroInt _) bm got.length D rfl hD _ _ rfl hkey ?_; intro c hat hwc; rw [hhas])
    refine (enough_any g base _ grp need bm got w hT).mono ?_
    rintro e w1 ⟨hd1, rfl⟩
    have hT1 := Drew.tal hT hd1
    have hK1 := hd1.keeps (One bm)
    have c0 := hT1.blk.cell 0 _ rfl
    have c2 := hT1.blk.cell 2 _ rfl
    have hN1 := hN.grew (hd1.keeps None)
    by_cases hen : need ≤ (got.length : Int)
    · have E : Hid (takes grp need got s = false) := Lib.hid (by unfold takes; simp [hen])
      go_wp2_with fail
      go_ret
      exact ⟨ret_bool (by unfold TookB; rw [E.out]; rfl), by unfold tookF; rw [E.out]; exact hT1, hK1⟩
    · go_wp2_with fail
      refine (contains_any A grp.length cv grp s w1 hN1 rfl hgl).mono ?_
      rintro e w2 ⟨rfl, rfl⟩
      by_cases hin : s ∈ grp
      · have E : Hid (takes grp need got s = true) := Lib.hid (by unfold takes; simp [hen, hin, ← HH.out])
        obtain ⟨D1, hD1, hTD1⟩ := hT1.map
        have hput := Lib.hid (hTD1.put (hD1.tidy keyInt) s x (by simpa using HH.out.symm))
        rw [decide_eq_true hin]
        go_wp2_with (at_mapUpdate; refine wpList_mapUpdate_own _ rfl _ _ _ 83 rfl 3 3 keyInt Try.underlying83 _ bm got.length _ rfl hD1 (by unfold maxLen; omega) _ _ _ rfl rfl hkey _ [] (plainElem_int Try.underlying3 hx) ?_; intro w3 hown3 hgrow3)
        have hkg : Keeps (One bm) w2 w3 := (Keeps.refl _ _).grown hgrow3 (fun k e _ => (Option.some.inj e).symm)
        have hT3 : Tal w3 g base (.slice A grp.length cv) grp need bm (got ++ [(s, x)]) :=
          ⟨hT1.blk.keeps hkg hT1.ne.1, hT1.row.keeps hkg (fun b e f => (hT1.ne.2 b e).2 f), ⟨_, by rw [List.length_append]; exact hown3, hput.out⟩, hT1.hg, hT1.ne⟩
        refine (enough_any g base _ grp need bm (got ++ [(s, x)]) w3 hT3).mono ?_
        rintro e w4 ⟨hd4, rfl⟩
        have hT4 := Drew.tal hT3 hd4
        go_wp2_with fail
        go_ret
        exact ⟨ret_bool (by unfold TookB; rw [E.out]; simp), by unfold tookF; rw [E.out]; exact hT4, (hK1.trans hkg).trans (hd4.keeps _)⟩
      · have E : Hid (takes grp need got s = false) := Lib.hid (by unfold takes; simp [hin])
        rw [decide_eq_false hin]
        go_wp2_with fail
        go_ret
        exact ⟨ret_bool (by unfold TookB; rw [E.out]; rfl), by unfold tookF; rw [E.out]; exact hT1, hK1⟩

/-- What Missing tells. -/
def missF (grp : List Int) (got : List (Int × Int)) : List Int := grp.filter fun s => !(look got s).isSome
theorem missF_snoc (grp : List Int) (got : List (Int × Int)) (s : Int) : missF (grp ++ [s]) got = missF grp got ++ (if (look got s).isSome then [] else [s]) := by
  unfold missF
  rw [List.filter_append]
  cases h : look got s <;> simp [h]

def MissEnd (grp : List Int) (got : List (Int × Int)) (w : World) (e : Ending) (w' : World) : Prop := ∃ v, e = .returned v ∧ Row .i64 3 w' w.heap.size v (missF grp got) ∧ Keeps None w w'

theorem Try.infoI64 : (Try.prog.info? 3).map (fun i => (i.zero, i.size, i.bytes)) = some (some (.int .i64 0), 1, 8) := by kernel_rfl

set_option maxRecDepth 100000 in
set_option maxHeartbeats 1600000 in
theorem missing_any (g base : Nat) (v : Value) (grp : List Int) (need : Int) (bm : Nat) (got : List (Int × Int)) (w : World) (hT : Tal w g base v grp need bm got) (hwf : ∀ s ∈ grp, (Lit.int .i64 s).wf = true) (hgl : grp.length ≤ 17592186044416) :
    Calls Try.prog 25 #[.pointer (some ⟨g, 0, Option.none⟩)] w (MissEnd grp got w) := by
  obtain ⟨i0, hi, hz0, hz1, hz2⟩ := info_parts Try.infoI64
  obtain ⟨A, cv, rfl, -, hN, -⟩ := hT.row.open_
  have c0 := hT.blk.cell 0 _ rfl
  go_enter Try.func25, Try.ntmps25
  go_wp2
  go_loopw [3, 13] (fun y i wr => ∃ (k : Nat) (ys : List Int), k ≤ grp.length ∧ i = .int .i64 k ∧ Row .i64 3 wr w.heap.size y ys ∧ Hid (ys = missF (grp.take k) got) ∧ ys.length ≤ k ∧ Keeps None w wr) (fun _ i _ => grp.length - (intOf i).toNat)
  case atStart => exact ⟨0, [], Nat.zero_le _, rfl, Row.nil _ _ _ _, Lib.hid rfl, Nat.le_refl _, Keeps.refl _ _⟩
  case round =>
    obtain ⟨k, ys, hk, rfl, hw, hE, hyl, hK⟩ := hrel
    have hsz := hK.size
    obtain ⟨Ay, cy, rfl⟩ := hw.slice
    by_cases hlt : k < grp.length
    · obtain ⟨s, b, o, rfl, hc, hs⟩ := (hN.grew hK).get k hlt
      have hT1 := hT.grew hK
      obtain ⟨D, hD, hTD⟩ := hT1.map
      have c0 := hT1.blk.cell 0 _ rfl
      have c2 := hT1.blk.cell 2 _ rfl
      have hkey := keyOf_int_mk Try.underlying3 (hwf s (List.mem_of_getElem? hs.out))
      have hhas := hTD.has s
      have HT := Lib.hid (take_succ_of hs.out)
      obtain ⟨H, hH⟩ : ∃ H : Bool, H = (look got s).isSome := ⟨_, rfl⟩
      rw [← hH] at hhas
      have HH := Lib.hid hH
      clear hTD hH
      cases H with
      | true =>
        go_wp2_with (at_lookup; refine wpList_lookup_own_ok_int _ rfl _ _ 83 rfl 3 3 .i64 keyInt Try.underlying83 Try.underlying3 (zeroInt _) bm got.length D rfl hD _ _ rfl hkey ?_; intro c hat hwc; rw [hhas])
        go_roundw
        case rel => exact ⟨k + 1, ys, by omega, by go_num, hw, Lib.hid (by rw [HT.out, missF_snoc, ← HH.out, hE.out]; simp), by omega, hK⟩
        case measure => simp [intOf]; omega
      | false =>
        go_wp2_with (first
          | (at_lookup; refine wpList_lookup_own_ok_int _ rfl _ _ 83 rfl 3 3 .i64 keyInt Try.underlying83 Try.underlying3 (zeroInt _) bm got.length D rfl hD _ _ rfl hkey ?_; intro c hat hwc; rw [hhas])
          | (at_builtin; refine wpList_append_row _ rfl (.tmp 28) (.tmp 30) 27 rfl w.heap.size 3 i0 (.int .i64 0) 1 8 Try.underlying27 hi hz0 hz1 hz2 rfl (by decide) _ ys.length _ rfl (hw.raw.alloc _) (some ⟨wr.heap.size, 0, Option.none⟩) 1 1 [Value.int .i64 s] rfl rfl (fun e => by cases e) (src_new wr 3 _ _ rfl) (ints_oneCell _ [s]) (by unfold maxLen; omega) (by omega) (by simp; omega) ?_; intro v' w1 hown hk1 hloc; have hr1 : Row .i64 3 w1 w.heap.size v' (ys ++ [s]) := Row.of_append rfl rfl hown; have hk2 : Keeps None w w1 := (hK.alloc _).own (hw.raw.alloc _) (Nat.le_refl _) hk1; clear hown))
        go_roundw
        case rel => exact ⟨k + 1, ys ++ [s], by omega, by go_num, hr1, Lib.hid (by rw [HT.out, missF_snoc, ← HH.out, hE.out]; simp), by simp; omega, hk2⟩
        case measure => simp [intOf]; omega
    · obtain rfl : k = grp.length := by omega
      go_wp2
      go_ret
      refine ⟨_, rfl, hw.cast ?_, hK⟩
      rw [hE.out, List.take_of_length_le (Nat.le_refl _)]
end Go.Proofs.Ytghbgcmhahndkaa
