/- The reference's tally: its state, place, unlike, New, count, Enough, Take, Missing, Got. -/
import Derived.Test.YtghbgcmhahndkaaVotes
namespace Go.Proofs.Ytghbgcmhahndkaa
open Go.RowKit Go.Maps
set_option linter.unusedVariables false

def PlaceIs (l : List Int) (s : Int) (k : Int) : Prop := (k = -1 ∧ s ∉ l) ∨ ∃ j : Nat, k = j ∧ j < l.length ∧ l[j]? = some s

set_option maxRecDepth 100000 in
set_option maxHeartbeats 800000 in
theorem refplace_any (A : Option Addr) (n cap : Nat) (l : List Int) (s : Int) (w : World) (hA : Nums .i64 w A l) (hn : l.length = n) (hr : n ≤ 140737488351232) :
    Calls Try.prog 46 #[.slice A n cap, .int .i64 s] w fun e w' => Drew w w' ∧ ∃ k : Int, e = .returned (.int .i64 k) ∧ PlaceIs l s k := by
  subst hn
  go_enter Try.func46, Try.ntmps46
  go_wp2
  go_loopw [5] (fun i wr => ∃ k : Nat, k ≤ l.length ∧ i = .int .i64 k ∧ Hid (s ∉ l.take k) ∧ Drew w wr) (fun i _ => l.length - (intOf i).toNat)
  case atStart => exact ⟨0, Nat.zero_le _, rfl, Lib.hid (by simp), Drew.refl _⟩
  case round =>
    obtain ⟨k, hk, rfl, hN, ⟨⟨nd, rfl⟩⟩⟩ := hrel
    by_cases hlt : k < l.length
    · obtain ⟨x, b, o, rfl, hc, hx⟩ := hA.get k hlt
      by_cases he : x = s
      · obtain ⟨t1, t2⟩ := test_eq he
        have hm : Hid (l[k]? = some s) := Lib.hid (he ▸ hx.out)
        clear he hx
        go_wp2
        first | go_ret | (go_quiet (fail); go_wp2; go_ret)
        exact ⟨by first | exact ⟨_, rfl⟩ | exact (Drew.of w nd).more _, k, rfl, .inr ⟨k, rfl, hlt, hm.out⟩⟩
      · obtain ⟨t1, t2⟩ := test_ne he
        have hm : Hid (s ∉ l.take (k + 1)) := Lib.hid (by rw [take_succ_of hx.out]; simp; exact ⟨hN.out, fun e => he e.symm⟩)
        clear he hx
        go_wp2
        first | go_roundw | (go_quiet (fail); go_wp2; go_roundw)
        case rel => exact ⟨k + 1, by omega, by go_num, hm, ⟨_, rfl⟩⟩
        case measure => simp [intOf]; omega
    · obtain rfl : k = l.length := by omega
      go_wp2
      go_ret
      refine ⟨⟨_, rfl⟩, -1, rfl, .inl ⟨rfl, ?_⟩⟩
      have := hN.out
      rwa [List.take_of_length_le (Nat.le_refl _)] at this

def UniqEnd (l : List Int) (w : World) (e : Ending) (w' : World) : Prop := ∃ v, e = .returned v ∧ Row .i64 3 w' w.heap.size v (uniqF l) ∧ Keeps None w w'

set_option maxRecDepth 100000 in
set_option maxHeartbeats 1600000 in
theorem unlike_any (A : Option Addr) (n cap : Nat) (l : List Int) (w : World) (hA : Nums .i64 w A l) (hn : l.length = n) (hr : n ≤ 17592186044416) :
    Calls Try.prog 45 #[.slice A n cap] w (UniqEnd l w) := by
  obtain ⟨i0, hi, hz0, hz1, hz2⟩ := info_parts Try.infoI64
  subst hn
  go_enter Try.func45, Try.ntmps45
  go_wp2
  go_loopw [3, 4] (fun y i wr => ∃ (k : Nat) (ys : List Int), k ≤ l.length ∧ i = .int .i64 k ∧ Row .i64 3 wr w.heap.size y ys ∧ Hid (ys = uniqF (l.take k)) ∧ ys.length ≤ k ∧ Keeps None w wr) (fun _ i _ => l.length - (intOf i).toNat)
  case atStart => exact ⟨0, [], Nat.zero_le _, rfl, Row.nil _ _ _ _, Lib.hid rfl, Nat.le_refl _, Keeps.refl _ _⟩
  case round =>
    obtain ⟨k, ys, hk, rfl, hw, hE, hyl, hK⟩ := hrel
    have hsz := hK.size
    obtain ⟨Ay, cy, rfl, -, hNy, -⟩ := hw.open_
    by_cases hlt : k < l.length
    · obtain ⟨s, b, o, rfl, hc, hs⟩ := (hA.grew hK).get k hlt
      have HT := Lib.hid (take_succ_of hs.out)
      go_wp2_with fail
      refine (refplace_any Ay ys.length cy ys s wr hNy rfl (by omega)).mono ?_
      rintro e w0 ⟨hd, kk, rfl, hpl⟩
      have hk0 := hd.keeps None
      have hK0 := hK.trans hk0
      have hw0 := hw.grew hk0
      have hc0 := hk0.cell hc id
      have hsz0 := hK0.size
      rcases hpl with ⟨rfl, hni⟩ | ⟨j, rfl, hj, hjs⟩
      · have E2 : Hid (ys ++ [s] = uniqF (l.take (k + 1))) := Lib.hid (by rw [HT.out, uniqF_snoc, ← hE.out, if_neg hni])
        clear hni hd hc hK hw hsz hk0
        go_wp2_with (at_builtin; refine wpList_append_row _ rfl (.tmp 18) (.tmp 23) 27 rfl w.heap.size 3 i0 (.int .i64 0) 1 8 Try.underlying27 hi hz0 hz1 hz2 rfl (by decide) _ ys.length _ rfl (hw0.raw.alloc _) (some ⟨w0.heap.size, 0, Option.none⟩) 1 1 [Value.int .i64 s] rfl rfl (fun e => by cases e) (src_new w0 3 _ _ rfl) (ints_oneCell _ [s]) (by unfold maxLen; omega) (by omega) (by simp; omega) ?_; intro v' w1 hown hk1 hloc; have hr1 : Row .i64 3 w1 w.heap.size v' (ys ++ [s]) := Row.of_append rfl rfl hown; have hk2 : Keeps None w w1 := (hK0.alloc _).own (hw0.raw.alloc _) (Nat.le_refl _) hk1; clear hown)
        go_roundw
        case rel => exact ⟨k + 1, ys ++ [s], by omega, by go_num, hr1, E2, by simp; omega, hk2⟩
        case measure => simp [intOf]; omega
      · have E2 : Hid (ys = uniqF (l.take (k + 1))) := Lib.hid (by rw [HT.out, uniqF_snoc, ← hE.out, if_pos (List.mem_of_getElem? hjs)])
        clear hjs hd hc hK hw hsz hk0
        go_wp2_with fail
        go_roundw
        case rel => exact ⟨k + 1, ys, by omega, by go_num, hw0, E2, by omega, hK0⟩
        case measure => simp [intOf]; omega
    · obtain rfl : k = l.length := by omega
      go_wp2
      go_ret
      refine ⟨_, rfl, hw.cast ?_, hK⟩
      rw [hE.out, List.take_of_length_le (Nat.le_refl _)]

def valF (got : List (Int × Int)) (s : Int) : Int := (look got s).getD 0

/-- The reference's tally. -/
structure RT (w : World) (r base : Nat) (G : Value) (bv bh : Nat) (grp : List Int) (need : Int) (got : List (Int × Int)) : Prop where
  blk : Blk w r 88 [G, .slice (some ⟨bv, 0, Option.none⟩) grp.length grp.length, .slice (some ⟨bh, 0, Option.none⟩) grp.length grp.length, .int .i64 need]
  row : Row .i64 3 w base G grp
  vals : Blk w bv 3 (grp.map fun s => Value.int .i64 (valF got s))
  has : Blk w bh 4 (grp.map fun s => Value.bool (look got s).isSome)
  hb : base ≤ r ∧ base ≤ bv ∧ base ≤ bh
  ne : r ≠ bv ∧ r ≠ bh ∧ bv ≠ bh ∧ ∀ b, G.ownBlock = some b → b ≠ r ∧ b ≠ bv ∧ b ≠ bh

theorem RT.keeps {S : Nat → Prop} {w w' : World} {r base : Nat} {G : Value} {bv bh : Nat} {grp : List Int} {need : Int} {got : List (Int × Int)} (h : RT w r base G bv bh grp need got) (hk : Keeps S w w') (h1 : ¬ S r) (h2 : ¬ S bv) (h3 : ¬ S bh) (h4 : ∀ b, G.ownBlock = some b → ¬ S b) : RT w' r base G bv bh grp need got :=
  ⟨h.blk.keeps hk h1, h.row.keeps hk h4, h.vals.keeps hk h2, h.has.keeps hk h3, h.hb, h.ne⟩
theorem RT.grew {w w' : World} {r base : Nat} {G : Value} {bv bh : Nat} {grp : List Int} {need : Int} {got : List (Int × Int)} (h : RT w r base G bv bh grp need got) (hk : Keeps None w w') : RT w' r base G bv bh grp need got := h.keeps hk id id id (fun _ _ f => f)
theorem RT.hasAt {w : World} {r base : Nat} {G : Value} {bv bh : Nat} {grp : List Int} {need : Int} {got : List (Int × Int)} (h : RT w r base G bv bh grp need got) {j : Nat} {s : Int} (hj : grp[j]? = some s) : w.cell? ⟨bh, j, Option.none⟩ = some (.bool (look got s).isSome) :=
  h.has.cell j _ (by rw [List.getElem?_map, hj]; rfl)
theorem RT.valAt {w : World} {r base : Nat} {G : Value} {bv bh : Nat} {grp : List Int} {need : Int} {got : List (Int × Int)} (h : RT w r base G bv bh grp need got) {j : Nat} {s : Int} (hj : grp[j]? = some s) : w.cell? ⟨bv, j, Option.none⟩ = some (.int .i64 (valF got s)) :=
  h.vals.cell j _ (by rw [List.getElem?_map, hj]; rfl)

set_option maxRecDepth 100000 in
set_option maxHeartbeats 1600000 in
theorem refcount_any (r base : Nat) (G : Value) (bv bh : Nat) (grp : List Int) (need : Int) (got : List (Int × Int)) (w : World) (hT : RT w r base G bv bh grp need got) (hgl : grp.length ≤ 17592186044416) :
    Calls Try.prog 58 #[.pointer (some ⟨r, 0, Option.none⟩)] w fun e w' => Drew w w' ∧ e = .returned (.int .i64 (hasF grp got).length) := by
  have c2 := hT.blk.cell 2 _ rfl
  go_enter Try.func58, Try.ntmps58
  go_wp2
  go_loopw [3, 4] (fun c i wr => ∃ (k m : Nat), k ≤ grp.length ∧ i = .int .i64 k ∧ c = .int .i64 m ∧ Hid (m = (hasF (grp.take k) got).length) ∧ m ≤ k ∧ Drew w wr) (fun _ i _ => grp.length - (intOf i).toNat)
  case atStart => exact ⟨0, 0, Nat.zero_le _, rfl, rfl, Lib.hid rfl, Nat.le_refl _, Drew.refl _⟩
  case round =>
    obtain ⟨k, m, hk, rfl, rfl, hE, hm, ⟨⟨nd, rfl⟩⟩⟩ := hrel
    by_cases hlt : k < grp.length
    · obtain ⟨s, hs⟩ : ∃ s, grp[k]? = some s := ⟨_, List.getElem?_eq_getElem hlt⟩
      have ch := hT.hasAt hs
      have HT := Lib.hid (take_succ_of hs)
      clear hs
      obtain ⟨H, hH⟩ : ∃ H : Bool, H = (look got s).isSome := ⟨_, rfl⟩
      rw [← hH] at ch
      cases H with
      | true =>
        have E2 : Hid (m + 1 = (hasF (grp.take (k + 1)) got).length) := Lib.hid (by rw [HT.out, hasF_snoc, ← hH, List.length_append, ← hE.out]; rfl)
        clear hH
        go_wp2
        go_roundw
        case rel => exact ⟨k + 1, m + 1, by omega, by go_num, by go_num, E2, by omega, ⟨_, rfl⟩⟩
        case measure => simp [intOf]; omega
      | false =>
        have E2 : Hid (m = (hasF (grp.take (k + 1)) got).length) := Lib.hid (by rw [HT.out, hasF_snoc, ← hH, List.length_append, ← hE.out]; rfl)
        clear hH
        go_wp2
        go_roundw
        case rel => exact ⟨k + 1, m, by omega, by go_num, by go_num, E2, by omega, ⟨_, rfl⟩⟩
        case measure => simp [intOf]; omega
    · obtain rfl : k = grp.length := by omega
      go_wp2
      go_ret
      refine ⟨⟨_, rfl⟩, ?_⟩
      have := hE.out
      rw [List.take_of_length_le (Nat.le_refl _)] at this
      rw [this]; rfl

theorem RT.drew {w w' : World} {r base : Nat} {G : Value} {bv bh : Nat} {grp : List Int} {need : Int} {got : List (Int × Int)} (h : RT w r base G bv bh grp need got) (hd : Drew w w') : RT w' r base G bv bh grp need got := h.grew (hd.keeps None)

set_option maxRecDepth 100000 in
set_option maxHeartbeats 1600000 in
theorem refenough_any (r base : Nat) (G : Value) (bv bh : Nat) (grp : List Int) (need : Int) (got : List (Int × Int)) (w : World) (hT : RT w r base G bv bh grp need got) (hgl : grp.length ≤ 17592186044416) :
    Calls Try.prog 47 #[.pointer (some ⟨r, 0, Option.none⟩)] w fun e w' => Drew w w' ∧ e = .returned (.bool (decide (need ≤ ((hasF grp got).length : Int)))) := by
  have held : ∀ w', Drew w w' → (Drew w w' ∧ w'.cell? ⟨r, 3, Option.none⟩ = some (.int .i64 need)) := fun w' h => ⟨h, (hT.drew h).blk.cell 3 _ rfl⟩
  have HELD := Lib.hid held
  clear held
  go_enter Try.func47, Try.ntmps47
  go_wp2
  go_region_held3 (fun w' => Drew w w' ∧ w'.cell? ⟨r, 3, Option.none⟩ = some (.int .i64 need))
    (first | assumption | exact HELD.out _ ⟨1, rfl⟩ | exact HELD.out _ (by assumption))
    (first
      | (go_at_call 58; refine (refcount_any r base G bv bh grp need got _ (hT.drew (And.left (by assumption))) hgl).mono ?_; rintro e w2 ⟨hdz, rfl⟩; have hd2 : Drew w w2 := (by obtain ⟨m, hm⟩ := hdz.out; rw [hm]; exact Drew.more (And.left (by assumption)) m)))
  go_wp2
  go_ret
  exact ⟨(by assumption : _ ∧ _).1, rfl⟩
end Go.Proofs.Ytghbgcmhahndkaa
