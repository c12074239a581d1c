/- Rows of stamps: Best by Less, Max (seat c7: Less lies in RegNewer). -/
import Derived.Test.YtcihfjfbcfgidaaRegMade
namespace Go.Proofs.Ytcihfjfbcfgidaa
open Go.RowKit

/-- A slice of stamps. -/
def St (w : World) (A : Option Addr) (l : List (Int × Int)) : Prop :=
  ∀ j x, l[j]? = some x → ∃ b o, A = some ⟨b, o, Option.none⟩ ∧ w.cell? ⟨b, o + j * 2, Option.none⟩ = some (.int .i64 x.1) ∧ w.cell? ⟨b, o + j * 2 + 1, Option.none⟩ = some (.int .i64 x.2)
theorem St.keeps {S : Nat → Prop} {w w' : World} {A : Option Addr} {l : List (Int × Int)} (h : St w A l) (hk : Keeps S w w') (hA : Off A S) : St w' A l := by
  intro j x hx
  obtain ⟨b, o, e, h1, h2⟩ := h j x hx
  exact ⟨b, o, e, hk.cell h1 (hA b o e), hk.cell h2 (hA b o e)⟩
theorem St.grew {w w' : World} {A : Option Addr} {l : List (Int × Int)} (h : St w A l) (hk : Keeps None w w') : St w' A l := h.keeps hk (Off.none_ A)

def bestOf : List (Int × Int) → Int × Int
  | [] => (0, 0)
  | x :: xs => xs.foldl (fun b v => if lessF b v then v else b) x
theorem bestOf_snoc (l : List (Int × Int)) (x : Int × Int) (h : l ≠ []) : bestOf (l ++ [x]) = if lessF (bestOf l) x then x else bestOf l := by
  cases l with
  | nil => exact absurd rfl h
  | cons y ys =>
    show List.foldl _ y (ys ++ [x]) = _
    rw [List.foldl_append]; rfl

def BestEnd (l : List (Int × Int)) (w : World) (e : Ending) (w' : World) : Prop := e = .returned (.tuple #[stV (bestOf l), .bool (decide (0 < l.length))]) ∧ Keeps None w w'

/-- A struct's cell and a plain result. -/
theorem results_ct {P : Program} {fn : Func} {p u : Tmp} {ty : TypeId} (h : fn.results = #[.cell p ty, .tmp u]) (tmps : Array Value) (w : World) (g : Nat) (t : TypeId) (cs : Array Value) (fr : Nat × Nat) (d : TypeDesc)
    (hp : tmps.getD p undef = .pointer (some ⟨g, 0, Option.none⟩)) (hg : w.heap[g]? = some (.cells cs t fr))
    (hu : P.underlying ty = some d) (hd : (match d with | .struct _ | .array _ _ => true | _ => false) = true) (hi : (P.info? ty).map (·.size) = some cs.size) :
    (results fn tmps).run P w = .ok (.tuple #[.agg cs, tmps.getD u undef]) w := by
  have hp' : tmps[p]?.getD undef = .pointer (some ⟨g, 0, Option.none⟩) := by simpa using hp
  simp [results, h, hp', asAddr, run_loadVar_row w g t ty cs fr d hg hu hd hi]

theorem Try.sizeSt2 {a b : Value} : (Try.prog.info? 23).map (·.size) = some (#[a, b] : Array Value).size := by kernel_rfl
theorem Try.sizeSt : (Try.prog.info? 23).map (·.size) = some 2 := by kernel_rfl

set_option maxRecDepth 100000 in
set_option maxHeartbeats 1600000 in
theorem best_any (A : Option Addr) (n cap : Nat) (l : List (Int × Int)) (w : World) (hA : St w A l) (hn : l.length = n) (hr : n ≤ 140737488351232) :
    Calls Try.prog 108 #[.func (.func 35) #[] #[], .slice A n cap] w (BestEnd l w) := by
  subst hn
  go_enter Try.func108, Try.ntmps108
  go_wp2
  go_loopw [11] (fun i wr => ∃ (k : Nat), k ≤ l.length ∧ i = .int .i64 k ∧ Blk wr w.heap.size 23 [.int .i64 0, .int .i64 0] ∧ (∃ x1 x2, Hid ((x1, x2) = bestOf (l.take k)) ∧ Blk wr (w.heap.size + 1) 23 [.int .i64 x1, .int .i64 x2]) ∧ Keeps None w wr) (fun i _ => l.length - (intOf i).toNat)
  case atStart =>
    refine ⟨0, Nat.zero_le _, rfl, (Blk.new w _ _).alloc _, ⟨0, 0, Lib.hid rfl, ?_⟩, ((Keeps.refl _ w).alloc _).alloc _⟩
    have := Blk.new (w.alloc (.cells #[.int .i64 0, .int .i64 0] 23)) 23 [.int .i64 0, .int .i64 0]
    rwa [World.size_alloc] at this
  case round =>
    obtain ⟨k, hk, rfl, hz, ⟨x1, x2, hX, hx⟩, hK⟩ := hrel
    have hs := hK.size
    by_cases hlt : k < l.length
    · obtain ⟨y, hy⟩ : ∃ y, l[k]? = some y := ⟨_, List.getElem?_eq_getElem hlt⟩
      obtain ⟨b, o, rfl, c0, c1⟩ := (hA.grew hK) k _ hy
      obtain ⟨y1, y2⟩ := y
      simp only at c0 c1
      have HT := Lib.hid (take_succ_of hy)
      clear hy
      have hx' := hx.alloc (.cells #[.int .i64 y1, .int .i64 y2] 23)
      have hka : Keeps None wr (wr.alloc (.cells #[.int .i64 y1, .int .i64 y2] 23)) := (Keeps.refl _ _).alloc _
      have hy' := Blk.new wr 23 [.int .i64 y1, .int .i64 y2]
      have d0 := hx'.cell 0 _ rfl
      have d1 := hx'.cell 1 _ rfl
      skip
      -- ∀ z1 z2, (z1, z2) = bestOf (l.take (k + 1)) → Blk w1 (w.heap.size + 1) 23 [.int .i64 z1, .int .i64 z2] → k + 1 ≤ l.length ∧ Blk w1 w.heap.size 23 [.int .i64 0, .int .i64 0] ∧ (∃ x1 x2, Hid ((x1, x2) = bestOf (l.take (k + 1))) ∧ Blk w1 (w.heap.size + 1) 23 [.int .i64 x1, .int .i64 x2]) ∧ Keeps None w w1 :=
      by_cases h0 : k = 0
      · subst h0
        simp only [Nat.zero_mul, Nat.add_zero] at c0 c1
        have f0 := hx'.free 0
        have f1 := hx'.free 1
        have g0 := hx'.cell 0 _ rfl
        have g1 := hx'.cell 1 _ rfl
        go_wp2_with fail
        go_roundw
        case rel => exact ⟨1, by omega, by go_num, ((hz.grew hka).other _ _ (by simp)).other _ _ (by simp), ⟨y1, y2, Lib.hid (by rw [HT.out]; rfl), (hx'.set 0 _).set 1 _⟩, ((hK.trans hka).setCell _ _ (by simp; omega)).setCell _ _ (by simp; omega)⟩
        case measure => simp [intOf]; omega
      · have hkb : ((k : Int) == 0) = false := by simpa using h0
        go_wp2_with fail
        refine (less_any x1 x2 y1 y2 _).mono ?_
        rintro e w1 ⟨rfl, hk1⟩
        have hx1 := hx'.grew hk1
        have hy1 := hy'.grew hk1
        have e0 := hy1.cell 0 _ rfl
        have e1 := hy1.cell 1 _ rfl
        by_cases hl : lessF (x1, x2) (y1, y2) = true
        · rw [hl]
          have f0 := hx1.free 0
          have f1 := hx1.free 1
          have g0 := hx1.cell 0 _ rfl
          have g1 := hx1.cell 1 _ rfl
          go_wp2_with fail
          go_roundw
          case rel => exact ⟨k + 1, by omega, by go_num, (((hz.grew hka).grew hk1).other _ _ (by simp)).other _ _ (by simp), ⟨y1, y2, Lib.hid (by rw [HT.out, bestOf_snoc _ _ (by intro e; have := congrArg List.length e; rw [List.length_take, List.length_nil, Nat.min_eq_left hk] at this; omega), ← hX.out, if_pos hl]), (hx1.set 0 _).set 1 _⟩, (((hK.trans hka).trans hk1).setCell _ _ (by simp; omega)).setCell _ _ (by simp; omega)⟩
          case measure => simp [intOf]; omega
        · rw [Bool.not_eq_true] at hl
          rw [hl]
          go_wp2_with fail
          go_roundw
          case rel => exact ⟨k + 1, by omega, by go_num, (hz.grew hka).grew hk1, ⟨x1, x2, Lib.hid (by rw [HT.out, bestOf_snoc _ _ (by intro e; have := congrArg List.length e; rw [List.length_take, List.length_nil, Nat.min_eq_left hk] at this; omega), ← hX.out, if_neg (by rw [hl]; simp)]), hx1⟩, (hK.trans hka).trans hk1⟩
          case measure => simp [intOf]; omega
    · obtain rfl : k = l.length := by omega
      have d0 := hx.cell 0 _ rfl
      have d1 := hx.cell 1 _ rfl
      have f0 := hz.free 0
      have f1 := hz.free 1
      have g0 := hz.cell 0 _ rfl
      have g1 := hz.cell 1 _ rfl
      go_wp2_with fail
      refine bodyPost_ret (results_ct rfl _ _ w.heap.size 23 #[.int .i64 x1, .int .i64 x2] (0, 0) _ rfl ((hz.set 0 (.int .i64 x1)).set 1 (.int .i64 x2)).raw Try.underlying23 rfl Try.sizeSt2) rfl ?_
      refine ⟨?_, (hK.setCell _ _ (by simp)).setCell _ _ (by simp)⟩
      have h1 := hX.out
      rw [List.take_of_length_le (Nat.le_refl _)] at h1
      unfold stV
      rw [← h1]
      simp

set_option maxRecDepth 100000 in
set_option maxHeartbeats 1600000 in
theorem max_any (A : Option Addr) (n cap : Nat) (l : List (Int × Int)) (w : World) (hA : St w A l) (hn : l.length = n) (hr : n ≤ 140737488351232) :
    Calls Try.prog 101 #[.slice A n cap] w (fun e w' => e = .returned (stV (bestOf l)) ∧ Keeps None w w') := by
  subst hn
  go_enter Try.func101, Try.ntmps101
  go_wp2_with fail
  have hz := Blk.new w 23 [.int .i64 0, .int .i64 0]
  have hka : Keeps None w (w.alloc (.cells #[.int .i64 0, .int .i64 0] 23)) := (Keeps.refl _ _).alloc _
  refine (best_any A l.length cap l _ (hA.grew hka) rfl hr).mono ?_
  rintro e w1 ⟨rfl, hk1⟩
  obtain ⟨⟨x1, x2⟩, hX⟩ : ∃ x, x = bestOf l := ⟨_, rfl⟩
  rw [← hX]
  have hz1 := hz.grew hk1
  have hz2 := hz1.alloc (.cells #[.int .i64 x1, .int .i64 x2] 23)
  have hK := (hka.trans hk1).alloc (.cells #[.int .i64 x1, .int .i64 x2] 23)
  have f0 := hz2.free 0
  have f1 := hz2.free 1
  have g0 := hz2.cell 0 _ rfl
  have g1 := hz2.cell 1 _ rfl
  unfold stV
  go_wp2_with fail
  refine bodyPost_ret (results_cell_row rfl _ _ w.heap.size 23 #[.int .i64 x1, .int .i64 x2] (0, 0) _ rfl ((hz2.set 0 (.int .i64 x1)).set 1 (.int .i64 x2)).raw Try.underlying23 rfl Try.sizeSt2) rfl ?_
  exact ⟨by rw [← hX]; rfl, (hK.setCell _ _ (by simp)).setCell _ _ (by simp)⟩

def stCells (l : List (Int × Int)) : List Value := l.flatMap fun x => [.int .i64 x.1, .int .i64 x.2]
theorem stCells_length (l : List (Int × Int)) : (stCells l).length = l.length * 2 := by
  induction l with
  | nil => rfl
  | cons x l ih => simp [stCells] at ih ⊢; omega
theorem stCells_at : ∀ (l : List (Int × Int)) (j : Nat) (x : Int × Int), l[j]? = some x → (stCells l)[j * 2]? = some (.int .i64 x.1) ∧ (stCells l)[j * 2 + 1]? = some (.int .i64 x.2)
  | [], j, x, h => by simp at h
  | y :: l, 0, x, h => by simp at h; subst h; simp [stCells]
  | y :: l, j + 1, x, h => by
    have ih := stCells_at l j x (by simpa using h)
    have e : stCells (y :: l) = [.int .i64 y.1, .int .i64 y.2] ++ stCells l := by simp [stCells]
    have hk : ∀ d, (stCells (y :: l))[(j + 1) * 2 + d]? = (stCells l)[j * 2 + d]? := fun d => by
      rw [e, List.getElem?_append_right (by simp; omega)]
      congr 1
      simp; omega
    exact ⟨by have := hk 0; simp only [Nat.add_zero] at this; rw [this]; exact ih.1, by rw [hk 1]; exact ih.2⟩
theorem stCells_one (l : List (Int × Int)) : ∀ v ∈ stCells l, v.oneCell' = true := by
  intro v hv
  simp only [stCells, List.mem_flatMap] at hv
  obtain ⟨x, _, h⟩ := hv
  simp at h
  rcases h with rfl | rfl <;> rfl
/-- A block that holds the stamps at its head. -/
theorem St.of_blk {w : World} {g t : Nat} {l : List (Int × Int)} {rest : List Value} (h : Blk w g t (stCells l ++ rest)) : St w (some ⟨g, 0, Option.none⟩) l := by
  intro j x hx
  have hj : j < l.length := (List.getElem?_eq_some_iff.1 hx).1
  have hl := stCells_length l
  obtain ⟨h0, h1⟩ := stCells_at l j x hx
  refine ⟨g, 0, rfl, ?_, ?_⟩
  · rw [Nat.zero_add]; exact h.cell _ _ (by rw [List.getElem?_append_left (by omega)]; exact h0)
  · rw [Nat.zero_add]; exact h.cell _ _ (by rw [List.getElem?_append_left (by omega)]; exact h1)
/-- The source of a copy. -/
theorem St.src {w : World} {b o : Nat} {l : List (Int × Int)} (h : St w (some ⟨b, o, Option.none⟩) l) : ∀ j v, (stCells l)[j]? = some v → w.cell? ((⟨b, o, Option.none⟩ : Addr).add j) = some v := by
  intro j v hv
  have hj : j < l.length * 2 := by have := (List.getElem?_eq_some_iff.1 hv).1; rwa [stCells_length] at this
  have hq : j / 2 < l.length := by omega
  have hx : l[j / 2]? = some l[j / 2] := List.getElem?_eq_getElem hq
  obtain ⟨b', o', e, c0, c1⟩ := h (j / 2) _ hx
  cases e
  obtain ⟨h0, h1⟩ := stCells_at l (j / 2) _ hx
  rw [Addr.add_lit]
  rcases (by omega : j = j / 2 * 2 ∨ j = j / 2 * 2 + 1) with e | e
  · rw [← e] at h0 c0
    rw [c0, ← h0, hv]
  · rw [← e] at h1
    rw [Nat.add_assoc, ← e] at c1
    rw [c1, ← h1, hv]
end Go.Proofs.Ytcihfjfbcfgidaa
