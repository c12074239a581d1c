/- The program's tally of numbers: New; SameInts. -/
import Derived.Test.YtghbgcmhahndkaaTally
namespace Go.Proofs.Ytghbgcmhahndkaa
open Go.RowKit Go.Maps

/-- The unlike ones, in their order. -/
def uniqF (l : List Int) : List Int := l.foldl (fun acc s => if s ∈ acc then acc else acc ++ [s]) []
theorem uniqF_snoc (l : List Int) (s : Int) : uniqF (l ++ [s]) = if s ∈ uniqF l then uniqF l else uniqF l ++ [s] := by
  unfold uniqF; rw [List.foldl_append]; rfl
theorem uniq_mem (s : Int) : ∀ (l acc : List Int), s ∈ l.foldl (fun acc s => if s ∈ acc then acc else acc ++ [s]) acc ↔ s ∈ acc ∨ s ∈ l
  | [], acc => by simp
  | x :: l, acc => by
    rw [List.foldl_cons, uniq_mem s l]
    split
    · next h =>
      simp only [List.mem_cons]
      constructor
      · rintro (h1 | h1)
        · exact .inl h1
        · exact .inr (.inr h1)
      · rintro (h1 | h1 | h1)
        · exact .inl h1
        · exact .inl (h1 ▸ h)
        · exact .inr h1
    · simp only [List.mem_append, List.mem_cons, List.not_mem_nil, or_false, or_assoc]
theorem uniqF_mem (l : List Int) (s : Int) : s ∈ uniqF l ↔ s ∈ l := by unfold uniqF; rw [uniq_mem]; simp
theorem uniq_len : ∀ (l acc : List Int), (l.foldl (fun acc s => if s ∈ acc then acc else acc ++ [s]) acc).length ≤ acc.length + l.length
  | [], acc => by simp
  | x :: l, acc => by
    rw [List.foldl_cons]
    refine Nat.le_trans (uniq_len l _) ?_
    split <;> simp <;> omega
theorem uniqF_len (l : List Int) : (uniqF l).length ≤ l.length := by have := uniq_len l []; simpa [uniqF] using this

theorem Tal.appended {w w1 : World} {g base : Nat} {v v' : Value} {grp ys : List Int} {need : Int} {bm : Nat} {got : List (Int × Int)} (h : Tal w g base v grp need bm got) (hr : Row .i64 3 w1 base v' ys) (hk : Keeps (OwnB v) w w1) (hl : v'.ownBlock = v.ownBlock ∨ v'.ownBlock = some w.heap.size) :
    Tal (w1.setCell ⟨g, 0, Option.none⟩ v') g base v' ys need bm got := by
  have hg := h.blk.lt
  obtain ⟨D, hD, hTD⟩ := h.map
  have hbm : bm < w.heap.size := by obtain ⟨es, clock, h1, _⟩ := hD; exact lt_of_block h1
  have hne : ∀ b, v'.ownBlock = some b → b ≠ g ∧ b ≠ bm := by
    intro b hb
    rcases hl with e | e
    · exact h.ne.2 b (e ▸ hb)
    · rw [hb] at e; cases e; omega
  refine ⟨(h.blk.keeps hk (fun e => (h.ne.2 g e).1 rfl)).set 0 v', ?_, ⟨D, ?_, hTD⟩, h.hg, h.ne.1, hne⟩
  · exact hr.keeps (S := One g) ((Keeps.refl _ _).setCell _ _ (fun _ => rfl)) fun b hb e => (hne b hb).1 e
  · have h1 : w1.ownsMap Try.prog 3 (plainElem Try.prog 3) bm got.length D := ownsMap_block hD (fun hlt => hk.block bm hlt (fun e => (h.ne.2 bm e).2 rfl))
    exact h1.setCell (by simpa using Ne.symm h.ne.1) _

def NewEnd (l : List Int) (need : Int) (w : World) (e : Ending) (w' : World) : Prop :=
  ∃ v, e = .returned (.pointer (some ⟨w.heap.size + 1, 0, Option.none⟩)) ∧ Tal w' (w.heap.size + 1) w.heap.size v (uniqF l) need w.heap.size [] ∧ Keeps None w w'

set_option maxRecDepth 100000 in
set_option maxHeartbeats 1600000 in
theorem new_any (A : Option Addr) (n cap : Nat) (l : List Int) (need : Int) (w : World) (hA : Nums .i64 w A l) (hn : l.length = n) (hr : n ≤ 17592186044416) :
    Calls Try.prog 16 #[.slice A n cap, .int .i64 need] w (NewEnd l need w) := by
  obtain ⟨i0, hi, hz0, hz1, hz2⟩ := info_parts Try.infoI64
  have hmm := @run_makeMap Try.prog
  subst hn
  go_enter Try.func16, Try.ntmps16
  go_wp2
  go_loopw [14] (fun i wr => ∃ (k : Nat) (v : Value) (ys : List Int), k ≤ l.length ∧ i = .int .i64 k ∧ Tal wr (w.heap.size + 1) w.heap.size v ys need w.heap.size [] ∧ Hid (ys = uniqF (l.take k)) ∧ ys.length ≤ k ∧ Keeps None w wr) (fun i _ => l.length - (intOf i).toNat)
  case atStart =>
    refine ⟨0, .slice Option.none 0 0, [], Nat.zero_le _, rfl, ⟨?_, Row.nil _ _ _ _, ⟨.map [], ?_, TD.nil⟩, ⟨by omega, Nat.le_refl _⟩, ⟨by omega, fun b e => by simp [Value.ownBlock] at e⟩⟩, Lib.hid rfl, Nat.le_refl _, ?_⟩
    · have := Blk.new (w.alloc (.map #[] 0)) 85 [.slice Option.none 0 0, .int .i64 need, .map (some w.heap.size)]
      rwa [World.size_alloc] at this
    · exact (World.ownsMap_made w Try.prog 3 (plainElem Try.prog 3)).alloc _
    · exact ((Keeps.refl _ _).alloc _).alloc _
  case round =>
    obtain ⟨k, v, ys, hk, rfl, hT, hE, hyl, hK⟩ := hrel
    have hsz := hK.size
    obtain ⟨Ay, cy, rfl, -, hNy, -⟩ := hT.row.open_
    have c0 := hT.blk.cell 0 _ rfl
    by_cases hlt : k < l.length
    · obtain ⟨s, b, o, rfl, hc, hs⟩ := (hA.grew hK).get k hlt
      have HT := Lib.hid (take_succ_of hs.out)
      go_wp2_with fail
      refine (contains_any Ay ys.length cy ys s wr hNy rfl (by omega)).mono ?_
      rintro e w0 ⟨rfl, rfl⟩
      by_cases hin : s ∈ ys
      · have E2 : Hid (ys = uniqF (l.take (k + 1))) := Lib.hid (by rw [HT.out, uniqF_snoc, ← hE.out, if_pos hin])
        rw [decide_eq_true hin]
        clear hin
        go_wp2_with fail
        go_roundw
        case rel => exact ⟨k + 1, _, ys, by omega, by go_num, hT, E2, by omega, hK⟩
        case measure => simp [intOf]; omega
      · have E2 : Hid (ys ++ [s] = uniqF (l.take (k + 1))) := Lib.hid (by rw [HT.out, uniqF_snoc, ← hE.out, if_neg hin])
        rw [decide_eq_false hin]
        clear hin
        have hBw : ∀ w', Blk w' (w.heap.size + 1) 85 [.slice Ay ys.length cy, .int .i64 need, .map (some w.heap.size)] → w'.frozen? ⟨w.heap.size + 1, 0, Option.none⟩ = false ∧ ∃ u, w'.cell? ⟨w.heap.size + 1, 0, Option.none⟩ = some u := fun w' h => ⟨h.free 0, h.has 0 (by simp)⟩
        go_wp2_with (at_builtin; refine wpList_append_row _ rfl (.tmp 29) (.tmp 31) 27 rfl w.heap.size 3 i0 (.int .i64 0) 1 8 Try.underlying27 hi hz0 hz1 hz2 rfl (by decide) _ ys.length _ rfl (hT.row.raw.alloc _) (some ⟨w0.heap.size, 0, Option.none⟩) 1 1 [Value.int .i64 s] rfl rfl (fun e => by cases e) (src_new w0 3 _ _ rfl) (ints_oneCell _ [s]) (by unfold maxLen; omega) (by omega) (by simp; omega) ?_; intro v' w1 hown hk1 hloc; have hr1 : Row .i64 3 w1 w.heap.size v' (ys ++ [s]) := Row.of_append rfl rfl hown; have hT' := hT.grew ((Keeps.refl None w0).alloc (.cells #[Value.int .i64 s] 3)); have hb1 := hBw _ (hT'.blk.keeps hk1 (fun e => (hT.ne.2 _ e).1 rfl)); have hf := hb1.1; obtain ⟨q, hq⟩ := hb1.2; have H3 := Lib.hid (hT'.appended hr1 hk1 hloc); have hk2 : Keeps None w w1 := (hK.alloc _).own (hT.row.raw.alloc _) (Nat.le_refl _) hk1; obtain ⟨A', c', ev⟩ := hr1.slice; obtain rfl : v' = .slice A' (ys.length + 1) c' := ev.trans (by simp); clear hr1 hT' hown ev hb1)
        go_roundw
        case rel => exact ⟨k + 1, _, ys ++ [s], by omega, by go_num, H3.out, E2, by simp; omega, hk2.setCell _ _ (fun h => by simp at h; omega)⟩
        case measure => simp [intOf]; omega
    · obtain rfl : k = l.length := by omega
      go_wp2
      go_ret
      rw [List.take_of_length_le (Nat.le_refl _)] at hE
      exact ⟨_, rfl, hE.out ▸ hT, hK⟩

/-- Number for number. -/
def SameB (xs ys : List Int) : Bool := decide (xs = ys)

def SameEnd (xs ys : List Int) (w : World) (e : Ending) (w' : World) : Prop := e = .returned (.bool (SameB xs ys)) ∧ Drew w w'

set_option maxRecDepth 100000 in
set_option maxHeartbeats 800000 in
theorem sameints_any (A : Option Addr) (n cap : Nat) (xs : List Int) (B : Option Addr) (m cap' : Nat) (ys : List Int) (w : World) (hA : Nums .i64 w A xs) (hn : xs.length = n) (hB : Nums .i64 w B ys) (hm : ys.length = m) (hr : n ≤ 140737488351232) :
    Calls Try.prog 36 #[.slice A n cap, .slice B m cap'] w (SameEnd xs ys w) := by
  subst hn
  subst hm
  by_cases hl : xs.length = ys.length
  · have hlb : (xs.length == ys.length) = true := by simpa using hl
    have hl1 : xs.length ≤ ys.length := by omega
    have hl2 : ys.length ≤ xs.length := by omega
    have HL := Lib.hid hl
    clear hl
    go_enter Try.func36, Try.ntmps36
    go_wp2
    go_loopw [5] (fun i wr => ∃ k : Nat, k ≤ xs.length ∧ i = .int .i64 k ∧ Hid (xs.take k = ys.take k) ∧ Drew w wr) (fun i _ => xs.length - (intOf i).toNat)
    case atStart => exact ⟨0, Nat.zero_le _, rfl, Lib.hid (by simp), Drew.refl w⟩
    case round =>
      obtain ⟨k, hk, rfl, ht, ⟨⟨nd, rfl⟩⟩⟩ := hrel
      by_cases hlt : k < xs.length
      · obtain ⟨x, b1, o1, rfl, hc1, hx⟩ := hA.get k hlt
        obtain ⟨y, b2, o2, rfl, hc2, hy⟩ := hB.get k (by omega)
        have hlt2 : k < ys.length := by omega
        by_cases he : x = y
        · have heb : (x == y) = true := by simpa using he
          have hen : (x != y) = false := by simpa using he
          have HE := Lib.hid he
          clear he
          go_wp2
          go_quiet (fail)
          go_wp2
          go_roundw
          case rel => exact ⟨k + 1, by omega, by go_num, Lib.hid (by rw [take_succ_of hx.out, take_succ_of hy.out, ht.out, HE.out]), ⟨_, rfl⟩⟩
          case measure => simp [intOf]; omega
        · have heb : (x == y) = false := by simpa using he
          have hen : (x != y) = true := by simpa using he
          have HE := Lib.hid he
          clear he
          go_wp2
          go_quiet (fail)
          go_wp2
          go_ret
          refine ⟨ret_bool ?_, by first | exact ⟨_, rfl⟩ | exact (Drew.of w nd).more nq⟩
          symm
          unfold SameB
          refine decide_eq_false fun e => HE.out ?_
          have h1 := hx.out
          rw [e, hy.out] at h1
          exact (Option.some.inj h1).symm
      · go_wp2
        go_ret
        refine ⟨ret_bool ?_, ⟨_, rfl⟩⟩
        symm
        unfold SameB
        refine decide_eq_true ?_
        have h1 := ht.out
        rwa [List.take_of_length_le (by omega), List.take_of_length_le (by omega)] at h1
  · have hlb : (xs.length == ys.length) = false := by simpa using hl
    go_enter Try.func36, Try.ntmps36
    go_wp2
    go_ret
    exact ⟨ret_bool (by unfold SameB; symm; simp; intro e; exact hl (by rw [e])), Drew.refl w⟩
end Go.Proofs.Ytghbgcmhahndkaa
