/- cairnlaw6.got: what a tally's Got goes over, collected. -/
import Derived.Test.YtghbgcmhahndkaaTallySeq
import Derived.Sort.QuietIn
namespace Go.Proofs.Ytghbgcmhahndkaa
open Go.RowKit Go.Shelf

attribute [local go_sem] Oper.semAt_some

theorem eq_nilFunc (w : World) (f : Fn) (b c : Array Value) : (binOp .eql 46 (.func f b c) .nilFunc).run Try.prog w = .ok (.bool false) w := by
  have h : ∀ d : Nat, (Op.equalIn (d + 1) 46 (.func f b c) .nilFunc).run Try.prog w = .ok false w := fun d => by
    simp [Op.equalIn, run_underlying Try.underlying46]
  simp only [binOp]
  simp [Op.equal, Op.maxDepth, h 9999]

def GotRes (grp : List Int) (got : List (Int × Int)) (w : World) (e : Ending) (w' : World) : Prop :=
  ∃ v1 v2, e = .returned (.tuple #[v1, v2, .bool true]) ∧ Row .i64 3 w' w.heap.size v1 (hasF grp got) ∧ Row .i64 3 w' w.heap.size v2 (ansF grp got) ∧ Keeps None w w'

set_option maxRecDepth 100000 in
set_option maxHeartbeats 2000000 in
theorem got_any (g base : Nat) (v : Value) (grp : List Int) (need : Int) (bm : Nat) (got : List (Int × Int)) (w : World) (hT : Tal w g base v grp need bm got) (hwf : ∀ s ∈ grp, (Lit.int .i64 s).wf = true) (hgl : grp.length ≤ 17592186044416) :
    Calls Try.prog 24 #[.pointer (some ⟨g, 0, Option.none⟩)] w (GotRes grp got w) := by
  obtain ⟨i0, hi, hz0, hz1, hz2⟩ := info_parts Try.infoI64
  have hal := ansF_len grp got
  have hhl : (hasF grp got).length ≤ grp.length := List.length_filter_le _ _
  obtain ⟨xs, hxs⟩ : ∃ xs, xs = hasF grp got := ⟨_, rfl⟩
  obtain ⟨ys, hys⟩ : ∃ ys, ys = ansF grp got := ⟨_, rfl⟩
  refine (callsIn_wide (n := 6)).1 ?_
  refine callsIn_of_wp_marks Try.func24 rfl trivial ?_ rfl
  simp only [Try.ntmps24, List.size_toArray, List.length_cons, List.length_nil, Nat.reduceAdd, Nat.reduceSub, Array.replicate_succ, Array.replicate_zero, List.push_toArray, List.append_toArray, List.nil_append, List.cons_append]
  gi_wp2
  refine ⟨trivial, ?_⟩
  refine (callsIn_wide.2 (gotseq_any g base v grp need bm got w hT hwf hgl)).mono ?_
  rintro e w1 ⟨rfl, ⟨v1, v2, h2⟩, hk1⟩
  have hq := eq_nilFunc w1 (.func 50) #[] #[.pointer (some ⟨w.heap.size, 0, Option.none⟩), .pointer (some ⟨w.heap.size + 1, 0, Option.none⟩)]
  gi_wp2
  obtain ⟨A1, d1, rfl, -, hn1, -, hl1, -⟩ := h2.row1.open_
  obtain ⟨A2, d2, rfl, -, hn2, -, hl2, -⟩ := h2.row2.open_
  have hsz := hk1.size
  have k2 : Keeps None w1 ((w1.alloc (.cells #[.slice Option.none 0 0] 27)).alloc (.cells #[.slice Option.none 0 0] 27)) := ((Keeps.refl _ _).alloc _).alloc _
  have hLow : Low w1.heap.size ((w1.alloc (.cells #[.slice Option.none 0 0] 27)).alloc (.cells #[.slice Option.none 0 0] 27)) w.heap.size (w.heap.size + 1) A1 d1 A2 d2 (hasF grp got) (ansF grp got) :=
    ⟨(h2.blk1.grew k2).cell 0 _ rfl, (h2.blk2.grew k2).cell 0 _ rfl, hn1.grew k2, hn2.grew k2, ⟨h2.blk1.lt, h2.blk2.lt⟩, fun b o e => (hl1 b o e).2.2, fun b o e => (hl2 b o e).2.2⟩
  have hB0 : Below w1.heap.size w1 ((w1.alloc (.cells #[.slice Option.none 0 0] 27)).alloc (.cells #[.slice Option.none 0 0] 27)) := k2.to_below
  have hT0 : Two ((w1.alloc (.cells #[.slice Option.none 0 0] 27)).alloc (.cells #[.slice Option.none 0 0] 27)) w1.heap.size w1.heap.size (w1.heap.size + 1) (.slice Option.none 0 0) (.slice Option.none 0 0) [] [] :=
    ⟨(Blk.new w1 _ _).alloc _, by have := Blk.new (w1.alloc (.cells #[.slice Option.none 0 0] 27)) 27 [.slice Option.none 0 0]; rwa [World.size_alloc] at this, Row.nil _ _ _ _, Row.nil _ _ _ _, fun b e => by simp [Value.ownBlock] at e, fun b e => by simp [Value.ownBlock] at e, by omega⟩
  refine wpIn_rangeFunc_ownF (F := Fence.wide) rfl (by omega) (gf := 50) (lb := #[.pointer (some ⟨w.heap.size, 0, Option.none⟩), .pointer (some ⟨w.heap.size + 1, 0, Option.none⟩)]) rfl trivial (enters_of Try.func50 (by kernel_rfl) rfl)
    (seq_stops Fence.wide 5 trivial rfl (by omega) w.heap.size (w.heap.size + 1) w1.heap.size A1 d1 A2 d2 (hasF grp got) (ansF grp got) hal (by omega) _ (by simp; omega) hLow) belowK_t (belowK_b (by simp; omega)) (Below.refl _ _) (fun _ => rfl)
    (fun pre W => (∃ u1 u2, Two W w1.heap.size w1.heap.size (w1.heap.size + 1) u1 u2 (pre.map (·.1)) (pre.map (·.2))) ∧ Below w1.heap.size w1 W)
    (fun _ _ _ => False)
    (OwnFrom.and (Own.from (two_own w1.heap.size w1.heap.size (w1.heap.size + 1) (fun pre => pre.map (·.1)) (fun pre => pre.map (·.2))) _) (ownFrom_below (Nat.le_refl _) (by simp; omega)))
    (fun _ _ _ _ _ hs _ _ => hs)
    ⟨⟨_, _, hT0⟩, hB0⟩
    (fun x => { tmps := #[.pointer (some ⟨g, 0, Option.none⟩), undef, .slice Option.none 0 0, .slice Option.none 0 0, .bool false, (.func (.func 50) #[] #[.pointer (some ⟨w.heap.size, 0, Option.none⟩), .pointer (some ⟨w.heap.size + 1, 0, Option.none⟩)]), .pointer (some ⟨w1.heap.size, 0, Option.none⟩), .pointer (some ⟨w1.heap.size + 1, 0, Option.none⟩), .int .i64 x.1, .int .i64 x.2, .pointer (some ⟨g, 0, Option.none⟩), (.func (.func 50) #[] #[.pointer (some ⟨w.heap.size, 0, Option.none⟩), .pointer (some ⟨w.heap.size + 1, 0, Option.none⟩)]), (.func (.func 50) #[] #[.pointer (some ⟨w.heap.size, 0, Option.none⟩), .pointer (some ⟨w.heap.size + 1, 0, Option.none⟩)]), .bool false, (.func (.func 50) #[] #[.pointer (some ⟨w.heap.size, 0, Option.none⟩), .pointer (some ⟨w.heap.size + 1, 0, Option.none⟩)]), .int .i64 x.1, .int .i64 x.2, undef, undef, undef, undef, undef, undef, undef, undef, undef, undef], defers := [] }) ?assign ?body ?done ?stop
  case assign =>
    intro l x W K hK
    gi_wp2
    exact hK
  case body =>
    rintro l pre x W ⟨⟨u1, u2, hTw⟩, hB⟩ hlt
    obtain ⟨P1, hP1⟩ : ∃ P, P = pre.map (·.1) := ⟨_, rfl⟩
    obtain ⟨P2, hP2⟩ : ∃ P, P = pre.map (·.2) := ⟨_, rfl⟩
    have hp1 : P1.length < 17592186044416 := by rw [hP1, List.length_map]; omega
    have hp2 : P2.length < 17592186044416 := by rw [hP2, List.length_map]; omega
    rw [← hP1, ← hP2] at hTw
    have HP1 := Lib.hid hP1
    have HP2 := Lib.hid hP2
    clear hP1 hP2 hT0 hLow h2 hn1 hn2 hl1 hl2 hq hT hal
    obtain ⟨E1, e1, rfl⟩ := hTw.row1.slice
    obtain ⟨E2, e2, rfl⟩ := hTw.row2.slice
    have dd1 := hTw.blk1.cell 0 _ rfl
    gi_wp2_with (first | (gi_at_builtin; refine wpListIn_append_row _ rfl (.tmp 17) (.tmp 19) 27 rfl w1.heap.size 3 i0 (.int .i64 0) 1 8 Try.underlying27 hi hz0 hz1 hz2 rfl (by decide) (.slice E1 P1.length e1) P1.length (P1.map (Value.int .i64)) rfl (hTw.row1.grew ((Keeps.refl None _).alloc _)).raw (some ⟨(W).heap.size, 0, Option.none⟩) 1 1 [.int .i64 x.1] rfl rfl (fun e => by cases e) (src_new (W) 3 _ _ rfl) (ints_oneCell _ [x.1]) (by unfold maxLen; omega) (by omega) (by have := hB.size; simp; omega) ?_; intro v1' wA hown1 hkA hlA; have hrA : Row .i64 3 wA w1.heap.size v1' (P1 ++ [x.1]) := Row.of_append rfl rfl hown1; obtain ⟨t1, t2, t3, t4⟩ := hTw.push ((Keeps.refl None _).alloc _) hrA hkA hlA; obtain ⟨A', c', ev1⟩ := hrA.slice; obtain rfl : v1' = .slice A' (P1.length + 1) c' := ev1.trans (by simp); have dd2 := t1.blk2.cell 0 _ rfl; clear hown1 hrA hkA hlA ev1) | (gi_at_builtin; refine wpListIn_append_row _ rfl (.tmp 21) (.tmp 23) 27 rfl w1.heap.size 3 i0 (.int .i64 0) 1 8 Try.underlying27 hi hz0 hz1 hz2 rfl (by decide) (.slice E2 P2.length e2) P2.length (P2.map (Value.int .i64)) rfl (t1.row2.grew ((Keeps.refl None _).alloc _)).raw (some ⟨wA.heap.size, 0, Option.none⟩) 1 1 [.int .i64 x.2] rfl rfl (fun e => by cases e) (src_new (wA.setCell ⟨w1.heap.size, 0, Option.none⟩ (.slice A' (P1.length + 1) c')) 3 _ _ (by simp)) (ints_oneCell _ [x.2]) (by unfold maxLen; omega) (by omega) (by have := hB.size; have := t2.size; simp at this ⊢; omega) ?_; intro v2' wB hown2 hkB hlB; have hrB : Row .i64 3 wB w1.heap.size v2' (P2 ++ [x.2]) := Row.of_append rfl rfl hown2; obtain ⟨s1, s2, s3, s4⟩ := t1.swap.push ((Keeps.refl None _).alloc _) hrB hkB hlB; obtain ⟨A2', c2', ev2⟩ := hrB.slice; obtain rfl : v2' = .slice A2' (P2.length + 1) c2' := ev2.trans (by simp); clear hown2 hrB hkB hlB ev2))
    have K : Keeps (fun k => (k = w1.heap.size ∨ (Value.slice E1 P1.length e1).ownBlock = some k) ∨ (k = w1.heap.size + 1 ∨ (Value.slice E2 P2.length e2).ownBlock = some k)) W _ := (t2.mono (fun k _ e => Or.inl e)).andThen s2 (fun i _ e => Or.inr e)
    refine ⟨KeepsOthers.of_keeps K ?_, K.below hB.size ?_, ⟨.slice A' (P1.length + 1) c', .slice A2' (P2.length + 1) c2', ?_⟩, ?_⟩
    · rintro k o (h | h) ho
      · exact hTw.cells k o h ho
      · exact hTw.swap.cells k o h ho
    · rintro k hk ((h | h) | (h | h))
      · omega
      · have := (hTw.row1.lt k h).1; omega
      · omega
      · have := (hTw.row2.lt k h).1; omega
    · have m1 : (pre ++ [x]).map (·.1) = P1 ++ [x.1] := by rw [List.map_append, ← HP1.out]; rfl
      have m2 : (pre ++ [x]).map (·.2) = P2 ++ [x.2] := by rw [List.map_append, ← HP2.out]; rfl
      rw [m1, m2]
      exact s1.swap
    · refine hB.trans (K.below hB.size ?_)
      rintro k hk ((h | h) | (h | h))
      · omega
      · have := (hTw.row1.lt k h).1; omega
      · omega
      · have := (hTw.row2.lt k h).1; omega
  case done =>
    rintro D zs W hD rfl ⟨⟨u1, u2, hTw⟩, hB⟩ hK
    have dd1 := hTw.blk1.cell 0 _ rfl
    have dd2 := hTw.blk2.cell 0 _ rfl
    have m1 : ((hasF grp got).zip (ansF grp got)).map (·.1) = hasF grp got := by rw [List.map_fst_zip (by omega)]
    have m2 : ((hasF grp got).zip (ansF grp got)).map (·.2) = ansF grp got := by rw [List.map_snd_zip (by omega)]
    rw [m1, m2] at hTw
    have HTW := Lib.hid hTw
    obtain ⟨E1, e1, rfl⟩ := hTw.row1.slice
    obtain ⟨E2, e2, rfl⟩ := hTw.row2.slice
    clear m1 m2 hTw
    gi_wp2
    gi_quiet (fail)
    gi_wp2
    have hBD : Below w1.heap.size w1 ((W.drewN nq).putObj D (.deferred Option.none)) := (hB.trans ((Drew.of W nq).keeps (fun k => w1.heap.size ≤ k) |>.below hB.size (fun k h1 h2 => by omega))).trans (belowK_b (w := w1) (Nat.le_refl _) (W.drewN nq) D _ _ (by simp at hD; omega) hK rfl rfl)
    refine ⟨by simp, .inl ⟨_, _, rfl, run_takeDeferred hK, ?_⟩⟩
    refine ⟨_, results_tmp3 rfl _ _ _, _, _, rfl, ?_, ?_, ?_⟩
    · exact (Row.down (ownsRow_putObj (HTW.out.row1.grew (Drew.of W nq |>.keeps None)) _ hK rfl) hsz)
    · rw [← hal]
      exact (Row.down (ownsRow_putObj (HTW.out.row2.grew (Drew.of W nq |>.keeps None)) _ hK rfl) hsz)
    · exact hk1.of_below hBD (fun k h1 h2 => by omega)
  case stop =>
    rintro D c pre W _ _ h _
    exact h.elim
end Go.Proofs.Ytghbgcmhahndkaa
