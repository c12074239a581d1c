/- A writer that lies among other cells of its block (an array of writers): its methods, put. By this session's own small program out of Var, Writer, Putting. -/
import Derived.Test.YtnhhmkgcgogddaaPutting
namespace Go.Proofs.Ytnhhmkgcgogddaa.apart
open Go.RowKit
set_option linter.unusedVariables false

/-! ### The writer's state: its block, and the row that it owns -/
def Wr (T : Nat) (pre post : List Value) (w : World) (g base : Nat) (v : Value) (bad : Bool) (zs : List Int) : Prop :=
  Blk w g T (pre ++ (v :: .bool bad :: post)) ∧ Row .u8 5 w base v zs ∧ (∀ b, v.ownBlock = some b → b ≠ g)
theorem Wr.c0 {T : Nat} {pre post : List Value} {w : World} {g base : Nat} {v : Value} {bad : Bool} {zs : List Int} (h : Wr T pre post w g base v bad zs) : w.cell? ⟨g, pre.length, Option.none⟩ = some v := h.1.cell pre.length _ (by simp)
theorem Wr.c1 {T : Nat} {pre post : List Value} {w : World} {g base : Nat} {v : Value} {bad : Bool} {zs : List Int} (h : Wr T pre post w g base v bad zs) : w.cell? ⟨g, pre.length + 1, Option.none⟩ = some (.bool bad) := h.1.cell (pre.length + 1) _ (by simp)
theorem blk_set0 {T : Nat} {pre post : List Value} {w : World} {g : Nat} {v b : Value} (h : Blk w g T (pre ++ (v :: b :: post))) (v' : Value) : Blk (w.setCell ⟨g, pre.length, Option.none⟩ v') g T (pre ++ (v' :: b :: post)) := by
  have := h.set pre.length v'
  rwa [List.set_append_right _ _ (by simp), Nat.sub_self, List.set_cons_zero] at this
theorem blk_set1 {T : Nat} {pre post : List Value} {w : World} {g : Nat} {v b : Value} (h : Blk w g T (pre ++ (v :: b :: post))) (b' : Value) : Blk (w.setCell ⟨g, pre.length + 1, Option.none⟩ b') g T (pre ++ (v :: b' :: post)) := by
  have := h.set (pre.length + 1) b'
  rwa [List.set_append_right _ _ (by simp), Nat.add_sub_cancel_left, List.set_cons_succ, List.set_cons_zero] at this
/-- A put's end. -/
def Puts (T : Nat) (pre post : List Value) (g base : Nat) (v : Value) (bad : Bool) (zs : List Int) (w : World) (e : Ending) (w' : World) : Prop :=
  e = .returned (.tuple #[]) ∧ ∃ v', Wr T pre post w' g base v' bad zs ∧ Keeps (Wt g v) w w' ∧ (∀ b, v'.ownBlock = some b → v.ownBlock = some b ∨ w.heap.size ≤ b)

theorem Wr.keeps {T : Nat} {pre post : List Value} {S : Nat → Prop} {w w' : World} {g base : Nat} {v : Value} {bad : Bool} {zs : List Int} (h : Wr T pre post w g base v bad zs) (hk : Keeps S w w') (hg : ¬ S g) (hv : ∀ b, v.ownBlock = some b → ¬ S b) : Wr T pre post w' g base v bad zs :=
  ⟨h.1.keeps hk hg, h.2.1.keeps hk hv, h.2.2⟩
theorem Wr.grew {T : Nat} {pre post : List Value} {w w' : World} {g base : Nat} {v : Value} {bad : Bool} {zs : List Int} (h : Wr T pre post w g base v bad zs) (hk : Keeps None w w') : Wr T pre post w' g base v bad zs := h.keeps hk id (fun _ _ f => f)

/-- An append onto the writer's row, and its store. -/
theorem Wr.appended {T : Nat} {pre post : List Value} {w w1 : World} {g base : Nat} {v v' : Value} {bad : Bool} {zs ys : List Int} (h : Wr T pre post w g base v bad zs) (hr : Row .u8 5 w1 base v' ys) (hk : Keeps (OwnB v) w w1) (hl : v'.ownBlock = v.ownBlock ∨ v'.ownBlock = some w.heap.size) :
    Wr T pre post (w1.setCell ⟨g, pre.length, Option.none⟩ v') g base v' bad ys ∧ Keeps (Wt g v) w (w1.setCell ⟨g, pre.length, Option.none⟩ v') ∧ (∀ b, v'.ownBlock = some b → v.ownBlock = some b ∨ w.heap.size ≤ b) := by
  have hg := h.1.lt
  have hne : ∀ b, v'.ownBlock = some b → b ≠ g := by
    intro b hb
    rcases hl with e | e
    · exact h.2.2 b (e ▸ hb)
    · rw [hb] at e; cases e; omega
  refine ⟨⟨blk_set0 (h.1.keeps hk (fun e => h.2.2 g e rfl)) v', ?_, hne⟩, ?_, ?_⟩
  · refine hr.keeps (S := One g) ((Keeps.refl _ _).setCell _ _ (fun _ => rfl)) fun b hb e => hne b hb e
  · exact Keeps.setCell (hk.mono fun k _ e => Or.inr e) _ _ (fun _ => .inl rfl)
  · intro b hb
    rcases hl with e | e
    · exact .inl (e ▸ hb)
    · rw [hb] at e; cases e; exact .inr (Nat.le_refl _)

set_option maxRecDepth 100000 in
set_option maxHeartbeats 1600000 in
theorem varint_any {T : Nat} {pre post : List Value} (g base : Nat) (v : Value) (bad : Bool) (zs : List Int) (u : Nat) (w : World) (hw : Wr T pre post w g base v bad zs) (hb : base ≤ w.heap.size) (hu : u < 18446744073709551616) (hr : zs.length + 10 ≤ 140737488355328) :
    Calls Try.prog 60 #[.pointer (some ⟨g, pre.length, Option.none⟩), .int .u64 (u : Int)] w (Puts T pre post g base v bad (zs ++ varF u) w) := by
  obtain ⟨i0, hi, hz0, hz1, hz2⟩ := info_parts Try.infoU8
  have hten := varF_ten hu
  go_enter Try.func60, Try.ntmps60
  go_wp2
  go_loopw [1] (fun x wr => ∃ (m : Nat) (v1 : Value) (ys : List Int), x = .int .u64 (m : Int) ∧ m < 18446744073709551616 ∧ Wr T pre post wr g base v1 bad ys ∧ Hid (ys ++ varF m = zs ++ varF u) ∧ Keeps (Wt g v) w wr ∧ (∀ b, v1.ownBlock = some b → v.ownBlock = some b ∨ w.heap.size ≤ b)) (fun x _ => (intOf x).toNat)
  case atStart => exact ⟨u, v, zs, rfl, hu, hw, Lib.hid rfl, Keeps.refl _ _, fun b hb => .inl hb⟩
  case round =>
    clear hw
    obtain ⟨m, v1, ys, rfl, hm, hw, hE, hK, hN⟩ := hrel
    have hlen : ys.length + (varF m).length = zs.length + (varF u).length := by
      have := congrArg List.length hE.out
      simpa using this
    obtain ⟨A, c, rfl⟩ := hw.2.1.slice
    have c0 := hw.c0
    by_cases hlt : 127 < m
    · obtain ⟨x, hx⟩ : ∃ x : Int, x = ((m % 128 + 128 : Nat) : Int) := ⟨_, rfl⟩
      have e1 : bits .or .u8 ((m : Int) % 256) 128 = x := by rw [hx]; exact or_128 m
      have hE2 : Hid ((ys ++ [x]) ++ varF (m / 128) = zs ++ varF u) := Lib.hid (by rw [← hE.out, varF_more hlt, hx]; simp)
      have hl2 := congrArg List.length (varF_more hlt)
      rw [List.length_cons] at hl2
      clear hE hx
      have hBw : ∀ w', Blk w' g T (pre ++ (.slice A ys.length c :: .bool bad :: post)) → w'.frozen? ⟨g, pre.length, Option.none⟩ = false ∧ ∃ u, w'.cell? ⟨g, pre.length, Option.none⟩ = some u := fun w' h => ⟨h.free pre.length, h.has pre.length (by simp)⟩
      go_wp2_with (at_builtin; refine wpList_append_row _ rfl (.tmp 10) (.tmp 14) 23 rfl base 5 i0 (.int .u8 0) 1 1 Try.underlying23 hi hz0 hz1 hz2 rfl (by decide) _ ys.length _ rfl (hw.2.1.raw.alloc _) (some ⟨wr.heap.size, 0, Option.none⟩) 1 1 [Value.int .u8 x] rfl rfl (fun e => by cases e) (src_new wr 5 _ _ rfl) (ints_oneCell _ [x]) (by unfold maxLen; omega) (by omega) (by have := hK.size; simp; omega) ?_; intro v' w1 hown hk1 hloc; have hr1 : Row .u8 5 w1 base v' (ys ++ [x]) := Row.of_append rfl rfl hown; have hw' := hw.grew ((Keeps.refl None wr).alloc (.cells #[Value.int .u8 x] 5)); have hf := (hBw _ (hw'.1.keeps hk1 (fun e => hw.2.2 g e rfl))).1; obtain ⟨q, hq⟩ := (hBw _ (hw'.1.keeps hk1 (fun e => hw.2.2 g e rfl))).2; have H3 := Lib.hid (hw'.appended hr1 hk1 hloc); obtain ⟨A', c', ev⟩ := hr1.slice; obtain rfl : v' = .slice A' (ys.length + 1) c' := ev.trans (by simp); clear hr1 hw' hown ev)
      go_roundw
      case rel => 
        obtain ⟨a1, a2, a3⟩ := H3.out
        refine ⟨m / 128, _, ys ++ [x], by go_num, by omega, a1, hE2, ?_, ?_⟩
        · exact hK.wt hN (((Keeps.refl _ wr).alloc _).trans a2)
        · intro b hb'
          rcases a3 b hb' with h | h
          · exact hN b h
          · right; have := hK.size; simp at h; omega
      case measure => simp [intOf]; omega
    · have hE2 : Hid ((ys ++ [(m : Int)]) = zs ++ varF u) := Lib.hid (by rw [← hE.out, varF_last hlt])
      clear hE
      have hl2 : (varF m).length = 1 := congrArg List.length (varF_last hlt)
      have hBw : ∀ w', Blk w' g T (pre ++ (.slice A ys.length c :: .bool bad :: post)) → w'.frozen? ⟨g, pre.length, Option.none⟩ = false ∧ ∃ u, w'.cell? ⟨g, pre.length, Option.none⟩ = some u := fun w' h => ⟨h.free pre.length, h.has pre.length (by simp)⟩
      have e1 : (m : Int) % 256 = m := by omega
      go_wp2_with (at_builtin; refine wpList_append_row _ rfl (.tmp 24) (.tmp 27) 23 rfl base 5 i0 (.int .u8 0) 1 1 Try.underlying23 hi hz0 hz1 hz2 rfl (by decide) _ ys.length _ rfl (hw.2.1.raw.alloc _) (some ⟨wr.heap.size, 0, Option.none⟩) 1 1 [Value.int .u8 (m : Int)] rfl rfl (fun e => by cases e) (src_new wr 5 _ _ rfl) (ints_oneCell _ [(m : Int)]) (by unfold maxLen; omega) (by omega) (by have := hK.size; simp; omega) ?_; intro v' w1 hown hk1 hloc; have hr1 : Row .u8 5 w1 base v' (ys ++ [(m : Int)]) := Row.of_append rfl rfl hown; have hw' := hw.grew ((Keeps.refl None wr).alloc (.cells #[Value.int .u8 (m : Int)] 5)); have hf := (hBw _ (hw'.1.keeps hk1 (fun e => hw.2.2 g e rfl))).1; obtain ⟨q, hq⟩ := (hBw _ (hw'.1.keeps hk1 (fun e => hw.2.2 g e rfl))).2; have H3 := Lib.hid (hw'.appended hr1 hk1 hloc); obtain ⟨A', c', ev⟩ := hr1.slice; obtain rfl : v' = .slice A' (ys.length + 1) c' := ev.trans (by simp); clear hr1 hw' hown ev)
      go_end0
      obtain ⟨a1, a2, a3⟩ := H3.out
      refine ⟨rfl, _, hE2.out ▸ a1, ?_, ?_⟩
      · exact hK.wt hN (((Keeps.refl _ wr).alloc _).trans a2)
      · intro b hb'
        rcases a3 b hb' with h | h
        · exact hN b h
        · right; have := hK.size; simp at h; omega

set_option maxRecDepth 100000 in
set_option maxHeartbeats 1600000 in
theorem wnum_any {T : Nat} {pre post : List Value} (g base : Nat) (v : Value) (bad : Bool) (zs : List Int) (n : Int) (w : World) (hw : Wr T pre post w g base v bad zs) (hb : base ≤ w.heap.size) (hn : -9223372036854775808 ≤ n ∧ n ≤ 9223372036854775807) (hr : zs.length + 10 ≤ 140737488355328) :
    Calls Try.prog 42 #[.pointer (some ⟨g, pre.length, Option.none⟩), .int .i64 n] w (Puts T pre post g base v (if n < 0 then true else bad) (if n < 0 then zs else zs ++ varF n.toNat) w) := by
  by_cases hneg : n < 0
  · rw [if_pos hneg, if_pos hneg]
    have hf := hw.1.free (pre.length + 1)
    obtain ⟨q, hq⟩ := hw.1.has (pre.length + 1) (by simp)
    go_enter Try.func42, Try.ntmps42
    go_wp2
    refine bodyPost_ret (results_none rfl _ _ _) rfl ?_
    refine ⟨rfl, v, ⟨blk_set1 hw.1 _, hw.2.1.keeps (S := One g) ((Keeps.refl _ _).setCell _ _ (fun _ => rfl)) (fun b hb' e => hw.2.2 b hb' e), hw.2.2⟩, (Keeps.refl _ _).setCell _ _ (fun _ => .inl rfl), fun b h => .inl h⟩
  · rw [if_neg hneg, if_neg hneg]
    obtain ⟨k, rfl⟩ := Int.eq_ofNat_of_zero_le (show 0 ≤ n by omega)
    rw [Int.toNat_natCast]
    have e1 : (k : Int) % 18446744073709551616 = k := by omega
    go_enter Try.func42, Try.ntmps42
    go_wp2_with fail
    refine (varint_any g base v bad zs k w hw hb (by omega) hr).mono ?_
    rintro e w1 ⟨rfl, h⟩
    go_wp2_with fail
    go_end0
    exact ⟨rfl, h⟩

set_option maxRecDepth 100000 in
set_option maxHeartbeats 1600000 in
theorem wint_any {T : Nat} {pre post : List Value} (g base : Nat) (v : Value) (bad : Bool) (zs : List Int) (n : Int) (w : World) (hw : Wr T pre post w g base v bad zs) (hb : base ≤ w.heap.size) (hn : -9223372036854775808 ≤ n ∧ n ≤ 9223372036854775807) (hr : zs.length + 10 ≤ 140737488355328) :
    Calls Try.prog 43 #[.pointer (some ⟨g, pre.length, Option.none⟩), .int .i64 n] w (Puts T pre post g base v bad (zs ++ varF (zigF n)) w) := by
  have hz := zigF_lt hn
  obtain ⟨z, ez⟩ : ∃ z, z = zigF n := ⟨_, rfl⟩
  have e1 := zig_bits n hn
  rw [← ez] at hz e1
  rw [← ez]
  clear ez
  go_enter Try.func43, Try.ntmps43
  go_wp2_with fail
  refine (varint_any g base v bad zs z w hw hb hz hr).mono ?_
  rintro e w1 ⟨rfl, h⟩
  go_wp2_with fail
  go_end0
  exact ⟨rfl, h⟩

set_option maxRecDepth 100000 in
set_option maxHeartbeats 1600000 in
theorem wbytes_any {T : Nat} {pre post : List Value} (g base : Nat) (v : Value) (bad : Bool) (zs : List Int) (A : Option Addr) (n cap : Nat) (bs : List Int) (w : World) (hw : Wr T pre post w g base v bad zs) (hb : base ≤ w.heap.size) (hA : Nums .u8 w A bs) (hbs : bs.length = n) (hn : n ≤ 65536) (hnil : A = Option.none → cap = 0) (hoff : Off A (Wt g v)) (hr : zs.length + 70000 ≤ 140737488355328) :
    Calls Try.prog 44 #[.pointer (some ⟨g, pre.length, Option.none⟩), .slice A n cap] w (Puts T pre post g base v bad ((zs ++ varF n) ++ bs) w) := by
  obtain ⟨i0, hi, hz0, hz1, hz2⟩ := info_parts Try.infoU8
  subst hbs
  obtain ⟨ys, hys⟩ : ∃ ys, ys = zs ++ varF bs.length := ⟨_, rfl⟩
  have hten := varF_ten (u := bs.length) (by omega)
  have hyl : ys.length ≤ zs.length + 10 := by rw [hys, List.length_append]; omega
  rw [← hys]
  have HY := Lib.hid hys
  clear hys hten
  go_enter Try.func44, Try.ntmps44
  go_wp2_with fail
  refine (wnum_any g base v bad zs (bs.length : Int) w hw hb (by omega) (by omega)).mono ?_
  rintro e w1 ⟨rfl, v1, hw1, hk1, hn1⟩
  rw [if_neg (by omega), if_neg (by omega), Int.toNat_natCast, ← HY.out] at hw1
  have hA1 := hA.keeps hk1 hoff
  obtain ⟨A1, c1, rfl⟩ := hw1.2.1.slice
  have c0 := hw1.c0
  go_wp2_with (at_builtin; refine wpList_append_row _ rfl (.tmp 12) (.tmp 13) 23 rfl base 5 i0 (.int .u8 0) 1 1 Try.underlying23 hi hz0 hz1 hz2 rfl (by decide) _ ys.length _ rfl hw1.2.1.raw A bs.length cap (bs.map (Value.int .u8)) rfl (by rw [List.length_map, Nat.mul_one]) hnil hA1.src (ints_oneCell _ _) (by unfold maxLen; omega) (by omega) (by have := hk1.size; omega) ?_; intro v' w2 hown hk2 hloc; have hr1 : Row .u8 5 w2 base v' (ys ++ bs) := Row.of_append rfl rfl hown; have hbk := hw1.1.keeps hk2 (fun e => hw1.2.2 g e rfl); have hf := hbk.free pre.length; obtain ⟨q, hq⟩ := hbk.has pre.length (by simp); have H3 := Lib.hid (hw1.appended hr1 hk2 hloc); obtain ⟨A', c', ev⟩ := hr1.slice; obtain rfl : v' = .slice A' (ys.length + bs.length) c' := ev.trans (by simp); clear hr1 hown ev hbk)
  go_end0
  obtain ⟨a1, a2, a3⟩ := H3.out
  refine ⟨rfl, _, a1, hk1.wt hn1 a2, ?_⟩
  intro b hb'
  rcases a3 b hb' with h | h
  · exact hn1 b h
  · right; have := hk1.size; omega

set_option maxRecDepth 100000 in
set_option maxHeartbeats 1600000 in
theorem wtext_any {T : Nat} {pre post : List Value} (g base : Nat) (v : Value) (bad : Bool) (zs : List Int) (bs : List Int) (w : World) (hw : Wr T pre post w g base v bad zs) (hb : base ≤ w.heap.size) (hB : Bytes bs) (hn : bs.length ≤ 65536) (hr : zs.length + 70000 ≤ 140737488355328) :
    Calls Try.prog 45 #[.pointer (some ⟨g, pre.length, Option.none⟩), .string (strOfNums bs)] w (Puts T pre post g base v bad ((zs ++ varF bs.length) ++ bs) w) := by
  obtain ⟨i0, hi, hz0, hz1, hz2⟩ := info_parts Try.infoU8
  obtain ⟨s, es⟩ : ∃ s, s = strOfNums bs := ⟨_, rfl⟩
  have hsz : s.size = bs.length := by rw [es, strOfNums_size]
  have hcs := strCells_nums hB
  rw [← es] at hcs ⊢
  clear es
  obtain ⟨ys, hys⟩ : ∃ ys, ys = zs ++ varF bs.length := ⟨_, rfl⟩
  have hten := varF_ten (u := bs.length) (by omega)
  have hyl : ys.length ≤ zs.length + 10 := by rw [hys, List.length_append]; omega
  rw [← hys]
  have HY := Lib.hid hys
  clear hys hten
  go_enter Try.func45, Try.ntmps45
  go_wp2_with fail
  refine (wnum_any g base v bad zs (bs.length : Int) w hw hb (by omega) (by omega)).mono ?_
  rintro e w1 ⟨rfl, v1, hw1, hk1, hn1⟩
  rw [if_neg (by omega), if_neg (by omega), Int.toNat_natCast, ← HY.out] at hw1
  obtain ⟨A1, c1, rfl⟩ := hw1.2.1.slice
  have c0 := hw1.c0
  have hs1 := hk1.size
  go_wp2_with (at_builtin; refine wpList_append_string _ rfl (.tmp 12) (.tmp 13) 23 9 rfl base 5 i0 Try.underlying23 Try.underlying9 hi hz0 hz1 hz2 _ ys.length _ rfl hw1.2.1.raw s rfl (by unfold maxLen; omega) (by omega) (by omega) ?_; intro v' w2 hown hk2 hloc; have hr1 : Row .u8 5 w2 base v' (ys ++ bs) := Row.of_append rfl rfl (by rw [← hcs, ← hsz]; exact hown); have hbk := hw1.1.keeps hk2 (fun e => hw1.2.2 g e rfl); have hf := hbk.free pre.length; obtain ⟨q, hq⟩ := hbk.has pre.length (by simp); have H3 := Lib.hid (hw1.appended hr1 hk2 hloc); obtain ⟨A', c', ev⟩ := hr1.slice; obtain rfl : v' = .slice A' (ys.length + bs.length) c' := ev.trans (by simp); clear hr1 hown ev hbk)
  go_end0
  obtain ⟨a1, a2, a3⟩ := H3.out
  refine ⟨rfl, _, a1, hk1.wt hn1 a2, ?_⟩
  intro b hb'
  rcases a3 b hb' with h | h
  · exact hn1 b h
  · right; omega

set_option maxRecDepth 100000 in
set_option maxHeartbeats 1600000 in
theorem wdone_any {T : Nat} {pre post : List Value} (g base : Nat) (v : Value) (bad : Bool) (zs : List Int) (w : World) (hw : Wr T pre post w g base v bad zs) (hr : zs.length ≤ 140737488351232) :
    Calls Try.prog 30 #[.pointer (some ⟨g, pre.length, Option.none⟩)] w (WDone bad zs w) := by
  have c1 := hw.c1
  have c0 := hw.c0
  cases bad with
  | true =>
    go_enter Try.func30, Try.ntmps30
    go_wp2
    go_ret2
    exact ⟨_, rfl, Row.nil _ _ _ _, Keeps.refl _ _⟩
  | false =>
    obtain ⟨A, c, rfl, -, hN, hnil, -⟩ := hw.2.1.open_
    go_enter Try.func30, Try.ntmps30
    go_wp2_with fail
    refine (clone_any A zs.length c zs w hN rfl hr).mono ?_
    rintro e w1 ⟨v1, rfl, hr1, hk1⟩
    go_wp2_with fail
    go_ret2
    exact ⟨_, rfl, hr1, hk1⟩

/-- The end of one thing's putting. -/
def Putting (T : Nat) (pre post : List Value) (g base : Nat) (v : Value) (bad : Bool) (zs : List Int) (w : World) (e : Ending) (w' : World) : Prop :=
  e = .returned (.bool true) ∧ ∃ v', Wr T pre post w' g base v' bad zs ∧ Keeps (Wt g v) w w' ∧ (∀ b, v'.ownBlock = some b → v.ownBlock = some b ∨ w.heap.size ≤ b)

set_option maxRecDepth 100000 in
set_option maxHeartbeats 1600000 in
theorem putting_any {T : Nat} {pre post : List Value} (g base : Nat) (v : Value) (bad : Bool) (zs : List Int) (kind n : Int) (A : Option Addr) (len cap : Nat) (bs : List Int) (w : World) (hw : Wr T pre post w g base v bad zs) (hb : base ≤ w.heap.size) (hA : ∀ w', Keeps (Wt g v) w w' → Nums .u8 w' A bs) (hl : bs.length = len) (hlen : len ≤ 65536) (hB : Bytes bs)
    (hn : -9223372036854775808 ≤ n ∧ n ≤ 9223372036854775807) (hk : 1 ≤ kind ∧ kind ≤ 4) (hr : zs.length + 70000 ≤ 140737488355328) :
    Calls Try.prog 19 #[.pointer (some ⟨g, pre.length, Option.none⟩), .agg #[.int .i64 kind, .int .i64 n, .slice A len cap]] w (Putting T pre post g base v (if kind = 1 ∧ n < 0 then true else bad) (if kind = 1 ∧ n < 0 then zs else zs ++ itemF kind n bs) w) := by
  subst hl
  obtain ⟨bad1, eb⟩ : ∃ B, B = (if kind = 1 ∧ n < 0 then true else bad) := ⟨_, rfl⟩
  obtain ⟨zs1, ez⟩ : ∃ Z, Z = (if kind = 1 ∧ n < 0 then zs else zs ++ itemF kind n bs) := ⟨_, rfl⟩
  rw [← eb, ← ez]
  have EB := Lib.hid eb
  have EZ := Lib.hid ez
  clear eb ez
  have hB0 : Blk (w.alloc (.cells #[.int .i64 kind, .int .i64 n, .slice A bs.length cap] 32)) w.heap.size 32 [.int .i64 kind, .int .i64 n, .slice A bs.length cap] := Blk.new w _ _
  have hk0 : Keeps None w (w.alloc (.cells #[.int .i64 kind, .int .i64 n, .slice A bs.length cap] 32)) := (Keeps.refl _ _).alloc _
  have hsz0 : (w.alloc (.cells #[.int .i64 kind, .int .i64 n, .slice A bs.length cap] 32)).heap.size = w.heap.size + 1 := by simp
  have HB0 := Lib.hid hB0
  have HK0 := Lib.hid hk0
  have HS0 := Lib.hid hsz0
  clear hB0 hk0 hsz0
  go_enter Try.func19, Try.ntmps19
  go_wp2_with fail
  refine (lend_any A bs.length cap bs _ ((hA w (Keeps.refl _ _)).grew HK0.out) rfl (by omega)).mono ?_
  rintro e w1 ⟨gl, rfl, hgl, hL, hk1⟩
  rw [HS0.out] at hgl
  have hBx := HB0.out.grew hk1
  have hK1 := HK0.out.trans hk1
  have hw1 := hw.grew hK1
  have hvg := fun b (h : v.ownBlock = some b) => (hw.2.1.lt b h).2
  have hgw := hw.1.lt
  have c0 := hBx.cell 0 _ rfl
  have c1 := hBx.cell 1 _ rfl
  have c2 := hBx.cell 2 _ rfl
  have hs1 := hK1.size
  have hoff : Off (some ⟨gl, 0, Option.none⟩) (Wt g v) := by
    intro b o e f
    cases e
    rcases f with f | f
    · omega
    · have := hvg _ f; omega
  have hxoff : ¬ Wt g v w.heap.size := by
    rintro (f | f)
    · omega
    · have := hvg _ f; omega
  have hgloff : ¬ Wt g v gl := fun f => hoff gl 0 rfl f
  clear HB0 HK0 HS0 hk1
  have fin : ∀ (bad' : Bool) (zs' : List Int) (w3 w4 : World) (v3 : Value), Wr T pre post w3 g base v3 bad' zs' → Keeps (Wt g v) w1 w3 → (∀ b, v3.ownBlock = some b → v.ownBlock = some b ∨ w1.heap.size ≤ b) → Keeps (One gl) w3 w4 → Putting T pre post g base v bad' zs' w (.returned (.bool true)) w4 := by
    intro bad' zs' w3 w4 v3 h3 hk3 hn3 hk4
    have hgl1 := hL.lt
    refine ⟨rfl, v3, h3.keeps hk4 (fun e => by cases e; omega) (fun b hb' e => ?_), ?_, ?_⟩
    · cases e
      rcases hn3 _ hb' with h | h
      · have := hvg _ h; omega
      · omega
    · exact (hK1.of_none.trans hk3).andThen hk4 (fun i hi e => by cases e; omega)
    · intro b hb'
      rcases hn3 b hb' with h | h
      · exact .inl h
      · right; omega
  have FIN := Lib.hid fin
  clear fin
  rcases (by omega : kind = 1 ∨ kind = 2 ∨ kind = 3 ∨ kind = 4) with rfl | rfl | rfl | rfl
  · go_wp2_with fail
    refine (wnum_any g base v bad zs n w1 hw1 (by omega) hn (by omega)).mono ?_
    rintro e w3 ⟨rfl, v3, h3, hk3, hn3⟩
    have hc2 := (hBx.keeps hk3 hxoff).cell 2 _ rfl
    clear hw1
    go_wp2_with fail
    refine (back_any gl bs.length bs A bs.length cap w3 (hL.keeps hk3 hgloff) rfl (hA w3 (hK1.of_none.trans hk3)) rfl (by omega)).mono ?_
    rintro e w4 ⟨rfl, -, hk4⟩
    go_wp2_with fail
    go_ret
    refine FIN.out _ _ w3 w4 v3 ?_ hk3 hn3 hk4
    rw [EB.out, EZ.out]
    by_cases hneg : n < 0
    · rw [if_pos (by simpa using hneg), if_pos (by simpa using hneg)]
      rw [if_pos hneg, if_pos hneg] at h3
      exact h3
    · rw [if_neg (fun h => hneg h.2), if_neg (fun h => hneg h.2)]
      rw [if_neg hneg, if_neg hneg] at h3
      exact h3
  · go_wp2_with fail
    refine (wint_any g base v bad zs n w1 hw1 (by omega) hn (by omega)).mono ?_
    rintro e w3 ⟨rfl, v3, h3, hk3, hn3⟩
    have hc2 := (hBx.keeps hk3 hxoff).cell 2 _ rfl
    clear hw1
    go_wp2_with fail
    refine (back_any gl bs.length bs A bs.length cap w3 (hL.keeps hk3 hgloff) rfl (hA w3 (hK1.of_none.trans hk3)) rfl (by omega)).mono ?_
    rintro e w4 ⟨rfl, -, hk4⟩
    go_wp2_with fail
    go_ret
    refine FIN.out _ _ w3 w4 v3 ?_ hk3 hn3 hk4
    rw [EB.out, EZ.out, if_neg (by omega), if_neg (by omega)]
    exact h3
  · go_wp2_with fail
    refine (wbytes_any g base v bad zs (some ⟨gl, 0, Option.none⟩) bs.length (bs.length + 5) bs w1 hw1 (by omega) (lentCells_nums hL) rfl hlen (fun e => by cases e) hoff hr).mono ?_
    rintro e w3 ⟨rfl, v3, h3, hk3, hn3⟩
    have hc2 := (hBx.keeps hk3 hxoff).cell 2 _ rfl
    clear hw1
    go_wp2_with fail
    refine (back_any gl bs.length bs A bs.length cap w3 (hL.keeps hk3 hgloff) rfl (hA w3 (hK1.of_none.trans hk3)) rfl (by omega)).mono ?_
    rintro e w4 ⟨rfl, -, hk4⟩
    go_wp2_with fail
    go_ret
    refine FIN.out _ _ w3 w4 v3 ?_ hk3 hn3 hk4
    rw [EB.out, EZ.out, if_neg (by omega), if_neg (by omega)]
    rw [List.append_assoc] at h3
    exact h3
  · have hconv := conv_nums w1 A bs.length cap bs (hA w1 hK1.of_none) rfl
    go_wp2_with fail
    refine (wtext_any g base v bad zs bs w1 hw1 (by omega) hB hlen hr).mono ?_
    rintro e w3 ⟨rfl, v3, h3, hk3, hn3⟩
    have hc2 := (hBx.keeps hk3 hxoff).cell 2 _ rfl
    clear hw1
    go_wp2_with fail
    refine (back_any gl bs.length bs A bs.length cap w3 (hL.keeps hk3 hgloff) rfl (hA w3 (hK1.of_none.trans hk3)) rfl (by omega)).mono ?_
    rintro e w4 ⟨rfl, -, hk4⟩
    go_wp2_with fail
    go_ret
    refine FIN.out _ _ w3 w4 v3 ?_ hk3 hn3 hk4
    rw [EB.out, EZ.out, if_neg (by omega), if_neg (by omega)]
    rw [List.append_assoc] at h3
    exact h3
end Go.Proofs.Ytnhhmkgcgogddaa.apart
