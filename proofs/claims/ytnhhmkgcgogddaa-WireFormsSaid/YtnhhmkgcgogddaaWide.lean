/- put, whatever the length of the bytes. -/
import Derived.Test.YtnhhmkgcgogddaaPutting
namespace Go.Proofs.Ytnhhmkgcgogddaa
open Go.RowKit

set_option maxRecDepth 100000 in
set_option maxHeartbeats 1600000 in
theorem wbytes_wide (g base : Nat) (v : Value) (bad : Bool) (zs : List Int) (A : Option Addr) (n cap : Nat) (bs : List Int) (w : World) (hw : Wr w g base v bad zs) (hb : base ≤ w.heap.size) (hA : Nums .u8 w A bs) (hbs : bs.length = n) (hn : n ≤ 140737488351232) (hnil : A = Option.none → cap = 0) (hoff : Off A (Wt g v)) (hr : zs.length + n + 10 ≤ 140737488355328) :
    Calls Try.prog 44 #[.pointer (some ⟨g, 0, Option.none⟩), .slice A n cap] w (Puts g base v bad ((zs ++ varF n) ++ bs) w) := by
  obtain ⟨i0, hi, hz0, hz1, hz2⟩ := info_parts Try.infoU8
  subst hbs
  obtain ⟨ys, hys⟩ : ∃ ys, ys = zs ++ varF bs.length := ⟨_, rfl⟩
  have hten := varF_ten (u := bs.length) (by omega)
  have hyl : ys.length ≤ zs.length + 10 := by rw [hys, List.length_append]; omega
  rw [← hys]
  have HY := Lib.hid hys
  clear hys hten
  go_enter Try.func44, Try.ntmps44
  go_wp2_with fail
  refine (wnum_any g base v bad zs (bs.length : Int) w hw hb (by omega) (by omega)).mono ?_
  rintro e w1 ⟨rfl, v1, hw1, hk1, hn1⟩
  rw [if_neg (by omega), if_neg (by omega), Int.toNat_natCast, ← HY.out] at hw1
  have hA1 := hA.keeps hk1 hoff
  obtain ⟨A1, c1, rfl⟩ := hw1.2.1.slice
  have c0 := hw1.1.cell 0 _ rfl
  go_wp2_with (at_builtin; refine wpList_append_row _ rfl (.tmp 12) (.tmp 13) 23 rfl base 5 i0 (.int .u8 0) 1 1 Try.underlying23 hi hz0 hz1 hz2 rfl (by decide) _ ys.length _ rfl hw1.2.1.raw A bs.length cap (bs.map (Value.int .u8)) rfl (by rw [List.length_map, Nat.mul_one]) hnil hA1.src (ints_oneCell _ _) (by unfold maxLen; omega) (by omega) (by have := hk1.size; omega) ?_; intro v' w2 hown hk2 hloc; have hr1 : Row .u8 5 w2 base v' (ys ++ bs) := Row.of_append rfl rfl hown; have hbk := hw1.1.keeps hk2 (fun e => hw1.2.2 g e rfl); have hf := hbk.free 0; obtain ⟨q, hq⟩ := hbk.has 0 (by simp); have H3 := Lib.hid (hw1.appended hr1 hk2 hloc); obtain ⟨A', c', ev⟩ := hr1.slice; obtain rfl : v' = .slice A' (ys.length + bs.length) c' := ev.trans (by simp); clear hr1 hown ev hbk)
  go_end0
  obtain ⟨a1, a2, a3⟩ := H3.out
  refine ⟨rfl, _, a1, hk1.wt hn1 a2, ?_⟩
  intro b hb'
  rcases a3 b hb' with h | h
  · exact hn1 b h
  · right; have := hk1.size; omega

set_option maxRecDepth 100000 in
set_option maxHeartbeats 1600000 in
theorem wtext_wide (g base : Nat) (v : Value) (bad : Bool) (zs : List Int) (bs : List Int) (w : World) (hw : Wr w g base v bad zs) (hb : base ≤ w.heap.size) (hB : Bytes bs) (hn : bs.length ≤ 140737488351232) (hr : zs.length + bs.length + 10 ≤ 140737488355328) :
    Calls Try.prog 45 #[.pointer (some ⟨g, 0, Option.none⟩), .string (strOfNums bs)] w (Puts g base v bad ((zs ++ varF bs.length) ++ bs) w) := by
  obtain ⟨i0, hi, hz0, hz1, hz2⟩ := info_parts Try.infoU8
  obtain ⟨s, es⟩ : ∃ s, s = strOfNums bs := ⟨_, rfl⟩
  have hsz : s.size = bs.length := by rw [es, strOfNums_size]
  have hcs := strCells_nums hB
  rw [← es] at hcs ⊢
  clear es
  obtain ⟨ys, hys⟩ : ∃ ys, ys = zs ++ varF bs.length := ⟨_, rfl⟩
  have hten := varF_ten (u := bs.length) (by omega)
  have hyl : ys.length ≤ zs.length + 10 := by rw [hys, List.length_append]; omega
  rw [← hys]
  have HY := Lib.hid hys
  clear hys hten
  go_enter Try.func45, Try.ntmps45
  go_wp2_with fail
  refine (wnum_any g base v bad zs (bs.length : Int) w hw hb (by omega) (by omega)).mono ?_
  rintro e w1 ⟨rfl, v1, hw1, hk1, hn1⟩
  rw [if_neg (by omega), if_neg (by omega), Int.toNat_natCast, ← HY.out] at hw1
  obtain ⟨A1, c1, rfl⟩ := hw1.2.1.slice
  have c0 := hw1.1.cell 0 _ rfl
  have hs1 := hk1.size
  go_wp2_with (at_builtin; refine wpList_append_string _ rfl (.tmp 12) (.tmp 13) 23 9 rfl base 5 i0 Try.underlying23 Try.underlying9 hi hz0 hz1 hz2 _ ys.length _ rfl hw1.2.1.raw s rfl (by unfold maxLen; omega) (by omega) (by omega) ?_; intro v' w2 hown hk2 hloc; have hr1 : Row .u8 5 w2 base v' (ys ++ bs) := Row.of_append rfl rfl (by rw [← hcs, ← hsz]; exact hown); have hbk := hw1.1.keeps hk2 (fun e => hw1.2.2 g e rfl); have hf := hbk.free 0; obtain ⟨q, hq⟩ := hbk.has 0 (by simp); have H3 := Lib.hid (hw1.appended hr1 hk2 hloc); obtain ⟨A', c', ev⟩ := hr1.slice; obtain rfl : v' = .slice A' (ys.length + bs.length) c' := ev.trans (by simp); clear hr1 hown ev hbk)
  go_end0
  obtain ⟨a1, a2, a3⟩ := H3.out
  refine ⟨rfl, _, a1, hk1.wt hn1 a2, ?_⟩
  intro b hb'
  rcases a3 b hb' with h | h
  · exact hn1 b h
  · right; omega

set_option maxRecDepth 100000 in
set_option maxHeartbeats 1600000 in
theorem putting_wide (g base : Nat) (v : Value) (bad : Bool) (zs : List Int) (kind n : Int) (A : Option Addr) (len cap : Nat) (bs : List Int) (w : World) (hw : Wr w g base v bad zs) (hb : base ≤ w.heap.size) (hA : ∀ w', Keeps (Wt g v) w w' → Nums .u8 w' A bs) (hl : bs.length = len) (hlen : len ≤ 140737488351232) (hB : Bytes bs)
    (hn : -9223372036854775808 ≤ n ∧ n ≤ 9223372036854775807) (hk : 1 ≤ kind ∧ kind ≤ 4) (hr : zs.length + len + 10 ≤ 140737488355328) :
    Calls Try.prog 19 #[.pointer (some ⟨g, 0, Option.none⟩), .agg #[.int .i64 kind, .int .i64 n, .slice A len cap]] w (Putting g base v (if kind = 1 ∧ n < 0 then true else bad) (if kind = 1 ∧ n < 0 then zs else zs ++ itemF kind n bs) w) := by
  subst hl
  obtain ⟨bad1, eb⟩ : ∃ B, B = (if kind = 1 ∧ n < 0 then true else bad) := ⟨_, rfl⟩
  obtain ⟨zs1, ez⟩ : ∃ Z, Z = (if kind = 1 ∧ n < 0 then zs else zs ++ itemF kind n bs) := ⟨_, rfl⟩
  rw [← eb, ← ez]
  have EB := Lib.hid eb
  have EZ := Lib.hid ez
  clear eb ez
  have hB0 : Blk (w.alloc (.cells #[.int .i64 kind, .int .i64 n, .slice A bs.length cap] 32)) w.heap.size 32 [.int .i64 kind, .int .i64 n, .slice A bs.length cap] := Blk.new w _ _
  have hk0 : Keeps None w (w.alloc (.cells #[.int .i64 kind, .int .i64 n, .slice A bs.length cap] 32)) := (Keeps.refl _ _).alloc _
  have hsz0 : (w.alloc (.cells #[.int .i64 kind, .int .i64 n, .slice A bs.length cap] 32)).heap.size = w.heap.size + 1 := by simp
  have HB0 := Lib.hid hB0
  have HK0 := Lib.hid hk0
  have HS0 := Lib.hid hsz0
  clear hB0 hk0 hsz0
  go_enter Try.func19, Try.ntmps19
  go_wp2_with fail
  refine (lend_any A bs.length cap bs _ ((hA w (Keeps.refl _ _)).grew HK0.out) rfl (by omega)).mono ?_
  rintro e w1 ⟨gl, rfl, hgl, hL, hk1⟩
  rw [HS0.out] at hgl
  have hBx := HB0.out.grew hk1
  have hK1 := HK0.out.trans hk1
  have hw1 := hw.grew hK1
  have hvg := fun b (h : v.ownBlock = some b) => (hw.2.1.lt b h).2
  have hgw := hw.1.lt
  have c0 := hBx.cell 0 _ rfl
  have c1 := hBx.cell 1 _ rfl
  have c2 := hBx.cell 2 _ rfl
  have hs1 := hK1.size
  have hoff : Off (some ⟨gl, 0, Option.none⟩) (Wt g v) := by
    intro b o e f
    cases e
    rcases f with f | f
    · omega
    · have := hvg _ f; omega
  have hxoff : ¬ Wt g v w.heap.size := by
    rintro (f | f)
    · omega
    · have := hvg _ f; omega
  have hgloff : ¬ Wt g v gl := fun f => hoff gl 0 rfl f
  clear HB0 HK0 HS0 hk1
  have fin : ∀ (bad' : Bool) (zs' : List Int) (w3 w4 : World) (v3 : Value), Wr w3 g base v3 bad' zs' → Keeps (Wt g v) w1 w3 → (∀ b, v3.ownBlock = some b → v.ownBlock = some b ∨ w1.heap.size ≤ b) → Keeps (One gl) w3 w4 → Putting g base v bad' zs' w (.returned (.bool true)) w4 := by
    intro bad' zs' w3 w4 v3 h3 hk3 hn3 hk4
    have hgl1 := hL.lt
    refine ⟨rfl, v3, h3.keeps hk4 (fun e => by cases e; omega) (fun b hb' e => ?_), ?_, ?_⟩
    · cases e
      rcases hn3 _ hb' with h | h
      · have := hvg _ h; omega
      · omega
    · exact (hK1.of_none.trans hk3).andThen hk4 (fun i hi e => by cases e; omega)
    · intro b hb'
      rcases hn3 b hb' with h | h
      · exact .inl h
      · right; omega
  have FIN := Lib.hid fin
  clear fin
  rcases (by omega : kind = 1 ∨ kind = 2 ∨ kind = 3 ∨ kind = 4) with rfl | rfl | rfl | rfl
  · go_wp2_with fail
    refine (wnum_any g base v bad zs n w1 hw1 (by omega) hn (by omega)).mono ?_
    rintro e w3 ⟨rfl, v3, h3, hk3, hn3⟩
    have hc2 := (hBx.keeps hk3 hxoff).cell 2 _ rfl
    clear hw1
    go_wp2_with fail
    refine (back_any gl bs.length bs A bs.length cap w3 (hL.keeps hk3 hgloff) rfl (hA w3 (hK1.of_none.trans hk3)) rfl (by omega)).mono ?_
    rintro e w4 ⟨rfl, -, hk4⟩
    go_wp2_with fail
    go_ret
    refine FIN.out _ _ w3 w4 v3 ?_ hk3 hn3 hk4
    rw [EB.out, EZ.out]
    by_cases hneg : n < 0
    · rw [if_pos (by simpa using hneg), if_pos (by simpa using hneg)]
      rw [if_pos hneg, if_pos hneg] at h3
      exact h3
    · rw [if_neg (fun h => hneg h.2), if_neg (fun h => hneg h.2)]
      rw [if_neg hneg, if_neg hneg] at h3
      exact h3
  · go_wp2_with fail
    refine (wint_any g base v bad zs n w1 hw1 (by omega) hn (by omega)).mono ?_
    rintro e w3 ⟨rfl, v3, h3, hk3, hn3⟩
    have hc2 := (hBx.keeps hk3 hxoff).cell 2 _ rfl
    clear hw1
    go_wp2_with fail
    refine (back_any gl bs.length bs A bs.length cap w3 (hL.keeps hk3 hgloff) rfl (hA w3 (hK1.of_none.trans hk3)) rfl (by omega)).mono ?_
    rintro e w4 ⟨rfl, -, hk4⟩
    go_wp2_with fail
    go_ret
    refine FIN.out _ _ w3 w4 v3 ?_ hk3 hn3 hk4
    rw [EB.out, EZ.out, if_neg (by omega), if_neg (by omega)]
    exact h3
  · go_wp2_with fail
    refine (wbytes_wide g base v bad zs (some ⟨gl, 0, Option.none⟩) bs.length (bs.length + 5) bs w1 hw1 (by omega) (lentCells_nums hL) rfl hlen (fun e => by cases e) hoff hr).mono ?_
    rintro e w3 ⟨rfl, v3, h3, hk3, hn3⟩
    have hc2 := (hBx.keeps hk3 hxoff).cell 2 _ rfl
    clear hw1
    go_wp2_with fail
    refine (back_any gl bs.length bs A bs.length cap w3 (hL.keeps hk3 hgloff) rfl (hA w3 (hK1.of_none.trans hk3)) rfl (by omega)).mono ?_
    rintro e w4 ⟨rfl, -, hk4⟩
    go_wp2_with fail
    go_ret
    refine FIN.out _ _ w3 w4 v3 ?_ hk3 hn3 hk4
    rw [EB.out, EZ.out, if_neg (by omega), if_neg (by omega)]
    rw [List.append_assoc] at h3
    exact h3
  · have hconv := conv_nums w1 A bs.length cap bs (hA w1 hK1.of_none) rfl
    go_wp2_with fail
    refine (wtext_wide g base v bad zs bs w1 hw1 (by omega) hB hlen hr).mono ?_
    rintro e w3 ⟨rfl, v3, h3, hk3, hn3⟩
    have hc2 := (hBx.keeps hk3 hxoff).cell 2 _ rfl
    clear hw1
    go_wp2_with fail
    refine (back_any gl bs.length bs A bs.length cap w3 (hL.keeps hk3 hgloff) rfl (hA w3 (hK1.of_none.trans hk3)) rfl (by omega)).mono ?_
    rintro e w4 ⟨rfl, -, hk4⟩
    go_wp2_with fail
    go_ret
    refine FIN.out _ _ w3 w4 v3 ?_ hk3 hn3 hk4
    rw [EB.out, EZ.out, if_neg (by omega), if_neg (by omega)]
    rw [List.append_assoc] at h3
    exact h3
set_option maxRecDepth 100000 in
set_option maxHeartbeats 1600000 in
theorem clone_wide (A : Option Addr) (n cap : Nat) (zs : List Int) (w : World) (hA : Nums .u8 w A zs) (hn : zs.length = n) (hr : n ≤ 140737488355328) :
    Calls Try.prog 50 #[.slice A n cap] w (CloneEnd zs w) := by
  obtain ⟨i0, hi, hz0, hz1, hz2⟩ := info_parts Try.infoU8
  have qT : ∀ (w : World) (a : Option Addr) (n c n' c' : Nat), (binOp .eql 23 (.slice a n c) (.slice none n' c')).run Try.prog w = .ok (.bool a.isNone) w := fun w a n c n' c' => Lib.run_eql_slice_nil w _ _ a n c n' c' Try.underlying23
  subst hn
  cases A with
  | none =>
    go_enter Try.func50, Try.ntmps50
    go_wp2
    have h0 : zs = [] := by
      cases zs with
      | nil => rfl
      | cons y ys => obtain ⟨b, o, e, _⟩ := hA 0 (by simp); cases e
    subst h0
    go_ret
    exact ⟨_, rfl, Row.nil _ _ _ _, Keeps.refl _ _⟩
  | some ad =>
    have hrow : Row .u8 5 (w.alloc (.cells #[] 5)) w.heap.size (.slice (some ⟨w.heap.size, 0, Option.none⟩) 0 0) [] := Row.of_blk (zs := []) (Blk.new w 5 []) (Nat.le_refl _) (by simp)
    have hA' : Nums .u8 (w.alloc (.cells #[] 5)) (some ad) zs := hA.grew ((Keeps.refl _ w).alloc _)
    have HR := Lib.hid hrow
    have HA := Lib.hid hA'
    clear hrow hA'
    go_enter Try.func50, Try.ntmps50
    go_wp2_with (at_builtin; refine wpList_append_row _ rfl (.tmp 5) (.tmp 6) 23 rfl w.heap.size 5 i0 (.int .u8 0) 1 1 Try.underlying23 hi hz0 hz1 hz2 rfl (by decide) _ 0 _ rfl HR.out.raw (some ad) zs.length cap (zs.map (Value.int .u8)) rfl (by rw [List.length_map, Nat.mul_one]) (fun e => by cases e) HA.out.src (ints_oneCell _ _) (by unfold maxLen; omega) (by omega) (by simp) ?_; intro v' w1 hown hK _)
    go_ret
    refine ⟨v', rfl, Row.of_append (zs := []) rfl rfl hown, ((Keeps.refl _ w).alloc _).andThen hK ?_⟩
    intro i hi e
    have := OwnB.is e
    omega

set_option maxRecDepth 100000 in
set_option maxHeartbeats 1600000 in
theorem wdone_wide (g base : Nat) (v : Value) (bad : Bool) (zs : List Int) (w : World) (hw : Wr w g base v bad zs) (hr : zs.length ≤ 140737488355328) :
    Calls Try.prog 30 #[.pointer (some ⟨g, 0, Option.none⟩)] w (WDone bad zs w) := by
  have c1 := hw.1.cell 1 _ rfl
  have c0 := hw.1.cell 0 _ rfl
  cases bad with
  | true =>
    go_enter Try.func30, Try.ntmps30
    go_wp2
    go_ret2
    exact ⟨_, rfl, Row.nil _ _ _ _, Keeps.refl _ _⟩
  | false =>
    obtain ⟨A, c, rfl, -, hN, hnil, -⟩ := hw.2.1.open_
    go_enter Try.func30, Try.ntmps30
    go_wp2_with fail
    refine (clone_wide A zs.length c zs w hN rfl hr).mono ?_
    rintro e w1 ⟨v1, rfl, hr1, hk1⟩
    go_wp2_with fail
    go_ret2
    exact ⟨_, rfl, hr1, hk1⟩
end Go.Proofs.Ytnhhmkgcgogddaa
