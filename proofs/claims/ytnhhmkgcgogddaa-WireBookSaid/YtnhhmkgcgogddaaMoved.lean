/- cairnlaw1.moved: bytes that lie where others lay are another question. -/
import Derived.Test.YtnhhmkgcgogddaaSealLast
import Derived.Test.YtnhhmkgcgogddaaRMore
namespace Go.Proofs.Ytnhhmkgcgogddaa
open Go.RowKit
set_option linter.unusedVariables false

theorem set_bytes {zs : List Int} (h : Bytes zs) (j : Nat) (x : Int) (hx : 0 ≤ x ∧ x ≤ 255) : Bytes (zs.set j x) := by
  intro c hc
  rcases List.mem_or_eq_of_mem_set hc with h1 | rfl
  · exact h c h1
  · exact hx
theorem row_new {w : World} {base : Nat} (hb : base ≤ w.heap.size) : Row .u8 5 (w.alloc (.cells #[] 5)) base (.slice (some ⟨w.heap.size, 0, Option.none⟩) 0 0) [] := Row.of_blk (zs := []) (Blk.new w 5 []) hb (by simp)

set_option maxRecDepth 100000 in
set_option maxHeartbeats 3200000 in
theorem moved_any (A : Option Addr) (n cap : Nat) (zs : List Int) (w : World) (hA : Nums .u8 w A zs) (hb : Bytes zs) (hn : zs.length = n) (hr : n ≤ 2000) (hnil : A = Option.none → cap = 0) :
    Calls Try.prog 37 #[.slice A n cap] w (TrueEnd w) := by
  obtain ⟨i0, hi, hz0, hz1, hz2⟩ := info_parts Try.infoU8
  subst hn
  by_cases h0 : zs.length = 0
  · have h0b : (zs.length == 0) = true := by simpa using h0
    have h00 := Lib.hid h0
    clear h0
    go_enter Try.func37, Try.ntmps37
    go_wp2
    go_ret
    exact ⟨rfl, Keeps.refl _ _⟩
  · have h0b : (zs.length == 0) = false := by simpa using h0
    have hpos : 0 < zs.length := by omega
    clear h0
    have hA1 := hA.grew ((Keeps.refl None w).alloc (.cells #[] 5))
    go_enter Try.func37, Try.ntmps37
    go_wp2_with (at_builtin; refine wpList_append_row _ rfl (.tmp 12) (.tmp 13) 23 rfl w.heap.size 5 i0 (.int .u8 0) 1 1 Try.underlying23 hi hz0 hz1 hz2 rfl (by decide) _ 0 _ rfl (row_new (Nat.le_refl _)).raw A zs.length cap (zs.map (Value.int .u8)) rfl (by rw [List.length_map, Nat.mul_one]) hnil hA1.src (ints_oneCell _ _) (by unfold maxLen; omega) (by omega) (by simp) ?_; intro v1 w1 hown hk1 hloc; have r1 : Row .u8 5 w1 w.heap.size v1 ([] ++ zs) := Row.of_append rfl rfl hown; clear hown)
    have r1 : Row .u8 5 w1 w.heap.size v1 zs := r1
    have K1 : Keeps None w w1 := ((Keeps.refl None w).alloc _).own (row_new (Nat.le_refl _)) (Nat.le_refl _) hk1
    obtain ⟨g, c, rfl, hlc, hgw, -⟩ := r1.pos hpos
    have hLe := Lib.hid hnil
    clear hk1 hloc hA hA1 hnil
    obtain ⟨L, hL⟩ : ∃ L, L = zs.length := ⟨_, rfl⟩
    rw [← hL] at hpos hlc hr h0b ⊢
    have r1 : Row .u8 5 w1 w.heap.size (.slice (some ⟨g, 0, Option.none⟩) L c) zs := by rw [hL]; exact r1
    have HL := Lib.hid hL.symm
    clear hL
    refine (sum_any (some ⟨g, 0, Option.none⟩) L c zs w1 (Nums.row r1).1 hb HL.out (by omega)).mono ?_
    rintro e w2 ⟨rfl, hk2⟩
    have r2 := r1.grew hk2
    have K2 := K1.trans hk2
    clear hk2 K1 r1
    have hbzs := hb
    clear hb
    obtain ⟨x3, b0, o0, e0, hc3, hx3⟩ := (Nums.row r2).1.get 0 (by have := HL.out; omega)
    cases e0
    have hy3 := hbzs.at hx3.out
    have eb3 := bits_xor_u8 hy3 (show (0 : Int) ≤ 1 ∧ (1 : Int) ≤ 255 by omega)
    have hf3 := r2.free 0
    obtain ⟨y3, hyy⟩ : ∃ y, y = xorB x3 1 := ⟨_, rfl⟩
    have hyb : 0 ≤ y3 ∧ y3 ≤ 255 := by rw [hyy]; exact xorB_byte hy3 (by omega)
    rw [← hyy] at eb3
    clear hyy
    have q3 := r2.store HL.out 0 y3
    have hbT1 := set_bytes hbzs 0 y3 hyb
    have KS3 : Keeps None w (w2.setCell ⟨g, 0, Option.none⟩ (.int .u8 y3)) := K2.setCell _ _ (fun h => by simp at h; omega)
    obtain ⟨T1, hT1⟩ : ∃ T, T = zs.set 0 y3 := ⟨_, rfl⟩
    rw [← hT1] at q3 hbT1
    have HT1 : Hid (T1.length = L) := Lib.hid (by rw [hT1, List.length_set]; exact HL.out)
    clear hT1 hyb
    go_wp2_with fail
    obtain ⟨w3, hw3⟩ : ∃ wx, wx = w2.setCell ⟨g, 0, Option.none⟩ (.int .u8 y3) := ⟨_, rfl⟩
    rw [← hw3] at q3 KS3 ⊢
    clear hw3
    have r3 := q3
    have K3 := KS3
    clear q3 KS3 hc3 hf3
    refine (sum_any (some ⟨g, 0, Option.none⟩) L c T1 w3 (Nums.row r3).1 hbT1 HT1.out (by omega)).mono ?_
    rintro e w4 ⟨rfl, hk4⟩
    have r4 := r3.grew hk4
    have K4 := K3.trans hk4
    have hs4 := K4.size
    clear hk4 K3 r3
    go_wp2_with (at_builtin; refine wpList_append_row _ rfl (.tmp 25) (.tmp 26) 23 rfl w.heap.size 5 i0 (.int .u8 0) 1 1 Try.underlying23 hi hz0 hz1 hz2 rfl (by decide) _ 0 _ rfl (row_new hs4).raw (some ⟨g, 0, Option.none⟩) L c (T1.map (Value.int .u8)) rfl (by rw [List.length_map, Nat.mul_one]; exact HT1.out) (fun e => by cases e) ((Nums.row r4).1.grew ((Keeps.refl None w4).alloc _)).src (ints_oneCell _ _) (by unfold maxLen; omega) (by omega) (by simp; omega) ?_; intro v5 w5 hown hk5 hloc; have u5 : Row .u8 5 w5 w.heap.size v5 ([] ++ T1) := Row.of_append (zs := []) (ys := T1) rfl HT1.out hown; clear hown)
    have u5 : Row .u8 5 w5 w.heap.size v5 T1 := u5
    have kc5 : Keeps None w4 w5 := by
      refine (((Keeps.refl None w4).alloc _).andThen hk5 fun i hi e => ?_)
      have e1 := OwnB.is e
      omega
    have r5 := r4.grew kc5
    have K5 := K4.trans kc5
    obtain ⟨A5, c5, rfl⟩ := u5.slice
    clear hk5 hloc kc5 K4 r4
    rw [HT1.out]
    refine (sum_any A5 L c5 T1 w5 (Nums.row (HT1.out ▸ u5)).1 hbT1 HT1.out (by omega)).mono ?_
    rintro e w6 ⟨rfl, hk6⟩
    have r6 := r5.grew hk6
    have K6 := K5.trans hk6
    clear hk6 K5 r5 u5
    go_wp2_with fail
    refine (seal_any (some ⟨g, 0, Option.none⟩) L c T1 w6 (Nums.row r6).1 hbT1 HT1.out (fun e => by cases e)).mono ?_
    rintro e w7 ⟨v7, rfl, -, hk7⟩
    have r7 := r6.grew hk7
    have K7 := K6.trans hk7
    clear hk7 K6 r6
    obtain ⟨x8, b0, o0, e0, hc8, hx8⟩ := (Nums.row r7).1.get 0 (by have := HT1.out; omega)
    cases e0
    have hy8 := hbT1.at hx8.out
    have eb8 := bits_xor_u8 hy8 (show (0 : Int) ≤ 2 ∧ (2 : Int) ≤ 255 by omega)
    have hf8 := r7.free 0
    obtain ⟨y8, hyy⟩ : ∃ y, y = xorB x8 2 := ⟨_, rfl⟩
    have hyb : 0 ≤ y8 ∧ y8 ≤ 255 := by rw [hyy]; exact xorB_byte hy8 (by omega)
    rw [← hyy] at eb8
    clear hyy
    have q8 := r7.store HT1.out 0 y8
    have hbT2 := set_bytes hbT1 0 y8 hyb
    have KS8 : Keeps None w (w7.setCell ⟨g, 0, Option.none⟩ (.int .u8 y8)) := K7.setCell _ _ (fun h => by simp at h; omega)
    obtain ⟨T2, hT2⟩ : ∃ T, T = T1.set 0 y8 := ⟨_, rfl⟩
    rw [← hT2] at q8 hbT2
    have HT2 : Hid (T2.length = L) := Lib.hid (by rw [hT2, List.length_set]; exact HT1.out)
    clear hT2 hyb
    go_wp2_with fail
    obtain ⟨w8, hw8⟩ : ∃ wx, wx = w7.setCell ⟨g, 0, Option.none⟩ (.int .u8 y8) := ⟨_, rfl⟩
    rw [← hw8] at q8 KS8 ⊢
    clear hw8
    have r8 := q8
    have K8 := KS8
    have hs8 := K8.size
    clear q8 KS8 hc8 hf8 eb8
    refine (seal_any (some ⟨g, 0, Option.none⟩) L c T2 w8 (Nums.row r8).1 hbT2 HT2.out (fun e => by cases e)).mono ?_
    rintro e w9 ⟨v9, rfl, h9, hk9⟩
    have r9 := r8.grew hk9
    have K9 := K8.trans hk9
    have hs9 := K9.size
    have h9lt := fun b (e : v9.ownBlock = some b) => (h9.lt b e).1
    have gl8 := (r8.lt g rfl).2
    have h9 := h9.down (base' := w.heap.size) K8.size
    have hsl := sealF_len T2 (by have := HT2.out; omega)
    have hsb := sealF_bytes T2 hbT2
    obtain ⟨S, hS⟩ : ∃ S, S = sealF T2 := ⟨_, rfl⟩
    rw [← hS] at h9 hsl hsb
    rw [HT2.out] at hsl
    obtain ⟨M, hM⟩ : ∃ M, M = L + 12 := ⟨_, rfl⟩
    rw [← hM] at hsl
    have hM2 : M ≤ 2012 ∧ 12 < M := by omega
    have HM := Lib.hid hM
    have HS := Lib.hid hS
    have HSL := Lib.hid hsl
    obtain ⟨g9, c9, e9, hc9, hg9, -⟩ := h9.pos (by omega)
    rw [hsl] at e9 hc9
    subst e9
    have hgg : g9 ≠ g := by have := h9lt g9 rfl; omega
    clear h9lt hS hM hsl hk9 K8 r8
    go_wp2_with (at_builtin; refine wpList_append_row _ rfl (.tmp 41) (.tmp 42) 23 rfl w.heap.size 5 i0 (.int .u8 0) 1 1 Try.underlying23 hi hz0 hz1 hz2 rfl (by decide) _ 0 _ rfl (row_new hs9).raw (some ⟨g, 0, Option.none⟩) L c (T2.map (Value.int .u8)) rfl (by rw [List.length_map, Nat.mul_one]; exact HT2.out) (fun e => by cases e) ((Nums.row r9).1.grew ((Keeps.refl None w9).alloc _)).src (ints_oneCell _ _) (by unfold maxLen; omega) (by omega) (by simp; omega) ?_; intro v10 w10 hown hk10 hloc; have u10 : Row .u8 5 w10 w.heap.size v10 ([] ++ T2) := Row.of_append (zs := []) (ys := T2) rfl HT2.out hown; clear hown)
    have u10 : Row .u8 5 w10 w.heap.size v10 T2 := u10
    have kc10 : Keeps None w9 w10 := by
      refine (((Keeps.refl None w9).alloc _).andThen hk10 fun i hi e => ?_)
      have e1 := OwnB.is e
      omega
    have r10 := r9.grew kc10
    have K10 := K9.trans kc10
    have hs10 := K10.size
    obtain ⟨A10, c10, rfl⟩ := u10.slice
    clear hk10 hloc
    rw [HT2.out]
    have u10 : Row .u8 5 w10 w.heap.size (.slice A10 L c10) T2 := by have := u10; rw [HT2.out] at this; exact this
    have h10 := h9.grew kc10
    clear kc10 h9
    refine (seal_any A10 L c10 T2 w10 (Nums.row u10).1 hbT2 HT2.out (Nums.row u10).2.2.2).mono ?_
    rintro e w11 ⟨v11, rfl, h11, hk11⟩
    rw [← HS.out] at h11
    obtain ⟨A11, c11, rfl⟩ := h11.slice
    rw [HSL.out]
    have h11 : Row .u8 5 w11 w10.heap.size (.slice A11 M c11) S := by have := h11; rw [HSL.out] at this; exact this
    have r11 := r10.grew hk11
    have K11 := K10.trans hk11
    have h12 := h10.grew hk11
    clear hk11 u10 K10 r10 h10
    go_wp2_with fail
    refine (same_any (some ⟨g9, 0, Option.none⟩) M c9 S A11 M c11 S w11 (Nums.row h12).1 HSL.out (Nums.row h11).1 HSL.out (by omega)).mono ?_
    rintro e w13 ⟨rfl, hd13⟩
    rw [SameB_self]
    have k13 := hd13.keeps None
    have r13 := r11.grew k13
    have K13 := K11.trans k13
    have h13 := h12.grew k13
    clear hd13 k13 h12 h11 r11 K11
    go_wp2_with fail
    refine (read_any (some ⟨g, 0, Option.none⟩) L c T2 w13 (Nums.row r13).1 HT2.out (by omega)).mono ?_
    rintro e w14 ⟨gp, vp, rfl, hp14, hk14⟩
    have r14 := r13.grew hk14
    have K14 := K13.trans hk14
    have h14 := h13.grew hk14
    have hpb : w13.heap.size ≤ gp := Rd.hb hp14
    have hs13 := K13.size
    have gl13 : g < w13.heap.size ∧ g9 < w13.heap.size := ⟨(r13.lt g rfl).2, (h13.lt g9 rfl).2⟩
    clear hk14 r13 h13
    go_wp2_with fail
    refine (rInt_any gp w13.heap.size vp T2 ⟨0, 0, 0⟩ w14 hp14 (by have := HT2.out; omega) hbT2).mono ?_
    rintro e w15 ⟨rfl, -, hk15⟩
    have far15 : ∀ b, b < w13.heap.size → ¬ One gp b := fun b hb e => by have e : b = gp := e; omega
    have r15 := r14.keeps hk15 (fun b e => by cases e; exact far15 _ gl13.1)
    have K15 : Keeps None w w15 := K14.andThen hk15 (fun i hi e => by have e : i = gp := e; omega)
    have h15 := h14.keeps hk15 (fun b e => by cases e; exact far15 _ gl13.2)
    clear hk15 hp14 far15 K14 r14 h14 hpb K13
    obtain ⟨x16, b0, o0, e0, hc16, hx16⟩ := (Nums.row r15).1.get 0 (by have := HT2.out; omega)
    cases e0
    have hy16 := hbT2.at hx16.out
    have eb16 := bits_xor_u8 hy16 (show (0 : Int) ≤ 4 ∧ (4 : Int) ≤ 255 by omega)
    have hf16 := r15.free 0
    obtain ⟨y16, hyy⟩ : ∃ y, y = xorB x16 4 := ⟨_, rfl⟩
    have hyb : 0 ≤ y16 ∧ y16 ≤ 255 := by rw [hyy]; exact xorB_byte hy16 (by omega)
    rw [← hyy] at eb16
    clear hyy
    have q16 := r15.store HT2.out 0 y16
    have hbT3 := set_bytes hbT2 0 y16 hyb
    have KS16 : Keeps None w (w15.setCell ⟨g, 0, Option.none⟩ (.int .u8 y16)) := K15.setCell _ _ (fun h => by simp at h; omega)
    obtain ⟨T3, hT3⟩ : ∃ T, T = T2.set 0 y16 := ⟨_, rfl⟩
    rw [← hT3] at q16 hbT3
    have HT3 : Hid (T3.length = L) := Lib.hid (by rw [hT3, List.length_set]; exact HT2.out)
    clear hT3 hyb
    go_wp2_with fail
    have h16q := h15.keeps (S := One g) ((Keeps.refl None w15).of_none.setCell ⟨g, 0, Option.none⟩ (.int .u8 y16) (fun _ => rfl)) (fun b e f => by cases e; exact hgg f)
    obtain ⟨w16, hw16⟩ : ∃ wx, wx = w15.setCell ⟨g, 0, Option.none⟩ (.int .u8 y16) := ⟨_, rfl⟩
    rw [← hw16] at q16 KS16 h16q ⊢
    clear hw16
    have r16 := q16
    have K16 := KS16
    have h16 := h16q
    clear q16 KS16 hc16 hf16 eb16 h16q K15 r15 h15
    refine (read_any (some ⟨g, 0, Option.none⟩) L c T3 w16 (Nums.row r16).1 HT3.out (by omega)).mono ?_
    rintro e w17 ⟨gp2, vp2, rfl, hp17, hk17⟩
    have r17 := r16.grew hk17
    have K17 := K16.trans hk17
    have h17 := h16.grew hk17
    have hs17 := K17.size
    have b4 : g < w16.heap.size ∧ g9 < w16.heap.size ∧ w.heap.size ≤ w16.heap.size := ⟨(r16.lt g rfl).2, (h16.lt g9 rfl).2, K16.size⟩
    clear hk17 r16 h16
    go_wp2_with (at_builtin; refine wpList_append_row _ rfl (.tmp 61) (.tmp 62) 23 rfl w.heap.size 5 i0 (.int .u8 0) 1 1 Try.underlying23 hi hz0 hz1 hz2 rfl (by decide) _ 0 _ rfl (row_new hs17).raw (some ⟨g, 0, Option.none⟩) L c (T3.map (Value.int .u8)) rfl (by rw [List.length_map, Nat.mul_one]; exact HT3.out) (fun e => by cases e) ((Nums.row r17).1.grew ((Keeps.refl None w17).alloc _)).src (ints_oneCell _ _) (by unfold maxLen; omega) (by omega) (by simp; omega) ?_; intro v18 w18 hown hk18 hloc; have u18 : Row .u8 5 w18 w.heap.size v18 ([] ++ T3) := Row.of_append (zs := []) (ys := T3) rfl HT3.out hown; clear hown)
    have u18 : Row .u8 5 w18 w.heap.size v18 T3 := u18
    have kc18 : Keeps None w17 w18 := by
      refine (((Keeps.refl None w17).alloc _).andThen hk18 fun i hi e => ?_)
      have e1 := OwnB.is e
      omega
    have r18 := r17.grew kc18
    have K18 := K17.trans kc18
    have hs18 := K18.size
    obtain ⟨A18, c18, rfl⟩ := u18.slice
    clear hk18 hloc
    rw [HT3.out]
    have u18 : Row .u8 5 w18 w.heap.size (.slice A18 L c18) T3 := by have := u18; rw [HT3.out] at this; exact this
    have h18 := h17.grew kc18
    have hp18 : (⟨0, 0, 0⟩ : St).at w18 gp2 w16.heap.size vp2 T3 := Rd.grew hp17 kc18
    clear kc18 h17 hp17 K17 r17
    refine (read_any A18 L c18 T3 w18 (Nums.row u18).1 HT3.out (by omega)).mono ?_
    rintro e w19 ⟨gq, vq, rfl, hq19, hk19⟩
    have r19 := r18.grew hk19
    have K19 := K18.trans hk19
    have h19 := h18.grew hk19
    have hp19 : (⟨0, 0, 0⟩ : St).at w19 gp2 w16.heap.size vp2 T3 := Rd.grew hp18 hk19
    have b1 : w16.heap.size ≤ gp2 ∧ gp2 < w18.heap.size := ⟨Rd.hb hp18, (Rd.blk hp18).lt⟩
    have b2 : w18.heap.size ≤ gq := Rd.hb hq19
    have b3 : ∀ b, vq.ownBlock = some b → w18.heap.size ≤ b := fun b e => ((Rd.row hq19).lt b e).1
    clear hk19 u18 hp18 K18 r18 h18
    go_wp2_with fail
    refine (rInt_any gp2 w16.heap.size vp2 T3 ⟨0, 0, 0⟩ w19 hp19 (by have := HT3.out; omega) hbT3).mono ?_
    rintro e w20 ⟨rfl, -, hk20⟩
    have r20 := r19.keeps hk20 (fun b e f => by cases e; have f : g = gp2 := f; omega)
    have K20 : Keeps None w w20 := K19.andThen hk20 (fun i hi e => by have e : i = gp2 := e; omega)
    have h20 := h19.keeps hk20 (fun b e f => by cases e; have f : g9 = gp2 := f; omega)
    have hq20 : (⟨0, 0, 0⟩ : St).at w20 gq w18.heap.size vq T3 := Rd.keeps hq19 hk20 (fun e => by have e : gq = gp2 := e; omega) (fun b e f => by have f : b = gp2 := f; have := b3 b e; omega)
    clear hk20 hp19 hq19 r19 K19 h19 b3
    obtain ⟨I, hI⟩ : ∃ I, I = (intStep T3 ⟨0, 0, 0⟩).1 := ⟨_, rfl⟩
    rw [← hI]
    have HI := Lib.hid hI
    clear hI
    go_wp2_with fail
    refine (rInt_any gq w18.heap.size vq T3 ⟨0, 0, 0⟩ w20 hq20 (by have := HT3.out; omega) hbT3).mono ?_
    rintro e w21 ⟨rfl, -, hk21⟩
    rw [← HI.out]
    have K21 : Keeps None w w21 := K20.andThen hk21 (fun i hi e => by have e : i = gq := e; omega)
    have h21 := h20.keeps hk21 (fun b e f => by cases e; have f : g9 = gq := f; omega)
    clear hk21 hq20 r20 K20 h20 HI
    go_wp2_with fail
    refine (open_any (some ⟨g9, 0, Option.none⟩) M c9 S w21 (Nums.row h21).1 hsb HSL.out (by omega) hc9).mono ?_
    rintro e w22 ⟨v22, rfl, -, hk22⟩
    have K22 := K21.trans hk22
    have h22 := h21.grew hk22
    clear hk22 K21 h21
    obtain ⟨x23, b0, o0, e0, hc23, hx23⟩ := (Nums.row h22).1.get (M - 1) (by have := HSL.out; omega)
    cases e0
    rw [Nat.zero_add] at hc23
    have hy23 := hsb.at hx23.out
    have eb23 := bits_xor_u8 hy23 (show (0 : Int) ≤ 1 ∧ (1 : Int) ≤ 255 by omega)
    have hf23 := h22.free (M - 1)
    have hyb : 0 ≤ xorB x23 1 ∧ xorB x23 1 ≤ 255 := xorB_byte hy23 (by omega)
    have q23 := h22.store HSL.out (M - 1) (xorB x23 1)
    have KS23 : Keeps None w (w22.setCell ⟨g9, M - 1, Option.none⟩ (.int .u8 (xorB x23 1))) := K22.setCell _ _ (fun h => by simp at h; omega)
    have hop : openF (S.set (M - 1) (xorB x23 1)) = ([], 12) := by
      have := hx23.out
      rw [HS.out] at this ⊢
      exact openF_turned12 T2 (by have := HT2.out; omega) hbT2 (M - 1) x23 _ this hyb (xorB_ne hy23.1 (by omega))
    have hbS2 := set_bytes hsb (M - 1) (xorB x23 1) hyb
    obtain ⟨S2, hS2⟩ : ∃ S2, S2 = S.set (M - 1) (xorB x23 1) := ⟨_, rfl⟩
    rw [← hS2] at q23 hop hbS2
    have HS2L : Hid (S2.length = M) := Lib.hid (by rw [hS2, List.length_set]; exact HSL.out)
    have HOP := Lib.hid hop
    clear hS2 hop hyb
    have hm1 : ((M : Int) - 1).toNat = M - 1 := by omega
    have hm2 : 0 ≤ (M : Int) - 1 ∧ (M : Int) - 1 < (M : Int) := by omega
    obtain ⟨hm3, hm4⟩ := hm2
    go_wp2_with fail
    refine (open_any (some ⟨g9, 0, Option.none⟩) M c9 S2 _ (Nums.row q23).1 hbS2 HS2L.out (by omega) hc9).mono ?_
    rintro e w24 ⟨v24, he24, h24, hk24⟩
    rw [HOP.out] at he24 h24
    subst he24
    obtain ⟨A24, c24, rfl⟩ := h24.slice
    dsimp only at h24 ⊢
    have K24 := KS23.trans hk24
    go_wp2_with fail
    go_ret
    exact ⟨rfl, K24⟩
end Go.Proofs.Ytnhhmkgcgogddaa
