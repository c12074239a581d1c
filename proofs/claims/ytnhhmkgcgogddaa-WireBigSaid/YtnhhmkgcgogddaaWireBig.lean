/- WireBig: the longest body is sealed and opened, a longer one is not sealed, and a head that says more than may be is refused, whatever stands behind it. No condition. -/
import Derived.Test.YtnhhmkgcgogddaaOpen
import Derived.Test.YtnhhmkgcgogddaaSealLaw
import Derived.Test.YtnhhmkgcgogddaaWZeros
import Derived.Lib.AppendZeros
namespace Go.Proofs.Ytnhhmkgcgogddaa.wireBig
open Go.ChangeShapes Go.WideShapes Go.ChangeAt Go.RowKit
open Go.ChangeMaps (open_string shut_string)
set_option linter.unusedVariables false

def LawEnd (w : World) (e : Ending) (w' : World) : Prop := e = .returned (.bool true) ∧ Below w.heap.size w w'

/-- The body's byte i. -/
def bv (x : Int) (i : Nat) : Int := (x + (i : Int) / 128) % 256
def bodyL (x : Int) (N k : Nat) : List Int := (List.range N).map fun i => if i < k then bv x i else 0
theorem bodyL_length (x : Int) (N k : Nat) : (bodyL x N k).length = N := by simp [bodyL]
theorem bodyL_step (x : Int) (N k : Nat) : (bodyL x N k).set k (bv x k) = bodyL x N (k + 1) := by
  apply List.ext_getElem
  · simp [bodyL]
  · intro i h1 h2
    simp only [List.length_set] at h1
    rw [List.getElem_set]
    by_cases e : k = i
    · subst e; simp [bodyL]
    · simp only [e, if_false]
      simp only [bodyL, List.getElem_map, List.getElem_range]
      have : (i < k) = (i < k + 1) := by simp; omega
      simp [this]
theorem bodyL_bytes (x : Int) (N k : Nat) : Bytes (bodyL x N k) := by
  intro c hc
  obtain ⟨i, _, rfl⟩ := List.mem_map.1 hc
  split
  · unfold bv; omega
  · omega
theorem bodyL_zero (x : Int) (N : Nat) : (bodyL x N 0).map (Value.int .u8) = List.replicate N (Value.int .u8 0) := by
  apply List.ext_getElem
  · simp [bodyL]
  · intro i h1 h2; simp [bodyL]

theorem zeroCells_u8 (n : Nat) : (Builtin.zeroCells (Value.int .u8 0).cells n).toList = (List.replicate n (0 : Int)).map (Value.int .u8) := by
  have h : (Value.int .u8 0).cells = #[Value.int .u8 0] := rfl
  rw [h]
  unfold Builtin.zeroCells
  apply List.ext_getElem
  · simp
  · intro i h1 h2
    simp [Nat.mod_one]

/-- append(v, make([]byte, 200000)...) of a row of eight bytes. -/
theorem append_z (Z : Nat) (hZ : Z = 200000) (W : World) (base : Nat) (v : Value) (zs : List Int) (h : Row .u8 5 W base v zs) (hl : zs.length = 8) (hb : base ≤ W.heap.size) :
    ∃ v' w', (Builtin.append_ #[23, 3] 23 #[v, .int .i64 200000]).run Try.prog W = .ok v' w' ∧ Row .u8 5 w' base v' (zs ++ List.replicate Z 0) ∧ Keeps (OwnB v) W w' := by
  obtain ⟨i0, hi, hz0, hz1, hz2⟩ := info_parts Try.infoU8
  obtain ⟨v', w', hr, ho, hg, _⟩ := Go.Proofs.YtnhhmkgcgogddaaW.PrintWords.run_append_zeros (P := Try.prog) W base 23 3 23 5 i0 (.int .u8 0) 1 1 Try.underlying23 Try.underlying3 hi hz0 hz1 hz2 rfl (by decide) (by decide) v zs.length _ h.raw .i64 Z
    (by rw [zeroCells_u8]; exact ints_oneCell _ _) (by omega) hb
  refine ⟨v', w', ?_, Row.of_append (ys := List.replicate Z 0) rfl (List.length_replicate ..) (by rw [zeroCells_u8] at ho; exact ho), Keeps.of_grown hg⟩
  rw [← hr, hZ]; rfl

set_option maxRecDepth 100000 in
set_option maxHeartbeats 1600000 in
theorem walk (x more : Int) (w : World) (hx : 0 ≤ x ∧ x ≤ 255) :
    Calls Try.prog 8 #[.int .u8 x, .int .i64 more] w (LawEnd w) := by
  obtain ⟨i0, hi, hz0, hz1, hz2⟩ := info_parts Try.infoU8
  obtain ⟨N, eN⟩ : ∃ N : Nat, N = 131072 := ⟨_, rfl⟩
  have hN1 : N ≤ 131072 := by omega
  have hN2 : 131072 ≤ N := by omega
  have HN := Lib.hid eN
  clear eN
  go_enter Try.func8, Try.ntmps8
  go_wp2_with (at_make; refine wpList_make_full _ rfl _ _ 23 rfl w.heap.size 5 i0 (.int .u8 0) 1 Try.underlying23 hi hz0 hz1 _ _ _ _ N rfl rfl (by omega) (by omega) (by rw [hz2]; omega) (by unfold maxLen; omega) (by omega) ?_; intro w1 hown1 hgrow1)
  have hr1 : Row .u8 5 w1 w.heap.size (.slice (some ⟨w.heap.size, 0, Option.none⟩) N N) (bodyL x N 0) := by
    unfold Row
    rw [bodyL_length, bodyL_zero]
    rw [← zeros_u8]
    rw [Nat.mul_one] at hown1
    exact hown1
  have hK1 : Keeps None w w1 := (Keeps.refl _ _).grown hgrow1 (by simp)
  clear hown1 hgrow1
  go_wp2_with fail
  go_loopw [6] (fun i wr => ∃ k : Nat, k ≤ N ∧ i = .int .i64 k ∧ Row .u8 5 wr w.heap.size (.slice (some ⟨w.heap.size, 0, Option.none⟩) N N) (bodyL x N k) ∧ Keeps None w wr) (fun i _ => N - (intOf i).toNat)
  case atStart => exact ⟨0, Nat.zero_le _, rfl, hr1, hK1⟩
  case round =>
    clear hr1 hK1
    obtain ⟨k, hk, rfl, hr, hK⟩ := hrel
    by_cases hlt : k < N
    · obtain ⟨y, b, o, e9, hcell, -⟩ := (Nums.row hr).1.get k (by rw [bodyL_length]; exact hlt)
      cases e9
      rw [Nat.zero_add] at hcell
      have hfr := hr.free k
      have hst := hr.store (bodyL_length _ _ _) k (bv x k)
      rw [bodyL_step] at hst
      have HST := Lib.hid hst
      clear hst
      go_wp2
      go_roundw
      case rel => exact ⟨k + 1, by omega, by go_num, HST.out, hK.setCell _ _ (by simp)⟩
      case measure => simp [intOf]; omega
    · obtain rfl : k = N := by omega
      obtain ⟨B, eB⟩ : ∃ B, B = bodyL x k k := ⟨_, rfl⟩
      have hBb : Bytes B := by rw [eB]; exact bodyL_bytes _ _ _
      have hBl : B.length = k := by rw [eB]; exact bodyL_length _ _ _
      rw [← eB] at hr
      clear eB
      obtain ⟨S, eS⟩ : ∃ S, S = sealF B := ⟨_, rfl⟩
      have hSl : S.length = k + 12 := by rw [eS, sealF_len B (by omega), hBl]
      have hSb : Bytes S := by rw [eS]; exact sealF_bytes B hBb
      have eo : openF S = (B, 0) := by rw [eS]; exact openF_seal B (by omega) hBb
      have HS := Lib.hid eS
      have HL := Lib.hid hBl
      have HSL := Lib.hid hSl
      have hs1 : k + 12 ≤ S.length := by omega
      have hs2 : S.length ≤ k + 12 := by omega
      have tl : ((S.length : Int) != 131084) = false := by simp; omega
      clear eS hBl hSl
      go_wp2_with fail
      refine (seal_any (some ⟨w.heap.size, 0, Option.none⟩) k k B wr (Nums.row hr).1 hBb HL.out (fun e => by cases e)).mono ?_
      rintro e w2 ⟨v2, rfl, hv2, hk2⟩
      have hK2 := hK.trans hk2
      have hr2 := hr.grew hk2
      have hv2 := hv2.cast HS.out.symm
      obtain ⟨A2, c2, rfl, hc2, hn2, -⟩ := hv2.open_
      go_wp2_with fail
      refine (open_any A2 S.length c2 S w2 hn2 hSb rfl (by omega) hc2).mono ?_
      rintro e w3 ⟨u3, he3, hu3, hk3⟩
      rw [eo] at he3 hu3
      subst he3
      have hK3 := hK2.trans hk3
      have hr3 := hr2.grew hk3
      obtain ⟨A3, c3, e3, hc3, hn3, -⟩ := hu3.open_
      dsimp only at e3 hu3 hn3 hc3 ⊢
      rw [HL.out] at e3
      subst e3
      clear eo hv2 hn2 hr hr2 hK hK2 hk2 hk3
      go_wp2_with fail
      refine (same_any A3 k c3 B (some ⟨w.heap.size, 0, Option.none⟩) k k B w3 hn3 HL.out (Nums.row hr3).1 HL.out (by omega)).mono ?_
      rintro e w4 ⟨rfl, hd4⟩
      rw [SameB_self]
      have hK4 := hK3.trans (hd4.keeps None)
      have hr4 := hr3.grew (hd4.keeps None)
      clear hd4 hu3 hn3 hr3 hK3
      have hr4' : w4.ownsRow w.heap.size 5 1 (.slice (some ⟨w.heap.size, 0, Option.none⟩) k k) k (B.map (Value.int .u8)) := by have := hr4.raw; rwa [HL.out] at this
      have HR4 := Lib.hid hr4'
      clear hr4'
      go_wp2_with (at_builtin; refine wpList_append_row_w _ (by rfl) (.tmp 52) (.tmp 54) 23 rfl w.heap.size 5 i0 (.int .u8 0) 1 1 Try.underlying23 hi hz0 hz1 hz2 rfl (by decide) _ k _ rfl (HR4.out.alloc _) (some ⟨w4.heap.size, 0, Option.none⟩) 1 1 [.int .u8 x] rfl rfl (fun e => by cases e) (src_new w4 5 _ _ rfl) (ints_oneCell .u8 [x]) (by unfold maxLen; omega) (by omega) (by have := hK4.size; simp; omega) ?_; intro v5 w5 hown5 hk5 hloc5)
      have hr5 : Row .u8 5 w5 w.heap.size v5 (B ++ [x]) := Row.of_append (ys := [x]) HL.out rfl hown5
      have hK5 : Keeps None w w5 := (hK4.alloc _).andThen hk5 (fun i hi e => by have := OwnB.is e; omega)
      have hb5 : Bytes (B ++ [x]) := hBb.append (fun c hc => by simp at hc; subst hc; exact hx)
      have hl5 : (B ++ [x]).length = k + 1 := by rw [List.length_append, HL.out]; rfl
      obtain ⟨B5, eB5⟩ : ∃ l, l = B ++ [x] := ⟨_, rfl⟩
      rw [← eB5] at hr5 hb5 hl5
      have HL5 := Lib.hid hl5
      have hl5' : 131072 < B5.length := by omega
      clear eB5 hl5 hown5 hk5 hr4 HR4
      obtain ⟨A5, c5, rfl, hc5, hn5, hnil5, -⟩ := hr5.open_
      go_wp2_with fail
      refine (seal_any A5 B5.length c5 B5 w5 hn5 hb5 rfl hnil5).mono ?_
      rintro e w6 ⟨v6, rfl, hv6, hk6⟩
      have hv6 := hv6.cast (sealF_long B5 hl5')
      obtain ⟨A6, c6, rfl⟩ := hv6.slice
      have hK6 := hK5.trans hk6
      clear hk6 hv6 hr5 hn5
      have hR0 : (0 : Int) < 1073741824 := by omega
      obtain ⟨hq0, hq1⟩ := roundF_lt more 1073741824 hR0
      go_wp2_with fail
      refine (round_any more 1073741824 w6 hR0 (by omega)).mono ?_
      rintro e w7 ⟨rfl, rfl⟩
      obtain ⟨q, eq⟩ := Int.eq_ofNat_of_zero_le hq0
      rw [eq] at hq0 hq1 ⊢
      clear eq
      obtain ⟨M, eM⟩ : ∃ M : Nat, M = 131073 + q := ⟨_, rfl⟩
      have hM1 : 131072 < M := by omega
      have hM2 : M < 4294967296 := by omega
      have eMi : (131073 + (q : Int)) = (M : Int) := by omega
      clear eM
      go_wp2_with fail
      refine (four_any M w7).mono ?_
      rintro e w8 ⟨rfl, hb8, hk8⟩
      have hK8 := hK6.trans hk8
      have hr8 := Row.of_blk (zs := fourF M) (base := w.heap.size) hb8 hK6.size (by unfold maxLen; rw [fourF_len]; omega)
      obtain ⟨F, eF⟩ : ∃ F, F = fourF M := ⟨_, rfl⟩
      have hFb : Bytes F := by rw [eF]; exact fourF_bytes _
      have hFl : F.length = 4 := by rw [eF]; rfl
      rw [fourF_len] at hr8
      rw [← eF] at hr8 hb8
      have HF := Lib.hid eF
      have HFL := Lib.hid hFl
      clear eF hFl hk8 hK6
      go_wp2_with fail
      refine (sum_any (some ⟨w7.heap.size, 0, Option.none⟩) 4 4 F w8 (Nums.row hr8).1 hFb HFL.out (by omega)).mono ?_
      rintro e w9 ⟨rfl, hk9⟩
      have hK9 := hK8.trans hk9
      have hr9 := hr8.grew hk9
      obtain ⟨s, es⟩ : ∃ s, s = Crc.crc F := ⟨_, rfl⟩
      rw [← es]
      have HSS := Lib.hid es
      clear es hr8 hb8 hk9 hK8
      go_wp2_with fail
      refine (four_any s w9).mono ?_
      rintro e w10 ⟨rfl, hb10, hk10⟩
      have hK10 := hK9.trans hk10
      have hr10 := hr9.grew hk10
      have hn10 := (Nums.row (FourEnd.row hb10 (Nat.le_refl _))).1
      have hs10 : ∀ b, (some ⟨w7.heap.size, 0, Option.none⟩ : Option Addr) = some b → ∀ j u, (F.map (Value.int .u8))[j]? = some u → w10.cell? (b.add j) = some u := by
        intro b hb j u hu
        obtain ⟨ad, e, h⟩ := (Nums.row hr10).1.src (by rw [List.length_map, HFL.out]; omega)
        rw [hb] at e
        cases e
        exact h j u hu
      have hn10' : ∀ j u, ((fourF s).map (Value.int .u8))[j]? = some u → w10.cell? ((⟨w9.heap.size, 0, Option.none⟩ : Addr).add j) = some u := by
        intro j u hu
        obtain ⟨ad, e, h⟩ := hn10.src (by rw [List.length_map, fourF_len]; omega)
        cases e
        exact h j u hu
      have HS10 := Lib.hid hs10
      have HN10 := Lib.hid hn10'
      have hl10 : (F.map (Value.int .u8)).length = 4 * 1 := by rw [List.length_map, HFL.out]
      have HL10 := Lib.hid hl10
      clear hs10 hn10' hl10 hn10 hb10 hr9 hk10 hK9
      go_wp2_with (at_builtin; refine wpList_append_grows _ rfl (.tmp 67) (.tmp 69) 23 rfl 5 i0 (.int .u8 0) 1 1 Try.underlying23 hi hz0 hz1 hz2 rfl (by decide) (some ⟨w7.heap.size, 0, Option.none⟩) 4 4 (F.map (Value.int .u8)) rfl (fun e => by cases e) HL10.out HS10.out ⟨w9.heap.size, 0, Option.none⟩ 4 4 ((fourF s).map (Value.int .u8)) rfl rfl HN10.out (ints_oneCell _ _) (by omega) (by unfold maxLen; omega) (by omega) ?_; intro v11 w11 hown11 hg11)
      have hr11 : Row .u8 5 w11 w10.heap.size v11 (F ++ fourF s) := Row.of_append HFL.out rfl hown11
      have hk11 : Keeps None w10 w11 := (Keeps.refl _ _).grown hg11 (by simp)
      have hK11 := hK10.trans hk11
      have hr11h := hr10.grew hk11
      have hb11 : Bytes (F ++ fourF s) := hFb.append (fourF_bytes _)
      have hl11 : (F ++ fourF s).length = 8 := by rw [List.length_append, HFL.out]; rfl
      have eo11 : openF (F ++ fourF s) = ([], 2) := by have := openF_big M [] hM1 hM2; rw [List.append_nil, ← HF.out, ← HSS.out] at this; exact this
      obtain ⟨G, eG⟩ : ∃ G, G = F ++ fourF s := ⟨_, rfl⟩
      rw [← eG] at hr11 hb11 hl11 eo11
      have HL11 := Lib.hid hl11
      clear hown11 hg11 eG hl11 hK10 hr10 hk11 HS10 HN10
      obtain ⟨A11, c11, rfl, hc11, hn11, -⟩ := hr11.open_
      have hl11' : G.length ≤ 8 := by rw [HL11.out]; omega
      go_wp2_with fail
      refine (open_any A11 G.length c11 G w11 hn11 hb11 rfl (by omega) hc11).mono ?_
      rintro e w12 ⟨u12, he12, hu12, hk12⟩
      rw [eo11] at he12 hu12
      subst he12
      have hK12 := hK11.trans hk12
      have hr12 := hr11h.grew hk12
      obtain ⟨A12, c12, rfl⟩ := hu12.slice
      dsimp only at hu12 ⊢
      clear eo11 hu12 hr11 hn11 hr11h hk12 hK11
      go_wp2_with fail
      refine (four_any s w12).mono ?_
      rintro e w13 ⟨rfl, hb13, hk13⟩
      have hK13 := hK12.trans hk13
      have hr13 := hr12.grew hk13
      have hn13 := (Nums.row (FourEnd.row hb13 (Nat.le_refl _))).1
      have hs13 : ∀ b, (some ⟨w7.heap.size, 0, Option.none⟩ : Option Addr) = some b → ∀ j u, (F.map (Value.int .u8))[j]? = some u → w13.cell? (b.add j) = some u := by
        intro b hb j u hu
        obtain ⟨ad, e, h⟩ := (Nums.row hr13).1.src (by rw [List.length_map, HFL.out]; omega)
        rw [hb] at e
        cases e
        exact h j u hu
      have hn13' : ∀ j u, ((fourF s).map (Value.int .u8))[j]? = some u → w13.cell? ((⟨w12.heap.size, 0, Option.none⟩ : Addr).add j) = some u := by
        intro j u hu
        obtain ⟨ad, e, h⟩ := hn13.src (by rw [List.length_map, fourF_len]; omega)
        cases e
        exact h j u hu
      have HS13 := Lib.hid hs13
      have HN13 := Lib.hid hn13'
      clear hs13 hn13' hn13 hb13 hr12 hk13 hK12
      obtain ⟨Z, hZ⟩ : ∃ Z : Nat, Z = 200000 := ⟨_, rfl⟩
      have hZ1 : Z ≤ 200000 := by omega
      have AZ := Lib.hid (append_z Z hZ)
      clear hZ
      go_wp2_with (first
        | (at_builtin; refine wpList_append_grows _ rfl (.tmp 75) (.tmp 77) 23 rfl 5 i0 (.int .u8 0) 1 1 Try.underlying23 hi hz0 hz1 hz2 rfl (by decide) (some ⟨w7.heap.size, 0, Option.none⟩) 4 4 (F.map (Value.int .u8)) rfl (fun e => by cases e) HL10.out HS13.out ⟨w12.heap.size, 0, Option.none⟩ 4 4 ((fourF s).map (Value.int .u8)) rfl rfl HN13.out (ints_oneCell _ _) (by omega) (by unfold maxLen; omega) (by omega) ?_; intro v14 w14 hown14 hg14; obtain ⟨v15, w15, hr15, hrow15, hk15⟩ := AZ.out w14 w13.heap.size v14 (F ++ fourF s) (Row.of_append HFL.out rfl hown14) (by rw [List.length_append, HFL.out]; rfl) hg14.size)
        | (at_builtin; refine Lib.wpList_append_run _ rfl (.tmp 78) (.const (.int .i64 200000)) 23 3 rfl _ _ rfl rfl v15 w15 hr15 ?_))
      have hk14 : Keeps None w13 w14 := (Keeps.refl _ _).grown hg14 (by simp)
      have hr14 : Row .u8 5 w14 w13.heap.size v14 (F ++ fourF s) := Row.of_append HFL.out rfl hown14
      have hK15 : Keeps None w w15 := (hK13.trans hk14).own hr14 hK13.size hk15
      have hb15 : Bytes ((F ++ fourF s) ++ List.replicate Z 0) := (hFb.append (fourF_bytes _)).append (fun c hc => by have := (List.mem_replicate.1 hc).2; omega)
      have hl15 : ((F ++ fourF s) ++ List.replicate Z 0).length ≤ 200008 := by rw [List.length_append, List.length_append, HFL.out, fourF_len, List.length_replicate]; omega
      have eo15 : openF ((F ++ fourF s) ++ List.replicate Z 0) = ([], 2) := by have := openF_big M (List.replicate Z 0) hM1 hM2; rw [← HF.out, ← HSS.out] at this; exact this
      obtain ⟨G2, eG⟩ : ∃ G, G = (F ++ fourF s) ++ List.replicate Z 0 := ⟨_, rfl⟩
      rw [← eG] at hrow15 hb15 hl15 eo15
      clear hown14 hg14 eG hr14 hk14 hr13 HS13 HN13 hk15 hK13 AZ hr15
      obtain ⟨A15, c15, rfl, hc15, hn15, -⟩ := hrow15.open_
      go_wp2_with fail
      refine (open_any A15 G2.length c15 G2 w15 hn15 hb15 rfl (by omega) hc15).mono ?_
      rintro e w16 ⟨u16, he16, hu16, hk16⟩
      rw [eo15] at he16 hu16
      subst he16
      obtain ⟨A16, c16, rfl⟩ := hu16.slice
      dsimp only at hu16 ⊢
      clear eo15
      go_wp2
      go_ret
      exact ⟨rfl, (hK15.trans hk16).to_below⟩


set_option maxRecDepth 100000 in
theorem lifted (os : Os) (started : os.Started) (H : Type) (enc : TypeId × Value → H) :
    ReturnsInHanded {} Try.checked os 8 .any (Rows.wireBigSpec.pre6 enc Try.prog Try.f8 Rows.wireBigRow.domain false) (Rows.wireBigSpec.post enc Try.prog Try.f8 false true false false) := by
  refine returnsInHanded_of_change_sized (C := Try.checked) Try.own started (by kernel_rfl) Try.func8
    (ChangeSpec.witness6 (enc := enc) (C := Try.checked) false ⟨#[], #[.int .u8 0, .int .i64 0], []⟩ 8 (by kernel_rfl) (by kernel_rfl) (by kernel_rfl) (by kernel_rfl)) ?_
  intro W base args ds gs before hval0 hW hcnd hsz0 _
  have hsz : (DataW.weightsEach Try.prog (Try.f8.params.toList ++ Rows.wireBigSpec.plain.varTypes Try.prog) (ds ++ gs)).all (· ≤ reachBytes) = true := hsz0
  have hval : ∀ (j : Nat) t v, Try.f8.params[j]? = some t → args[j]? = some v → Value.okWide Try.prog W .any base t v := hval0
  have hW' := hW
  obtain ⟨p, q, hA0, hV, rfl, hfz, hnd⟩ := hW
  have hA : DataW.TrodAll enc Try.prog W 0 (fun _ => true) true Try.f8.params.toList args.toList ds p := hA0
  rw [Try.params8] at hA hval hsz
  obtain ⟨v0, vs0, d0, ds0, p0, q0, hargs, rfl, rfl, h0, r0⟩ := trodAll_cons hA
  obtain ⟨v1, vs1, d1, ds1, p1, q1, rfl, rfl, rfl, h1, r1⟩ := trodAll_cons r0
  obtain ⟨rfl, rfl, rfl⟩ := trodAll_nil r1
  obtain rfl : args = #[v0, v1] := by cases args; simp_all
  obtain ⟨rfl, rfl⟩ := trodVars_none hV
  obtain ⟨a0, rfl, rfl, rfl, w0⟩ := open_int Try.underlying5 (hval 0 5 v0 rfl rfl) h0
  obtain ⟨a1, rfl, rfl, rfl, w1⟩ := open_int Try.underlying3 (hval 1 3 v1 rfl rfl) h1
  clear hA0 hval0 hsz0 hsz
  refine (walk a0 a1 W (wf_u8 w0)).mono fun e W' ⟨he, bel⟩ => ?_
  subst he
  exact ⟨_, rfl, _, _, _, [], _, [], hW', trodAll_mk1 (shut_bool Try.underlying4 _), (trodAll_cons_mk (shut_int Try.underlying5 w0) (trodAll_cons_mk (shut_int Try.underlying3 w1) trodAll_mk0)), rfl, bel.frame _, fun h => by cases h⟩

theorem over : Rows.wireBigRow.holds Try.pinned (OpenSpec.ofChange Rows.wireBigSpec) :=
  OpenClaim.holds_of_wide 8 Try.f8 rfl rfl rfl rfl rfl rfl rfl ⟨rfl, rfl, rfl, rfl, rfl⟩ rfl rfl rfl rfl rfl (by kernel_rfl) Try.func8 (by kernel_rfl)
    (of_decide_eq_true (by kernel_rfl)) (by unfold Func.isWrapper; first | (rw [if_pos (by decide +kernel)]; kernel_rfl) | (rw [if_neg (by decide +kernel)]; exact ⟨rfl, rfl⟩))
    (fun os started H enc _ => lifted os started H enc)
end Go.Proofs.Ytnhhmkgcgogddaa.wireBig
namespace Go.Proofs.Ytnhhmkgcgogddaa
/-- The row, under a short name, for the claim. -/
theorem wireBig_holds : Rows.WireBigSaid := wireBig.over
end Go.Proofs.Ytnhhmkgcgogddaa
