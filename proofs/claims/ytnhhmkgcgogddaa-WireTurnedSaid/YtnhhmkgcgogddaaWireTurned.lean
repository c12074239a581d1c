/- WireTurned: a sealed body is opened and sealed again alike; a front of it is cut, one byte more is too many, and with one byte turned it is refused; a body that is too long is not sealed. No condition. -/
import Derived.Test.YtnhhmkgcgogddaaOpen
import Derived.Test.YtnhhmkgcgogddaaSealLaw
namespace Go.Proofs.Ytnhhmkgcgogddaa.wireTurned
open Go.ChangeShapes Go.WideShapes Go.ChangeAt Go.RowKit
open Go.ChangeMaps (open_string shut_string)
set_option linter.unusedVariables false

def LawEnd (w : World) (e : Ending) (w' : World) : Prop := e = .returned (.bool true) ∧ Below w.heap.size w w'

theorem lent_row {w : World} {g base : Nat} {zs : List Int} (h : Blk w g 5 (lentCells zs 5)) (hb : base ≤ g) (hr : zs.length ≤ 140737488351232) : Row .u8 5 w base (.slice (some ⟨g, 0, Option.none⟩) zs.length (zs.length + 5)) zs :=
  ⟨by simp, .inr ⟨g, zs.length + 5, _, rfl, hb, h, by omega, by unfold maxLen; omega, by simpa using lentCells_length zs 5 (Nat.le_refl _), by unfold lentCells; simp⟩⟩

set_option maxRecDepth 100000 in
set_option maxHeartbeats 1000000 in
theorem walk_long (A : Option Addr) (n cap : Nat) (zs : List Int) (at_ x : Int) (w : World) (hA : Nums .u8 w A zs) (hb : Bytes zs) (hn : zs.length = n) (hr : n ≤ 140737488351232) (hl : 131072 < n) :
    Calls Try.prog 7 #[.slice A n cap, .int .i64 at_, .int .u8 x] w (LawEnd w) := by
  subst hn
  go_enter Try.func7, Try.ntmps7
  go_wp2_with fail
  refine (lend_any A zs.length cap zs w hA rfl hr).mono ?_
  rintro e w1 ⟨g, rfl, hg0, hg, hK1⟩
  go_wp2_with fail
  refine (seal_any (some ⟨g, 0, Option.none⟩) zs.length (zs.length + 5) zs w1 (lentCells_nums hg) hb rfl (fun e => by cases e)).mono ?_
  rintro e w2 ⟨v, rfl, hv, hk2⟩
  have hv := hv.cast (sealF_long zs hl)
  obtain ⟨A2, c2, rfl⟩ := hv.slice
  go_wp2
  go_ret
  exact ⟨rfl, (hK1.trans hk2).to_below⟩

set_option maxRecDepth 100000 in
set_option maxHeartbeats 1600000 in
theorem walk_short (A : Option Addr) (n cap : Nat) (zs : List Int) (at_ x : Int) (w : World) (hA : Nums .u8 w A zs) (hb : Bytes zs) (hn : zs.length = n) (hl : ¬ 131072 < n) (hx : 0 ≤ x ∧ x ≤ 255) :
    Calls Try.prog 7 #[.slice A n cap, .int .i64 at_, .int .u8 x] w (LawEnd w) := by
  obtain ⟨i0, hi, hz0, hz1, hz2⟩ := info_parts Try.infoU8
  subst hn
  obtain ⟨S, eS⟩ : ∃ S, S = sealF zs := ⟨_, rfl⟩
  have hSl : S.length = zs.length + 12 := by rw [eS]; exact sealF_len zs (by omega)
  have hSl2 : S.length ≤ 131084 := by omega
  have hSl1 : zs.length + 12 ≤ S.length := by omega
  have hSb : Bytes S := by rw [eS]; exact sealF_bytes zs hb
  have HS := Lib.hid eS
  have HL := Lib.hid hSl
  clear eS hSl
  have tl : ((S.length : Int) != (zs.length : Int) + 12) = false := by have := HL.out; simp; omega
  go_enter Try.func7, Try.ntmps7
  go_wp2_with fail
  refine (lend_any A zs.length cap zs w hA rfl (by omega)).mono ?_
  rintro e w1 ⟨g, rfl, hg0, hg, hK1⟩
  go_wp2_with fail
  refine (seal_any (some ⟨g, 0, Option.none⟩) zs.length (zs.length + 5) zs w1 (lentCells_nums hg) hb rfl (fun e => by cases e)).mono ?_
  rintro e w2 ⟨v, rfl, hv, hk2⟩
  have hK2 := hK1.trans hk2
  have hv2 := (hv.cast HS.out.symm).down hK1.size
  obtain ⟨gs, cs, rfl, hcs, hgs0, hgs1⟩ := hv2.pos (by omega)
  clear hv hk2 hK1 hg
  go_wp2_with fail
  refine (lend_any (some ⟨gs, 0, Option.none⟩) S.length cs S w2 (Nums.row hv2).1 rfl (by omega)).mono ?_
  rintro e w3 ⟨g3, rfl, hg3, hb3, hk3⟩
  have hK3 := hK2.trans hk3
  have hv3 := hv2.grew hk3
  go_wp2_with fail
  refine (open_any (some ⟨g3, 0, Option.none⟩) S.length (S.length + 5) S w3 (lentCells_nums hb3) hSb rfl (by omega) (by omega)).mono ?_
  rintro e w4 ⟨u, he4, hu, hk4⟩
  have eo : openF S = (zs, 0) := by rw [HS.out]; exact openF_seal zs (by omega) hb
  rw [eo] at he4 hu
  subst he4
  have hK4 := hK3.trans hk4
  have hv4 := hv3.grew hk4
  have hA4 := hA.grew hK4
  obtain ⟨A4, c4, rfl, hc4, hn4, hnil4, -⟩ := hu.open_
  dsimp only at hn4 hc4 hu ⊢
  clear hu eo hb3 hv2 hv3 hk3 hk4 hK2 hK3
  go_wp2_with fail
  refine (same_any A4 zs.length c4 zs A zs.length cap zs w4 hn4 rfl hA4 rfl (by omega)).mono ?_
  rintro e w5 ⟨rfl, hd5⟩
  rw [SameB_self]
  have hk5 := hd5.keeps None
  have hK5 := hK4.trans hk5
  have hv5 := hv4.grew hk5
  have hn5 := hn4.grew hk5
  clear hd5 hv4 hn4 hA4
  go_wp2_with fail
  refine (seal_any A4 zs.length c4 zs w5 hn5 hb rfl hnil4).mono ?_
  rintro e w6 ⟨u6, rfl, hu6, hk6⟩
  have hK6 := hK5.trans hk6
  have hv6 := hv5.grew hk6
  have hu6 := hu6.cast HS.out.symm
  obtain ⟨A6, c6, rfl, -, hn6, -⟩ := hu6.open_
  clear hu6 hv5 hn5 hk5 hk6
  go_wp2_with fail
  refine (same_any A6 S.length c6 S (some ⟨gs, 0, Option.none⟩) S.length cs S w6 hn6 rfl (Nums.row hv6).1 rfl (by omega)).mono ?_
  rintro e w7 ⟨rfl, hd7⟩
  rw [SameB_self]
  have hK7 := hK6.trans (hd7.keeps None)
  have hv7 := hv6.grew (hd7.keeps None)
  clear hd7 hv6 hn6 hK6 hK5 hK4
  have hS0 : (0 : Int) < (S.length : Int) := by omega
  obtain ⟨hk0, hk1⟩ := roundF_lt at_ (S.length : Int) hS0
  go_wp2_with fail
  refine (round_any at_ (S.length : Int) w7 hS0 (by omega)).mono ?_
  rintro e w8 ⟨rfl, rfl⟩
  obtain ⟨K, eK⟩ := Int.eq_ofNat_of_zero_le hk0
  rw [eK] at hk0 hk1 ⊢
  clear eK
  have hKS : K < S.length := by omega
  have hKc : (K : Int) ≤ (cs : Int) := by omega
  have htK := (Nums.row hv7).1.take K
  have hlK : (S.take K).length = K := by rw [List.length_take]; omega
  have HLK := Lib.hid hlK
  clear hlK
  go_wp2_with fail
  refine (lend_any (some ⟨gs, 0, Option.none⟩) K cs (S.take K) w8 htK HLK.out (by omega)).mono ?_
  rintro e w9 ⟨g9, rfl, hg9, hb9, hk9⟩
  rw [HLK.out]
  have hK9 := hK7.trans hk9
  have hv9 := hv7.grew hk9
  go_wp2_with fail
  refine (open_any (some ⟨g9, 0, Option.none⟩) K (K + 5) (S.take K) w9 (lentCells_nums hb9) (hSb.take K) HLK.out (by omega) (by omega)).mono ?_
  rintro e w10 ⟨u, he10, hu, hk10⟩
  have eo : openF (S.take K) = ([], 10) := by rw [HS.out]; exact openF_front zs (by omega) hb K (by rw [← HS.out]; exact hKS)
  rw [eo] at he10 hu
  subst he10
  have hK10 := hK9.trans hk10
  have hv10 := hv9.grew hk10
  obtain ⟨A10, c10, rfl⟩ := hu.slice
  dsimp only at hu ⊢
  clear eo hu hb9 hk9 hk10 hv9 hv7 hK9 hK7
  go_wp2_with fail
  refine (lend_any (some ⟨gs, 0, Option.none⟩) S.length cs S w10 (Nums.row hv10).1 rfl (by omega)).mono ?_
  rintro e w11 ⟨g11, rfl, hg11, hb11, hk11⟩
  have hr11 := lent_row hb11 (Nat.le_trans hK10.size hg11) (by omega)
  have hK11 := hK10.trans hk11
  have hv11 := hv10.grew hk11
  go_wp2_with (at_builtin; refine wpList_append_row _ rfl (.tmp 67) (.tmp 69) 23 rfl w.heap.size 5 i0 (.int .u8 0) 1 1 Try.underlying23 hi hz0 hz1 hz2 rfl (by decide) _ S.length _ rfl (hr11.raw.alloc _) (some ⟨w11.heap.size, 0, Option.none⟩) 1 1 [.int .u8 x] rfl rfl (fun e => by cases e) (src_new w11 5 _ _ rfl) (ints_oneCell .u8 [x]) (by unfold maxLen; omega) (by omega) (by have := hK11.size; simp; omega) ?_; intro v12 w12 hown12 hk12 hloc12)
  have hgs11 : gs < g11 := by have := (hv10.lt gs rfl).2; omega
  have hK12 : Keeps None w w12 := (hK11.alloc _).andThen hk12 (fun i hi e => by have := OwnB.is e; have := hK10.size; omega)
  have hv12 := (hv11.grew ((Keeps.refl None w11).alloc _)).keeps hk12 (fun i hi e => by have e1 := OwnB.is e; have e2 := OwnB.is hi; omega)
  have hr12 : Row .u8 5 w12 w.heap.size v12 (S ++ [x]) := Row.of_append (ys := [x]) rfl rfl hown12
  obtain ⟨S', eS'⟩ : ∃ S', S' = S ++ [x] := ⟨_, rfl⟩
  rw [← eS'] at hr12
  have hSb' : Bytes S' := by rw [eS']; exact hSb.append (fun c hc => by simp at hc; subst hc; exact hx)
  have hSl' : S'.length ≤ 131085 := by rw [eS']; simp; omega
  have eo' : openF S' = ([], 11) := by rw [eS', HS.out]; exact openF_more zs (by omega) hb x
  clear eS' hown12 hk12 hr11 hb11 hk11 hv11 hv10 hK11 hK10
  obtain ⟨A12, c12, rfl, hc12, hn12, -⟩ := hr12.open_
  go_wp2_with fail
  refine (open_any A12 S'.length c12 S' w12 hn12 hSb' rfl (by omega) hc12).mono ?_
  rintro e w13 ⟨u, he13, hu, hk13⟩
  rw [eo'] at he13 hu
  subst he13
  have hK13 := hK12.trans hk13
  have hv13 := hv12.grew hk13
  obtain ⟨A13, c13, rfl⟩ := hu.slice
  dsimp only at hu ⊢
  clear eo' hu hr12 hn12 hk13 hv12 hK12
  by_cases hx0 : x = 0
  · subst hx0
    go_wp2
    go_ret
    exact ⟨rfl, hK13.to_below⟩
  · have hx0b : (x == 0) = false := by simpa using hx0
    obtain ⟨y, b, o, e9, hcell, hy⟩ := (Nums.row hv13).1.get K hKS
    cases e9
    rw [Nat.zero_add] at hcell
    have hyb := hSb.at hy.out
    have e1 := bits_xor_u8 hyb hx
    have hfr := hv13.free K
    have hst := hv13.store rfl K (xorB y x)
    have hK14 : Keeps None w (w13.setCell ⟨gs, K, Option.none⟩ (.int .u8 (xorB y x))) := hK13.setCell _ _ (fun h => by simp at h; omega)
    obtain ⟨T, eT⟩ : ∃ T, T = S.set K (xorB y x) := ⟨_, rfl⟩
    rw [← eT] at hst
    have hTl : T.length = S.length := by rw [eT]; simp
    have hTb : Bytes T := by
      rw [eT]
      intro c hc
      rcases List.mem_or_eq_of_mem_set hc with h | rfl
      · exact hSb c h
      · exact xorB_byte hyb hx
    have eo14 : ∃ k, openF T = ([], k) ∧ k ≠ 0 := by
      rw [eT, HS.out]
      exact openF_turned zs (by omega) hb K y (xorB y x) (by rw [← HS.out]; exact hy.out) (xorB_byte hyb hx) (xorB_ne hyb.1 (by omega))
    obtain ⟨k14, eo14, hk14⟩ := eo14
    obtain ⟨hnT, -, -, -⟩ := Nums.row hst
    have HT := Lib.hid hTl
    have hz14 : (k14 != 0) = true := by simpa using hk14
    clear eT hTl hst hv13
    go_wp2_with fail
    refine (open_any (some ⟨gs, 0, Option.none⟩) S.length cs T _ hnT hTb HT.out (by omega) hcs).mono ?_
    rintro e w15 ⟨u, he15, hu, hk15⟩
    rw [eo14] at he15 hu
    subst he15
    obtain ⟨A15, c15, rfl⟩ := hu.slice
    dsimp only at hu ⊢
    clear eo14
    go_wp2
    go_ret
    exact ⟨ret_bool (by simp), (hK14.trans hk15).to_below⟩

theorem walk (A : Option Addr) (n cap : Nat) (zs : List Int) (at_ x : Int) (w : World) (hA : Nums .u8 w A zs) (hb : Bytes zs) (hn : zs.length = n) (hr : n ≤ 140737488351232) (hx : 0 ≤ x ∧ x ≤ 255) :
    Calls Try.prog 7 #[.slice A n cap, .int .i64 at_, .int .u8 x] w (LawEnd w) := by
  by_cases h : 131072 < n
  · exact walk_long A n cap zs at_ x w hA hb hn hr h
  · exact walk_short A n cap zs at_ x w hA hb hn h hx

set_option maxRecDepth 100000 in
theorem lifted (os : Os) (started : os.Started) (H : Type) (enc : TypeId × Value → H) :
    ReturnsInHanded {} Try.checked os 7 .any (Rows.wireTurnedSpec.pre6 enc Try.prog Try.f7 Rows.wireTurnedRow.domain false) (Rows.wireTurnedSpec.post enc Try.prog Try.f7 false true false false) := by
  refine returnsInHanded_of_change_sized (C := Try.checked) Try.own started (by kernel_rfl) Try.func7
    (ChangeSpec.witness6 (enc := enc) (C := Try.checked) false ⟨#[], #[.slice none 0 0, .int .i64 0, .int .u8 0], []⟩ 8 (by kernel_rfl) (by kernel_rfl) (by kernel_rfl) (by kernel_rfl)) ?_
  intro W base args ds gs before hval0 hW hcnd hsz0 _
  have hsz : (DataW.weightsEach Try.prog (Try.f7.params.toList ++ Rows.wireTurnedSpec.plain.varTypes Try.prog) (ds ++ gs)).all (· ≤ reachBytes) = true := hsz0
  have hval : ∀ (j : Nat) t v, Try.f7.params[j]? = some t → args[j]? = some v → Value.okWide Try.prog W .any base t v := hval0
  have hW' := hW
  obtain ⟨p, q, hA0, hV, rfl, hfz, hnd⟩ := hW
  have hA : DataW.TrodAll enc Try.prog W 0 (fun _ => true) true Try.f7.params.toList args.toList ds p := hA0
  rw [Try.params7] at hA hval hsz
  obtain ⟨v0, vs0, d0, ds0, p0, q0, hargs, rfl, rfl, h0, r0⟩ := trodAll_cons hA
  obtain ⟨v1, vs1, d1, ds1, p1, q1, rfl, rfl, rfl, h1, r1⟩ := trodAll_cons r0
  obtain ⟨v2, vs2, d2, ds2, p2, q2, rfl, rfl, rfl, h2, r2⟩ := trodAll_cons r1
  obtain ⟨rfl, rfl, rfl⟩ := trodAll_nil r2
  obtain rfl : args = #[v0, v1, v2] := by cases args; simp_all
  obtain ⟨rfl, rfl⟩ := trodVars_none hV
  have k0 := h0
  have lt0 : ∀ x ∈ p0, x.block < W.heap.size := by obtain ⟨m, hm⟩ := k0; exact DataW.trod_lt m _ _ _ hm
  obtain ⟨a0, len0, cap0, rfl⟩ := okWide_slice Try.underlying23 (hval 0 23 v0 rfl rfl)
  obtain ⟨z0, n0, w0, b0, y0, c0, e0⟩ := open_nums hsz (j := 0) (t := 23) rfl rfl Try.underlying23 Try.underlying5 (by kernel_rfl) (B := 1) (by kernel_rfl) h0
  obtain ⟨a1, rfl, rfl, rfl, w1⟩ := open_int Try.underlying3 (hval 1 3 v1 rfl rfl) h1
  obtain ⟨a2, rfl, rfl, rfl, w2⟩ := open_int Try.underlying5 (hval 2 5 v2 rfl rfl) h2
  clear hA0 hval0 hsz0 hsz
  refine (walk a0 len0 cap0 z0 a1 a2 W w0 (fun c hc => wf_u8 (b0 c hc)) n0 (by omega) (wf_u8 w2)).mono fun e W' ⟨he, bel⟩ => ?_
  subst he
  exact ⟨_, rfl, _, _, _, [], _, [], hW', trodAll_mk1 (shut_bool Try.underlying4 _), (trodAll_cons_mk (Below.trod Try.laidOut (by kernel_rfl) (of_decide_eq_true (by kernel_rfl)) k0 bel lt0) (trodAll_cons_mk (shut_int Try.underlying3 w1) (trodAll_cons_mk (shut_int Try.underlying5 w2) trodAll_mk0))), rfl, bel.frame _, fun h => by cases h⟩

theorem over : Rows.wireTurnedRow.holds Try.pinned (OpenSpec.ofChange Rows.wireTurnedSpec) :=
  OpenClaim.holds_of_wide 7 Try.f7 rfl rfl rfl rfl rfl rfl rfl ⟨rfl, rfl, rfl, rfl, rfl⟩ rfl rfl rfl rfl rfl (by kernel_rfl) Try.func7 (by kernel_rfl)
    (of_decide_eq_true (by kernel_rfl)) (by unfold Func.isWrapper; first | (rw [if_pos (by decide +kernel)]; kernel_rfl) | (rw [if_neg (by decide +kernel)]; exact ⟨rfl, rfl⟩))
    (fun os started H enc _ => lifted os started H enc)
end Go.Proofs.Ytnhhmkgcgogddaa.wireTurned
namespace Go.Proofs.Ytnhhmkgcgogddaa
/-- The row, under a short name, for the claim. -/
theorem wireTurned_holds : Rows.WireTurnedSaid := wireTurned.over
end Go.Proofs.Ytnhhmkgcgogddaa
