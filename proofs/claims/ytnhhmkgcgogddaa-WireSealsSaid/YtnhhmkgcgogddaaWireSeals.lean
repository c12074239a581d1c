/- WireSeals: every body is sealed as the reference seals it, and the sealed bytes, any bytes, the sealed bytes with one byte turned and a front of them are opened as the reference opens them. No condition. -/
import Derived.Test.YtnhhmkgcgogddaaOpen
import Derived.Test.YtnhhmkgcgogddaaOpened
namespace Go.Proofs.Ytnhhmkgcgogddaa.wireSeals
open Go.ChangeShapes Go.WideShapes Go.ChangeAt Go.RowKit
open Go.ChangeMaps (open_string shut_string)
set_option linter.unusedVariables false

def LawEnd (w : World) (e : Ending) (w' : World) : Prop := e = .returned (.bool true) ∧ Below w.heap.size w w'

set_option maxRecDepth 100000 in
set_option maxHeartbeats 1000000 in
theorem walk (A : Option Addr) (n cap : Nat) (zs : List Int) (B : Option Addr) (m cap' : Nat) (ys : List Int) (at_ x : Int) (w : World) (hA : Nums .u8 w A zs) (hb : Bytes zs) (hn : zs.length = n) (hr : n ≤ 140737488351232) (hc : n ≤ cap) (hnil : A = Option.none → cap = 0)
    (hB : Nums .u8 w B ys) (hbB : Bytes ys) (hm : ys.length = m) (hrB : m ≤ 140737488351232) (hcB : m ≤ cap') (hx : 0 ≤ x ∧ x ≤ 255) :
    Calls Try.prog 6 #[.slice A n cap, .slice B m cap', .int .i64 at_, .int .u8 x] w (LawEnd w) := by
  subst hn
  subst hm
  go_enter Try.func6, Try.ntmps6
  go_wp2_with fail
  refine (lend_any A zs.length cap zs w hA rfl hr).mono ?_
  rintro e w1 ⟨g, rfl, hg0, hg, hK1⟩
  have hgl := hg.lt
  go_wp2_with fail
  refine (seal_any (some ⟨g, 0, Option.none⟩) zs.length (zs.length + 5) zs w1 (lentCells_nums hg) hb rfl (fun e => by cases e)).mono ?_
  rintro e w2 ⟨v, rfl, hv, hk2⟩
  have hK2 := hK1.trans hk2
  have hg2 := hg.grew hk2
  go_wp2_with fail
  refine (back_any g zs.length zs A zs.length cap w2 hg2 rfl (hA.grew hK2) rfl hr).mono ?_
  rintro e w3 ⟨rfl, -, hk3⟩
  have hK3 : Keeps None w w3 := hK2.andThen hk3 (fun i hi e => by cases e; omega)
  have hv3 : Row .u8 5 w3 w.heap.size v (sealF zs) := (hv.keeps hk3 (fun i hi e => by have := hv.lt i hi; cases e; omega)).down hK1.size
  clear hv hg hg2 hk2 hk3
  go_wp2_with fail
  refine (refseal_any A zs.length cap zs w3 (hA.grew hK3) hb rfl hnil).mono ?_
  rintro e w4 ⟨u, rfl, hu, hk4⟩
  have hK4 := hK3.trans hk4
  have hv4 := hv3.grew hk4
  obtain ⟨S, eS⟩ : ∃ S, S = sealF zs := ⟨_, rfl⟩
  rw [← eS] at hv4 hu
  have hSb : Bytes S := by rw [eS]; exact sealF_bytes zs hb
  have hSl : S.length ≤ 131084 := by
    rw [eS]
    by_cases h : zs.length ≤ 131072
    · rw [sealF_len zs h]; omega
    · rw [sealF_long zs (by omega)]; simp
  have hS0 : S.length = 0 → 131072 < zs.length := by
    intro h0
    by_cases h : zs.length ≤ 131072
    · rw [eS, sealF_len zs h] at h0; omega
    · omega
  have HS0 := Lib.hid hS0
  clear hS0 eS hv3
  obtain ⟨A5, c5, rfl, hc5, hn5, -⟩ := hv4.open_
  obtain ⟨A6, c6, rfl, -, hn6, -⟩ := hu.open_
  go_wp2_with fail
  refine (same_any A5 S.length c5 S A6 S.length c6 S w4 hn5 rfl hn6 rfl (by omega)).mono ?_
  rintro e w5 ⟨rfl, hd5⟩
  rw [SameB_self]
  have hK5 := hK4.trans (hd5.keeps None)
  have hv5 := hv4.grew (hd5.keeps None)
  go_wp2_with fail
  refine (opened_any A5 S.length c5 S w5 (hn5.grew (hd5.keeps None)) hSb rfl (by omega) hc5).mono ?_
  rintro e w6 ⟨rfl, hk6⟩
  have hK6 := hK5.trans hk6
  have hv6 := hv5.grew hk6
  go_wp2_with fail
  refine (opened_any B ys.length cap' ys w6 (hB.grew hK6) hbB rfl hrB hcB).mono ?_
  rintro e w7 ⟨rfl, hk7⟩
  have hK7 := hK6.trans hk7
  have hv7 := hv6.grew hk7
  clear hv4 hv5 hv6 hk6 hk7 hn5 hn6 hu hk4
  by_cases h0 : S.length = 0
  · have h0b : ((S.length : Int) == 0) = true := by simp [h0]
    have hlong := HS0.out h0
    obtain rfl : S = [] := List.eq_nil_of_length_eq_zero h0
    go_wp2
    go_ret
    exact ⟨ret_bool (by simp; omega), hK7.to_below⟩
  · have h0b : ((S.length : Int) == 0) = false := by simp; intro h; exact h0 (by rw [h]; rfl)
    obtain ⟨gs, cs, e5, hcs, hgs0, hgs1⟩ := hv7.pos (by omega)
    cases e5
    have hS0 : (0 : Int) < (S.length : Int) := by omega
    obtain ⟨hk0, hk1⟩ := roundF_lt at_ (S.length : Int) hS0
    go_wp2_with fail
    refine (round_any at_ (S.length : Int) w7 hS0 (by omega)).mono ?_
    rintro e w8 ⟨rfl, rfl⟩
    obtain ⟨K, eK⟩ := Int.eq_ofNat_of_zero_le hk0
    rw [eK] at hk0 hk1 ⊢
    clear eK
    have hKS : K < S.length := by omega
    obtain ⟨y, b, o, e9, hcell, hy⟩ := (Nums.row hv7).1.get K hKS
    cases e9
    rw [Nat.zero_add] at hcell
    have hyb := hSb.at hy.out
    have e1 := bits_xor_u8 hyb hx
    have hfr := hv7.free K
    have hst := hv7.store rfl K (xorB y x)
    have hK8 : Keeps None w (w8.setCell ⟨gs, K, Option.none⟩ (.int .u8 (xorB y x))) := hK7.setCell _ _ (fun h => by simp at h; omega)
    obtain ⟨T, eT⟩ : ∃ T, T = S.set K (xorB y x) := ⟨_, rfl⟩
    rw [← eT] at hst
    have hTl : T.length = S.length := by rw [eT]; simp
    have hTb : Bytes T := by
      rw [eT]
      intro c hc
      rcases List.mem_or_eq_of_mem_set hc with h | rfl
      · exact hSb c h
      · exact xorB_byte hyb hx
    obtain ⟨hnT, -, -, -⟩ := Nums.row hst
    have HT := Lib.hid hTl
    have HX := Lib.hid hst
    clear eT hTl hst hv7
    go_wp2_with fail
    refine (opened_any (some ⟨gs, 0, Option.none⟩) S.length c5 T _ hnT hTb HT.out (by omega) hc5).mono ?_
    rintro e w9 ⟨rfl, hk9⟩
    have hK9 := hK8.trans hk9
    have hn9 := (hnT.grew hk9).take K
    go_wp2_with fail
    refine (opened_any (some ⟨gs, 0, Option.none⟩) K c5 (T.take K) w9 hn9 (hTb.take K) (by rw [List.length_take, HT.out]; omega) (by omega) (by omega)).mono ?_
    rintro e w10 ⟨rfl, hk10⟩
    go_wp2
    go_ret
    exact ⟨ret_bool (by simp), (hK9.trans hk10).to_below⟩
set_option maxRecDepth 100000 in
theorem lifted (os : Os) (started : os.Started) (H : Type) (enc : TypeId × Value → H) :
    ReturnsInHanded {} Try.checked os 6 .any (Rows.wireSealsSpec.pre6 enc Try.prog Try.f6 Rows.wireSealsRow.domain false) (Rows.wireSealsSpec.post enc Try.prog Try.f6 false true false false) := by
  refine returnsInHanded_of_change_sized (C := Try.checked) Try.own started (by kernel_rfl) Try.func6
    (ChangeSpec.witness6 (enc := enc) (C := Try.checked) false ⟨#[], #[.slice none 0 0, .slice none 0 0, .int .i64 0, .int .u8 0], []⟩ 8 (by kernel_rfl) (by kernel_rfl) (by kernel_rfl) (by kernel_rfl)) ?_
  intro W base args ds gs before hval0 hW hcnd hsz0 _
  have hsz : (DataW.weightsEach Try.prog (Try.f6.params.toList ++ Rows.wireSealsSpec.plain.varTypes Try.prog) (ds ++ gs)).all (· ≤ reachBytes) = true := hsz0
  have hval : ∀ (j : Nat) t v, Try.f6.params[j]? = some t → args[j]? = some v → Value.okWide Try.prog W .any base t v := hval0
  have hW' := hW
  obtain ⟨p, q, hA0, hV, rfl, hfz, hnd⟩ := hW
  have hA : DataW.TrodAll enc Try.prog W 0 (fun _ => true) true Try.f6.params.toList args.toList ds p := hA0
  rw [Try.params6] at hA hval hsz
  obtain ⟨v0, vs0, d0, ds0, p0, q0, hargs, rfl, rfl, h0, r0⟩ := trodAll_cons hA
  obtain ⟨v1, vs1, d1, ds1, p1, q1, rfl, rfl, rfl, h1, r1⟩ := trodAll_cons r0
  obtain ⟨v2, vs2, d2, ds2, p2, q2, rfl, rfl, rfl, h2, r2⟩ := trodAll_cons r1
  obtain ⟨v3, vs3, d3, ds3, p3, q3, rfl, rfl, rfl, h3, r3⟩ := trodAll_cons r2
  obtain ⟨rfl, rfl, rfl⟩ := trodAll_nil r3
  obtain rfl : args = #[v0, v1, v2, v3] := by cases args; simp_all
  obtain ⟨rfl, rfl⟩ := trodVars_none hV
  have k0 := h0
  have lt0 : ∀ x ∈ p0, x.block < W.heap.size := by obtain ⟨m, hm⟩ := k0; exact DataW.trod_lt m _ _ _ hm
  obtain ⟨a0, len0, cap0, rfl⟩ := okWide_slice Try.underlying23 (hval 0 23 v0 rfl rfl)
  obtain ⟨z0, n0, w0, b0, y0, c0, e0⟩ := open_nums hsz (j := 0) (t := 23) rfl rfl Try.underlying23 Try.underlying5 (by kernel_rfl) (B := 1) (by kernel_rfl) h0
  have k1 := h1
  have lt1 : ∀ x ∈ p1, x.block < W.heap.size := by obtain ⟨m, hm⟩ := k1; exact DataW.trod_lt m _ _ _ hm
  obtain ⟨a1, len1, cap1, rfl⟩ := okWide_slice Try.underlying23 (hval 1 23 v1 rfl rfl)
  obtain ⟨z1, n1, w1, b1, y1, c1, e1⟩ := open_nums hsz (j := 1) (t := 23) rfl rfl Try.underlying23 Try.underlying5 (by kernel_rfl) (B := 1) (by kernel_rfl) h1
  obtain ⟨a2, rfl, rfl, rfl, w2⟩ := open_int Try.underlying3 (hval 2 3 v2 rfl rfl) h2
  obtain ⟨a3, rfl, rfl, rfl, w3⟩ := open_int Try.underlying5 (hval 3 5 v3 rfl rfl) h3
  clear hA0 hval0 hsz0 hsz
  refine (walk a0 len0 cap0 z0 a1 len1 cap1 z1 a2 a3 W w0 (fun c hc => wf_u8 (b0 c hc)) n0 (by omega) c0 e0 w1 (fun c hc => wf_u8 (b1 c hc)) n1 (by omega) c1 (wf_u8 w3)).mono fun e W' ⟨he, bel⟩ => ?_
  subst he
  exact ⟨_, rfl, _, _, _, [], _, [], hW', trodAll_mk1 (shut_bool Try.underlying4 _), (trodAll_cons_mk (Below.trod Try.laidOut (by kernel_rfl) (of_decide_eq_true (by kernel_rfl)) k0 bel lt0) (trodAll_cons_mk (Below.trod Try.laidOut (by kernel_rfl) (of_decide_eq_true (by kernel_rfl)) k1 bel lt1) (trodAll_cons_mk (shut_int Try.underlying3 w2) (trodAll_cons_mk (shut_int Try.underlying5 w3) trodAll_mk0)))), rfl, bel.frame _, fun h => by cases h⟩

theorem over : Rows.wireSealsRow.holds Try.pinned (OpenSpec.ofChange Rows.wireSealsSpec) :=
  OpenClaim.holds_of_wide 6 Try.f6 rfl rfl rfl rfl rfl rfl rfl ⟨rfl, rfl, rfl, rfl, rfl⟩ rfl rfl rfl rfl rfl (by kernel_rfl) Try.func6 (by kernel_rfl)
    (of_decide_eq_true (by kernel_rfl)) (by unfold Func.isWrapper; first | (rw [if_pos (by decide +kernel)]; kernel_rfl) | (rw [if_neg (by decide +kernel)]; exact ⟨rfl, rfl⟩))
    (fun os started H enc _ => lifted os started H enc)
end Go.Proofs.Ytnhhmkgcgogddaa.wireSeals
namespace Go.Proofs.Ytnhhmkgcgogddaa
/-- The row, under a short name, for the claim. -/
theorem wireSeals_holds : Rows.WireSealsSaid := wireSeals.over
end Go.Proofs.Ytnhhmkgcgogddaa
