/- NetApart: two Nets, and the document's two, stepped in turns do not see one another: each answers as if it were alone: for every two scripts and every row of turns. No condition. -/
import Derived.Test.YtcplogdaepmpnaaNApart
namespace Go.Proofs.Ytcplogdaepmpnaa.netApart
open Go.ChangeShapes Go.WideShapes Go.ChangeAt Go.RowKit
set_option linter.unusedVariables false

theorem walk (A : Option Addr) (nA capA : Nat) (its : List Stp) (B : Option Addr) (nB capB : Nat) (jts : List Stp) (T : Option Addr) (nT capT : Nat) (zs : List Int) (w : World) (hA : StpsAt w A its) (hRA : ∀ x ∈ its, x.Raw w) (hnA : its.length = nA) (hrA : nA ≤ 140737488351232)
    (hBB : StpsAt w B jts) (hRB : ∀ x ∈ jts, x.Raw w) (hnB : jts.length = nB) (hrB : nB ≤ 140737488351232) (hT : Nums .i64 w T zs) (hnT : zs.length = nT) (hrT : nT ≤ 140737488351232) (hzs : ∀ x ∈ zs, (Lit.int .i64 x).wf = true) :
    Calls Try.prog 8 #[.slice A nA capA, .slice B nB capB, .slice T nT capT] w fun e w' => e = .returned (.bool true) ∧ Below w.heap.size w w' :=
  (netapart_any A nA capA its B nB capB jts T nT capT zs w hA hRA hnA hrA hBB hRB hnB hrB hT hnT hrT hzs).mono fun _ _ h => ⟨h.1, h.2.to_below⟩

set_option maxRecDepth 100000 in
theorem lifted (os : Os) (started : os.Started) (H : Type) (enc : TypeId × Value → H) :
    ReturnsInHanded {} Try.checked os 8 .any (Rows.netApartSpec.pre6 enc Try.prog Try.f8 Rows.netApartRow.domain false) (Rows.netApartSpec.post enc Try.prog Try.f8 false true false false) := by
  refine returnsInHanded_of_change_sized (C := Try.checked) Try.own started (by kernel_rfl) Try.func8
    (ChangeSpec.witness6 (enc := enc) (C := Try.checked) false ⟨#[], #[.slice none 0 0, .slice none 0 0, .slice none 0 0], []⟩ 8 (by kernel_rfl) (by kernel_rfl) (by kernel_rfl) (by kernel_rfl)) ?_
  intro W base args ds gs before hval0 hW hcnd hsz0 _
  have hsz : (DataW.weightsEach Try.prog (Try.f8.params.toList ++ Rows.netApartSpec.plain.varTypes Try.prog) (ds ++ gs)).all (· ≤ reachBytes) = true := hsz0
  have hval : ∀ (j : Nat) t v, Try.f8.params[j]? = some t → args[j]? = some v → Value.okWide Try.prog W .any base t v := hval0
  have hW' := hW
  obtain ⟨p, q, hA0, hV, rfl, hfz, hnd⟩ := hW
  have hA : DataW.TrodAll enc Try.prog W 0 (fun _ => true) true Try.f8.params.toList args.toList ds p := hA0
  rw [Try.params8] at hA hval hsz
  obtain ⟨v0, vs0, d0, ds0, p0, q0, hargs, rfl, rfl, h0, r0⟩ := trodAll_cons hA
  obtain ⟨v1, vs1, d1, ds1, p1, q1, rfl, rfl, rfl, h1, r1⟩ := trodAll_cons r0
  obtain ⟨v2, vs2, d2, ds2, p2, q2, rfl, rfl, rfl, h2, r2⟩ := trodAll_cons r1
  obtain ⟨rfl, rfl, rfl⟩ := trodAll_nil r2
  obtain rfl : args = #[v0, v1, v2] := by cases args; simp_all
  obtain ⟨rfl, rfl⟩ := trodVars_none hV
  have k0 := h0
  have lt0 : ∀ x ∈ p0, x.block < W.heap.size := by obtain ⟨m, hm⟩ := k0; exact DataW.trod_lt m _ _ _ hm
  obtain ⟨a0, len0, cap0, rfl⟩ := okWide_slice Try.underlying44 (hval 0 44 v0 rfl rfl)
  obtain ⟨z0, n0, w0, y0⟩ := open_steps hsz (j := 0) rfl rfl h0
  have k1 := h1
  have lt1 : ∀ x ∈ p1, x.block < W.heap.size := by obtain ⟨m, hm⟩ := k1; exact DataW.trod_lt m _ _ _ hm
  obtain ⟨a1, len1, cap1, rfl⟩ := okWide_slice Try.underlying44 (hval 1 44 v1 rfl rfl)
  obtain ⟨z1, n1, w1, y1⟩ := open_steps hsz (j := 1) rfl rfl h1
  have k2 := h2
  have lt2 : ∀ x ∈ p2, x.block < W.heap.size := by obtain ⟨m, hm⟩ := k2; exact DataW.trod_lt m _ _ _ hm
  obtain ⟨a2, len2, cap2, rfl⟩ := okWide_slice Try.underlying63 (hval 2 63 v2 rfl rfl)
  obtain ⟨z2, n2, w2, b2, y2, c2, e2⟩ := open_nums hsz (j := 2) (t := 63) rfl rfl Try.underlying63 Try.underlying3 (by kernel_rfl) (B := 8) (by kernel_rfl) h2
  clear hA0 hval0 hsz0 hsz
  refine (walk a0 len0 cap0 z0 a1 len1 cap1 z1 a2 len2 cap2 z2 W w0 y0.1 n0 y0.2.1 w1 y1.1 n1 y1.2.1 w2 n2 (by omega) b2).mono fun e W' ⟨he, bel⟩ => ?_
  subst he
  exact ⟨_, rfl, _, _, _, [], _, [], hW', trodAll_mk1 (shut_bool Try.underlying4 _), (trodAll_cons_mk (Below.trod Try.laidOut (by kernel_rfl) (of_decide_eq_true (by kernel_rfl)) k0 bel lt0) (trodAll_cons_mk (Below.trod Try.laidOut (by kernel_rfl) (of_decide_eq_true (by kernel_rfl)) k1 bel lt1) (trodAll_cons_mk (Below.trod Try.laidOut (by kernel_rfl) (of_decide_eq_true (by kernel_rfl)) k2 bel lt2) trodAll_mk0))), rfl, bel.frame _, fun h => by cases h⟩

theorem over : Rows.netApartRow.holds Try.pinned (OpenSpec.ofChange Rows.netApartSpec) :=
  OpenClaim.holds_of_wide 8 Try.f8 rfl rfl rfl rfl rfl rfl rfl ⟨rfl, rfl, rfl, rfl, rfl⟩ rfl rfl rfl rfl rfl (by kernel_rfl) Try.func8 (by kernel_rfl)
    (of_decide_eq_true (by kernel_rfl)) (by unfold Func.isWrapper; first | (rw [if_pos (by decide +kernel)]; kernel_rfl) | (rw [if_neg (by decide +kernel)]; exact ⟨rfl, rfl⟩))
    (fun os started H enc _ => lifted os started H enc)
end Go.Proofs.Ytcplogdaepmpnaa.netApart
namespace Go.Proofs.Ytcplogdaepmpnaa
/-- The row, under a short name, for the claim. -/
theorem netApart_holds : Rows.NetApartSaid := netApart.over
end Go.Proofs.Ytcplogdaepmpnaa
