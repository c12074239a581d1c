/- RegisterLists: lists of messages that are told are the caller's own: of Begin, Tick and Take, in both phases, all are written full and appended to; all stay so, and what is told next is as the document says: for every group, either kind of machine and every block. No condition. -/
import Derived.Test.YtcihfjfbcfgidaaListsW
import Derived.Test.YtcihfjfbcfgidaaOpen
namespace Go.Proofs.Ytcihfjfbcfgidaa.registerLists
open Go.ChangeShapes Go.WideShapes Go.ChangeAt Go.RowKit
set_option linter.unusedVariables false

theorem walk (A : Option Addr) (n cap : Nat) (l : List Int) (wrt : Bool) (B : Option Addr) (m cap0 : Nat) (zs : List Int) (w : World) (hA : Nums .i64 w A l) (hn : l.length = n) (hwf : ∀ s ∈ l, (Lit.int .i64 s).wf = true) (hcap : A = Option.none → cap = 0) (hN : n * 8 ≤ 140737488351232) (hB : Nums .u8 w B zs) (hm : zs.length = m) (hz : m * 1 ≤ 140737488351232) :
    Calls Try.prog 7 #[.slice A n cap, .bool wrt, .slice B m cap0] w fun e w' => e = .returned (.bool true) ∧ Below w.heap.size w w' :=
  (lists_any A n cap l wrt B m cap0 zs w hA hn hwf hcap (by omega) hB hm (by omega)).mono fun _ _ h => ⟨h.1, h.2.to_below⟩

set_option maxRecDepth 100000 in
theorem lifted (os : Os) (started : os.Started) (H : Type) (enc : TypeId × Value → H) :
    ReturnsInHanded {} Try.checked os 7 .any (Rows.registerListsSpec.pre6 enc Try.prog Try.f7 Rows.registerListsRow.domain false) (Rows.registerListsSpec.post enc Try.prog Try.f7 false true false false) := by
  refine returnsInHanded_of_change_sized (C := Try.checked) Try.own started (by kernel_rfl) Try.func7
    (ChangeSpec.witness6 (enc := enc) (C := Try.checked) false ⟨#[], #[.slice none 0 0, .bool false, .slice none 0 0], []⟩ 8 (by kernel_rfl) (by kernel_rfl) (by kernel_rfl) (by kernel_rfl)) ?_
  intro W base args ds gs before hval0 hW hcnd hsz0 _
  have hsz : (DataW.weightsEach Try.prog (Try.f7.params.toList ++ Rows.registerListsSpec.plain.varTypes Try.prog) (ds ++ gs)).all (· ≤ reachBytes) = true := hsz0
  have hval : ∀ (j : Nat) t v, Try.f7.params[j]? = some t → args[j]? = some v → Value.okWide Try.prog W .any base t v := hval0
  have hW' := hW
  obtain ⟨p, q, hA0, hV, rfl, hfz, hnd⟩ := hW
  have hA : DataW.TrodAll enc Try.prog W 0 (fun _ => true) true Try.f7.params.toList args.toList ds p := hA0
  rw [Try.params7] at hA hval hsz
  obtain ⟨v0, vs0, d0, ds0, p0, q0, hargs, rfl, rfl, h0, r0⟩ := trodAll_cons hA
  obtain ⟨v1, vs1, d1, ds1, p1, q1, rfl, rfl, rfl, h1, r1⟩ := trodAll_cons r0
  obtain ⟨v2, vs2, d2, ds2, p2, q2, rfl, rfl, rfl, h2, r2⟩ := trodAll_cons r1
  obtain ⟨rfl, rfl, rfl⟩ := trodAll_nil r2
  obtain rfl : args = #[v0, v1, v2] := by cases args; simp_all
  obtain ⟨rfl, rfl⟩ := trodVars_none hV
  have k0 := h0
  have lt0 : ∀ x ∈ p0, x.block < W.heap.size := by obtain ⟨m, hm⟩ := k0; exact DataW.trod_lt m _ _ _ hm
  obtain ⟨a0, len0, cap0, rfl⟩ := okWide_slice Try.underlying52 (hval 0 52 v0 rfl rfl)
  obtain ⟨z0, n0, w0, b0, y0, c0, e0⟩ := open_nums hsz (j := 0) (t := 52) rfl rfl Try.underlying52 Try.underlying3 (by kernel_rfl) (B := 8) (by kernel_rfl) h0
  have k1 := h1
  have lt1 : ∀ x ∈ p1, x.block < W.heap.size := by obtain ⟨m, hm⟩ := k1; exact DataW.trod_lt m _ _ _ hm
  obtain ⟨bw, rfl⟩ := okWide_bool Try.underlying4 (hval 1 4 v1 rfl rfl)
  have k2 := h2
  have lt2 : ∀ x ∈ p2, x.block < W.heap.size := by obtain ⟨m, hm⟩ := k2; exact DataW.trod_lt m _ _ _ hm
  obtain ⟨a2, len2, cap2, rfl⟩ := okWide_slice Try.underlying24 (hval 2 24 v2 rfl rfl)
  obtain ⟨z2, n2, w2, b2, y2, c2, e2⟩ := open_nums hsz (j := 2) (t := 24) rfl rfl Try.underlying24 Try.underlying5 (by kernel_rfl) (B := 1) (by kernel_rfl) h2
  clear hA0 hval0 hsz0 hsz
  refine (walk a0 len0 cap0 z0 bw a2 len2 cap2 z2 W w0 n0 b0 e0 y0 w2 n2 y2).mono fun e W' ⟨he, bel⟩ => ?_
  subst he
  exact ⟨_, rfl, _, _, _, [], _, [], hW', trodAll_mk1 (shut_bool Try.underlying4 _), (trodAll_cons_mk (Below.trod Try.laidOut (by kernel_rfl) (of_decide_eq_true (by kernel_rfl)) k0 bel lt0) (trodAll_cons_mk (Below.trod Try.laidOut (by kernel_rfl) (of_decide_eq_true (by kernel_rfl)) k1 bel lt1) (trodAll_cons_mk (Below.trod Try.laidOut (by kernel_rfl) (of_decide_eq_true (by kernel_rfl)) k2 bel lt2) trodAll_mk0))), rfl, bel.frame _, fun h => by cases h⟩

theorem over : Rows.registerListsRow.holds Try.pinned (OpenSpec.ofChange Rows.registerListsSpec) :=
  OpenClaim.holds_of_wide 7 Try.f7 rfl rfl rfl rfl rfl rfl rfl ⟨rfl, rfl, rfl, rfl, rfl⟩ rfl rfl rfl rfl rfl (by kernel_rfl) Try.func7 (by kernel_rfl)
    (of_decide_eq_true (by kernel_rfl)) (by unfold Func.isWrapper; first | (rw [if_pos (by decide +kernel)]; kernel_rfl) | (rw [if_neg (by decide +kernel)]; exact ⟨rfl, rfl⟩))
    (fun os started H enc _ => lifted os started H enc)
end Go.Proofs.Ytcihfjfbcfgidaa.registerLists
namespace Go.Proofs.Ytcihfjfbcfgidaa
/-- The row, under a short name, for the claim. -/
theorem registerLists_holds : Rows.RegisterListsSaid := registerLists.over
end Go.Proofs.Ytcihfjfbcfgidaa
