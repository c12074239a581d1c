/- RegisterPlays: every script of one machine goes step by step as the document's machine does: what Begin, Tick and Take tell, what Done and Round tell, and what was handed in is not kept: for every ask and every script. No condition. -/
import Derived.Test.YtcihfjfbcfgidaaPlays7
namespace Go.Proofs.Ytcihfjfbcfgidaa.registerPlays
open Go.ChangeShapes Go.WideShapes Go.ChangeAt Go.RowKit
set_option linter.unusedVariables false

/-- What an ask is, as it came in. -/
structure AskR (W : World) (v : Value) : Prop where
  out : ∃ (wrt : Bool) (client op k0 k1 k2 k3 : Int) (A : Option Addr) (n cap : Nat) (l : List Int) (round size : Int) (B : Option Addr) (m cap0 : Nat) (zs : List Int),
    v = .agg #[.bool wrt, .int .i64 client, .int .i64 op, .int .i64 k0, .int .i64 k1, .int .i64 k2, .int .i64 k3, .slice A n cap, .int .i64 round, .int .i64 size, .slice B m cap0] ∧ Nums .i64 W A l ∧ l.length = n ∧ (∀ s ∈ l, (Lit.int .i64 s).wf = true) ∧ (A = Option.none → cap = 0) ∧ n ≤ 140737488351232 ∧ Nums .u8 W B zs ∧ zs.length = m ∧ m ≤ 140737488351232

set_option maxRecDepth 100000 in
theorem open_ask {H : Type} {enc : TypeId × Value → H} {W : World} {base b0 : Nat} {spare : Nat → Bool} {held : Bool} {v : Value} {d : DataW H} {ps : List MemPlace} {ts : List TypeId} {ds : List (DataW H)} {j : Nat}
    (hsz : (DataW.weightsEach Try.prog ts ds).all (· ≤ reachBytes) = true) (ht : ts[j]? = some 71) (hd : ds[j]? = some d) (hv : Value.okWide Try.prog W .any b0 71 v)
    (h : DataW.Trod enc Try.prog W base spare held 71 v d ps) : AskR W v := by
  have hu := Try.underlying71
  obtain ⟨cs, rfl, hcs⟩ := okWide_struct hu hv
  obtain ⟨fuel, hf⟩ := h
  obtain ⟨l⟩ := cs
  have hf : DataW.trod enc Try.prog W base spare held fuel 71 l = some (d, ps) := by simpa [Value.cells] using hf
  have hw : ∀ n ∈ d.weights Try.prog 71, n ≤ reachBytes := fun n hn => by
    have := List.all_eq_true.1 hsz _ (DataW.weights_mem_each ht hd n hn)
    simpa using this
  have hl := trod_len hf hu (sz := 11) (by kernel_rfl)
  obtain ⟨wrt, r0⟩ := field_bool hu hf hw 0 0 (by kernel_rfl)
  obtain ⟨client, r1, -⟩ := field_int hu hf hw 1 3 1 (by kernel_rfl) cellsI Try.underlying3
  obtain ⟨op, r2, -⟩ := field_int hu hf hw 2 3 2 (by kernel_rfl) cellsI Try.underlying3
  obtain ⟨y3, _, g3, g3'⟩ := trod_field hu hf hw 3 51 3 4 (by kernel_rfl) (by kernel_rfl)
  obtain ⟨k0, k1, k2, k3, r3⟩ := trod_key g3 g3'
  obtain ⟨y4, _, g4, g4'⟩ := trod_field hu hf hw 4 52 7 1 (by kernel_rfl) (by kernel_rfl)
  obtain ⟨A, n, cap, zs, r4, a1, a2, a3, a4, a5, a6⟩ := open_bytes_at Try.underlying52 Try.underlying3 (by kernel_rfl) g4
  obtain ⟨round, r5, -⟩ := field_int hu hf hw 5 3 8 (by kernel_rfl) cellsI Try.underlying3
  obtain ⟨size, r6, -⟩ := field_int hu hf hw 6 3 9 (by kernel_rfl) cellsI Try.underlying3
  obtain ⟨y7, _, g7, g7'⟩ := trod_field hu hf hw 7 24 10 1 (by kernel_rfl) (by kernel_rfl)
  obtain ⟨B, m, cap0, bs, r7, b1, b2, b3⟩ := trod_bytes g7 g7'
  have hall : l = _ := glue r0 (glue r1 (glue r2 (glue r3 (glue r4 (glue r5 (glue r6 (glue r7 (List.drop_eq_nil_of_le (by omega)))))))))
  rw [r4] at g4
  refine ⟨wrt, client, op, k0, k1, k2, k3, A, n, cap, zs, round, size, B, m, cap0, bs, ?_, a2, a1, a3, a6, len_of_weights Try.underlying52 Try.underlying3 (by kernel_rfl) (of_decide_eq_true (by kernel_rfl)) g4 g4', b2, b1, b3⟩
  rw [hall]
  rfl

theorem walk (v : Value) (T : Option Addr) (t cap' : Nat) (its : List Sp) (w : World) (hA : AskR w v) (hT : SpsAt w T its) (hR : ∀ x ∈ its, x.Raw w) (ht : its.length = t) (hr : t ≤ 140737488351232) :
    Calls Try.prog 6 #[v, .slice T t cap'] w fun e w' => e = .returned (.bool true) ∧ Below w.heap.size w w' := by
  obtain ⟨wrt, client, op, k0, k1, k2, k3, A, n, cap, l, round, size, B, m, cap0, zs, rfl, h1, h2, h3, h4, h5, h6, h7, h8⟩ := hA.out
  exact (plays7_any wrt client op k0 k1 k2 k3 A n cap l round size B m cap0 zs T t cap' its w h1 h2 h3 h4 h5 h6 h7 h8 hT hR ht hr).mono fun _ _ h => ⟨h.1, h.2.to_below⟩

set_option maxRecDepth 100000 in
theorem lifted (os : Os) (started : os.Started) (H : Type) (enc : TypeId × Value → H) :
    ReturnsInHanded {} Try.checked os 6 .any (Rows.registerPlaysSpec.pre6 enc Try.prog Try.f6 Rows.registerPlaysRow.domain false) (Rows.registerPlaysSpec.post enc Try.prog Try.f6 false true false false) := by
  refine returnsInHanded_of_change_sized (C := Try.checked) Try.own started (by kernel_rfl) Try.func6
    (ChangeSpec.witness6 (enc := enc) (C := Try.checked) false ⟨#[], #[.agg #[.bool false, .int .i64 0, .int .i64 0, .int .i64 0, .int .i64 0, .int .i64 0, .int .i64 0, .slice none 0 0, .int .i64 0, .int .i64 0, .slice none 0 0], .slice none 0 0], []⟩ 8 (by kernel_rfl) (by kernel_rfl) (by kernel_rfl) (by kernel_rfl)) ?_
  intro W base args ds gs before hval0 hW hcnd hsz0 _
  have hsz : (DataW.weightsEach Try.prog (Try.f6.params.toList ++ Rows.registerPlaysSpec.plain.varTypes Try.prog) (ds ++ gs)).all (· ≤ reachBytes) = true := hsz0
  have hval : ∀ (j : Nat) t v, Try.f6.params[j]? = some t → args[j]? = some v → Value.okWide Try.prog W .any base t v := hval0
  have hW' := hW
  obtain ⟨p, q, hA0, hV, rfl, hfz, hnd⟩ := hW
  have hA : DataW.TrodAll enc Try.prog W 0 (fun _ => true) true Try.f6.params.toList args.toList ds p := hA0
  rw [Try.params6] at hA hval hsz
  obtain ⟨v0, vs0, d0, ds0, p0, q0, hargs, rfl, rfl, h0, r0⟩ := trodAll_cons hA
  obtain ⟨v1, vs1, d1, ds1, p1, q1, rfl, rfl, rfl, h1, r1⟩ := trodAll_cons r0
  obtain ⟨rfl, rfl, rfl⟩ := trodAll_nil r1
  obtain rfl : args = #[v0, v1] := by cases args; simp_all
  obtain ⟨rfl, rfl⟩ := trodVars_none hV
  have k0 := h0
  have lt0 : ∀ x ∈ p0, x.block < W.heap.size := by obtain ⟨m, hm⟩ := k0; exact DataW.trod_lt m _ _ _ hm
  have w0 := open_ask hsz (j := 0) rfl rfl (hval 0 71 v0 rfl rfl) h0
  have k1 := h1
  have lt1 : ∀ x ∈ p1, x.block < W.heap.size := by obtain ⟨m, hm⟩ := k1; exact DataW.trod_lt m _ _ _ hm
  obtain ⟨a1, len1, cap1, rfl⟩ := okWide_slice Try.underlying72 (hval 1 72 v1 rfl rfl)
  obtain ⟨z1, n1, w1, y1, l1⟩ := open_steps7 hsz (j := 1) rfl rfl h1
  clear hA0 hval0 hsz0 hsz
  refine (walk v0 a1 len1 cap1 z1 W w0 w1 y1 n1 l1).mono fun e W' ⟨he, bel⟩ => ?_
  subst he
  exact ⟨_, rfl, _, _, _, [], _, [], hW', trodAll_mk1 (shut_bool Try.underlying4 _), (trodAll_cons_mk (Below.trod Try.laidOut (by kernel_rfl) (of_decide_eq_true (by kernel_rfl)) k0 bel lt0) (trodAll_cons_mk (Below.trod Try.laidOut (by kernel_rfl) (of_decide_eq_true (by kernel_rfl)) k1 bel lt1) trodAll_mk0)), rfl, bel.frame _, fun h => by cases h⟩

theorem over : Rows.registerPlaysRow.holds Try.pinned (OpenSpec.ofChange Rows.registerPlaysSpec) :=
  OpenClaim.holds_of_wide 6 Try.f6 rfl rfl rfl rfl rfl rfl rfl ⟨rfl, rfl, rfl, rfl, rfl⟩ rfl rfl rfl rfl rfl (by kernel_rfl) Try.func6 (by kernel_rfl)
    (of_decide_eq_true (by kernel_rfl)) (by unfold Func.isWrapper; first | (rw [if_pos (by decide +kernel)]; kernel_rfl) | (rw [if_neg (by decide +kernel)]; exact ⟨rfl, rfl⟩))
    (fun os started H enc _ => lifted os started H enc)
end Go.Proofs.Ytcihfjfbcfgidaa.registerPlays
namespace Go.Proofs.Ytcihfjfbcfgidaa
/-- The row, under a short name, for the claim. -/
theorem registerPlays_holds : Rows.RegisterPlaysSaid := registerPlays.over
end Go.Proofs.Ytcihfjfbcfgidaa
