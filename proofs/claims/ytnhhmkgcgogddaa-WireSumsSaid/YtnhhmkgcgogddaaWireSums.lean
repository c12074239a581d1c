/- WireSums: for every list of bytes, the checksum by the table of halves (wire.Sum) is the checksum bit by bit of the reference, and the bytes that were lent are as they were. No condition. -/
import Derived.Test.YtnhhmkgcgogddaaOpen
import Derived.Test.YtnhhmkgcgogddaaSum
namespace Go.Proofs.Ytnhhmkgcgogddaa.wireSums
open Go.ChangeShapes Go.WideShapes Go.ChangeAt Go.RowKit
open Go.ChangeMaps (open_string shut_string)
set_option linter.unusedVariables false

def LawEnd (w : World) (e : Ending) (w' : World) : Prop := e = .returned (.bool true) ∧ Below w.heap.size w w'

set_option maxRecDepth 100000 in
set_option maxHeartbeats 1600000 in
theorem walk (A : Option Addr) (n cap : Nat) (zs : List Int) (w : World) (hA : Nums .u8 w A zs) (hb : Bytes zs) (hn : zs.length = n) (hr : n ≤ 140737488351232) :
    Calls Try.prog 4 #[.slice A n cap] w (LawEnd w) := by
  go_enter Try.func4, Try.ntmps4
  go_wp2_with fail
  refine (lend_any A n cap zs w hA hn hr).mono ?_
  rintro e w1 ⟨g, rfl, hg0, hg, hK1⟩
  subst hn
  go_wp2_with fail
  refine (sum_any (some ⟨g, 0, Option.none⟩) zs.length (zs.length + 5) zs w1 (lentCells_nums hg) hb rfl hr).mono ?_
  rintro e w2 ⟨rfl, hK2⟩
  have hg2 := hg.grew hK2
  have hK12 := hK1.trans hK2
  go_wp2_with fail
  refine (back_any g zs.length zs A zs.length cap w2 hg2 rfl (hA.grew hK12) rfl hr).mono ?_
  rintro e w3 ⟨rfl, hg3, hK3⟩
  have hK13 : Keeps None w w3 := hK12.andThen hK3 (fun i hi e => by cases e; omega)
  go_wp2_with fail
  refine (refsum_any A zs.length cap zs w3 (hA.grew hK13) hb rfl hr).mono ?_
  rintro e w4 ⟨rfl, hK4⟩
  go_wp2_with fail
  go_ret
  exact ⟨ret_bool (by simp), (hK13.trans hK4).to_below⟩

set_option maxRecDepth 100000 in
theorem lifted (os : Os) (started : os.Started) (H : Type) (enc : TypeId × Value → H) :
    ReturnsInHanded {} Try.checked os 4 .any (Rows.wireSumsSpec.pre6 enc Try.prog Try.f4 Rows.wireSumsRow.domain false) (Rows.wireSumsSpec.post enc Try.prog Try.f4 false true false false) := by
  refine returnsInHanded_of_change_sized (C := Try.checked) Try.own started (by kernel_rfl) Try.func4
    (ChangeSpec.witness6 (enc := enc) (C := Try.checked) false ⟨#[], #[.slice none 0 0], []⟩ 8 (by kernel_rfl) (by kernel_rfl) (by kernel_rfl) (by kernel_rfl)) ?_
  intro W base args ds gs before hval0 hW hcnd hsz0 _
  have hsz : (DataW.weightsEach Try.prog (Try.f4.params.toList ++ Rows.wireSumsSpec.plain.varTypes Try.prog) (ds ++ gs)).all (· ≤ reachBytes) = true := hsz0
  have hval : ∀ (j : Nat) t v, Try.f4.params[j]? = some t → args[j]? = some v → Value.okWide Try.prog W .any base t v := hval0
  have hW' := hW
  obtain ⟨p, q, hA0, hV, rfl, hfz, hnd⟩ := hW
  have hA : DataW.TrodAll enc Try.prog W 0 (fun _ => true) true Try.f4.params.toList args.toList ds p := hA0
  rw [Try.params4] at hA hval hsz
  obtain ⟨v0, vs0, d0, ds0, p0, q0, hargs, rfl, rfl, h0, r0⟩ := trodAll_cons hA
  obtain ⟨rfl, rfl, rfl⟩ := trodAll_nil r0
  obtain rfl : args = #[v0] := by cases args; simp_all
  obtain ⟨rfl, rfl⟩ := trodVars_none hV
  obtain ⟨a0, len0, cap0, rfl⟩ := okWide_slice Try.underlying23 (hval 0 23 v0 rfl rfl)
  have k0 := h0
  have lt0 : ∀ x ∈ p0, x.block < W.heap.size := by obtain ⟨m, hm⟩ := k0; exact DataW.trod_lt m _ _ _ hm
  obtain ⟨z0, n0, w0, b0, y0, _, _⟩ := open_nums hsz (j := 0) (t := 23) rfl rfl Try.underlying23 Try.underlying5 (by kernel_rfl) (B := 1) (by kernel_rfl) h0
  clear hA0 hval0 hsz0 hsz
  refine (walk a0 len0 cap0 z0 W w0 (fun c hc => wf_u8 (b0 c hc)) n0 (by omega)).mono fun e W' ⟨he, bel⟩ => ?_
  subst he
  exact ⟨_, rfl, _, _, _, [], _, [], hW', trodAll_mk1 (shut_bool Try.underlying4 _), (trodAll_cons_mk (Below.trod Try.laidOut (by kernel_rfl) (of_decide_eq_true (by kernel_rfl)) k0 bel lt0) trodAll_mk0), rfl, bel.frame _, fun h => by cases h⟩

theorem over : Rows.wireSumsRow.holds Try.pinned (OpenSpec.ofChange Rows.wireSumsSpec) :=
  OpenClaim.holds_of_wide 4 Try.f4 rfl rfl rfl rfl rfl rfl rfl ⟨rfl, rfl, rfl, rfl, rfl⟩ rfl rfl rfl rfl rfl (by kernel_rfl) Try.func4 (by kernel_rfl)
    (of_decide_eq_true (by kernel_rfl)) (by unfold Func.isWrapper; first | (rw [if_pos (by decide +kernel)]; kernel_rfl) | (rw [if_neg (by decide +kernel)]; exact ⟨rfl, rfl⟩))
    (fun os started H enc _ => lifted os started H enc)
end Go.Proofs.Ytnhhmkgcgogddaa.wireSums
namespace Go.Proofs.Ytnhhmkgcgogddaa
/-- The row, under a short name, for the claim. -/
theorem wireSums_holds : Rows.WireSumsSaid := wireSums.over
end Go.Proofs.Ytnhhmkgcgogddaa
