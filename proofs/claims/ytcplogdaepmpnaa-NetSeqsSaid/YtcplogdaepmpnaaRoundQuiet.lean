/- A region that draws its order within a round of a range over a function: what is shown under the wide fence serves in the round's frame; and a walk of the order of the text over a class of worlds of one's own. -/
import Derived.Test.YtcplogdaepmpnaaBase
import Derived.Sort.QuietThIn
import Derived.OwnWalkIn
import Derived.RangeFuncCalls
namespace Go.Proofs.Ytcplogdaepmpnaa
open Go.RowKit

section
variable {F : Fence} {n : Nat} {P : Program} {ops : Array Oper} {Q : Exit → Act → World → Prop}
theorem wpIn_round (l : Nat) {o : Oper} {a : Act} {w : World} {K : Act → World → Prop} (hd : ∀ c, o.op ≠ .defer c) (h : o.wpIn F n P a w K Q) : o.wpIn (F.inRound l) n P a w K Q := by
  unfold Oper.wpIn at h ⊢
  rw [Oper.semAt_plain F _ _ hd] at h
  rw [Oper.semAt_plain (F.inRound l) _ _ hd]
  exact h
theorem wpAnyIn_round (l : Nat) {md : Region.Mode} (hd : ∀ (i : Nat) (o : Oper), ops[i]? = some o → ∀ c, o.op ≠ .defer c) : ∀ (fuel : Nat) (listed : Array Bool) (a : Act) (w : World), wpAnyIn F n P md ops Q fuel listed a w → wpAnyIn (F.inRound l) n P md ops Q fuel listed a w
  | 0, _, _, _, h => h
  | fuel + 1, listed, a, w, h => by
    refine ⟨h.1, fun i hi => ?_⟩
    have h2 := h.2 i hi
    unfold wpOpIn at h2 ⊢
    cases ho : ops[i]? with
    | none =>
      rw [ho] at h2
      exact wpAnyIn_round l hd fuel _ _ _ h2
    | some o =>
      rw [ho] at h2
      simp only at h2 ⊢
      split at h2
      · rename_i hw
        rw [if_pos hw]
        exact Oper.wpIn_mono (fun a w => wpAnyIn_round l hd fuel _ a w) (wpIn_round l (hd i o ho) h2)
      · rename_i hw
        rw [if_neg hw]
        exact ⟨h2.1, wpAnyIn_round l hd fuel _ _ _ h2.2⟩
end

def noDefer (o : Oper) : Bool := match o.op with | .defer _ => false | _ => true
section
variable {n : Nat} {P : Program} {C : World → Prop}
theorem region_round {id l : Nat} {Q : Exit → Act → World → Prop} {a : Act} {w : World} {os : List Oper} (hm : P.follows .mixedOrders = true) (hd : os.all noDefer = true) (hB : Region.lexB .any os.toArray = true) (hC : C w.drew)
    (h : wpQuietIn Fence.wide n P os.toArray C (fun a' => ∀ w', C w' → Q .normal a' w') os a) : (Code.region id os.toArray true).wpIn (Fence.wide.inRound l) n P Q a w := by
  simp only [Region.lexB, Bool.and_eq_true] at hB
  refine wpIn_region_any hm (wpAnyIn_round l (fun i o ho c hc => ?_) _ _ _ _ (wpAnyIn_of_quiet (Q := fun a' => ∀ w', C w' → Q .normal a' w') rfl (fun _ w' hw' h => h w' hw') _ _ _ _ hC ?_))
  · have := List.all_eq_true.1 hd o (List.mem_of_getElem? (by simpa using ho))
    simp [noDefer, hc] at this
  · have := wpAnyQIn_lex (F := Fence.wide) (n := n) (C := C) (md := .any) hB.1 os 0 (Array.replicate os.toArray.size false) a (by simp) (by simpa using hB.2) h
    simpa using this

variable {ops : Array Oper} {rest : List Oper} {o : Oper} {a : Act} {Q : Act → Prop}
theorem q_off {N : Option Tmp} (hw : Region.wanted o (yielded ops a.tmps) = false) (hN : o.dst = N) {a' : Act} (ha : a.put N undef = a') (h : wpQuietIn Fence.wide n P ops C Q rest a') : wpQuietIn Fence.wide n P ops C Q (o :: rest) a := by
  refine ⟨fun _ _ _ _ => trivial, ?_⟩
  rw [if_neg (by rw [hw]; simp), hN, ha]
  exact h
theorem q_take {N : Option Tmp} (v : Value) (hw : Region.wanted o (yielded ops a.tmps) = true) (hN : o.dst = N) (hy : ∀ w, C w → (execOp a.eval o).run P w = .ok (.value v) w) {a' : Act} (ha : a.put N v = a') (h : wpQuietIn Fence.wide n P ops C Q rest a') : wpQuietIn Fence.wide n P ops C Q (o :: rest) a := by
  refine ⟨fun _ _ _ _ => trivial, ?_⟩
  rw [if_pos hw]
  refine ⟨v, fun w hc => ?_, by rw [hN, ha]; exact h⟩
  unfold Oper.quietAtIn
  rw [hy w hc]
  exact ⟨rfl, rfl⟩
theorem q_call {N : Option Tmp} (v : Value) (f : FuncId) (args : Array Value) (hw : Region.wanted o (yielded ops a.tmps) = true) (hN : o.dst = N) (hy : ∀ w, C w → (execOp a.eval o).run P w = .ok (.enter f args) w) (hc : ∀ w, C w → Calls P f args w fun e w' => e = .returned v ∧ C w') {a' : Act} (ha : a.put N v = a')
    (h : wpQuietIn Fence.wide n P ops C Q rest a') : wpQuietIn Fence.wide n P ops C Q (o :: rest) a := by
  refine ⟨fun _ _ _ _ => trivial, ?_⟩
  rw [if_pos hw]
  refine ⟨v, fun w hcw => ?_, by rw [hN, ha]; exact h⟩
  unfold Oper.quietAtIn
  rw [hy w hcw]
  exact ⟨rfl, fun e => by simp [Fence.wide] at e, callsIn_wide.2 (hc w hcw)⟩
end
end Go.Proofs.Ytcplogdaepmpnaa
