/- A range over a function whose elements come with memory of their own: what the iterator knows of the element it hands on (G) is told to the round. -/
import Derived.Test.YtghbgcmhahndkaaBase
import Derived.RangeFuncBox
import Derived.RangeFuncLeaves
import Derived.RangeFuncWrites
import Derived.WalkKit
import Derived.OwnWalkIn
import Derived.TacticsInMore
import Derived.LoopNIn
import Derived.LoopIn
namespace Go.Proofs.Ytghbgcmhahndkaa
open Go.RowKit

/-- An iterator's contract: St its own state, G what holds of an element as it is handed on (behind what has come; in the world before it was made and as it stands), Sf / Sp what has come at the end / when it was left. -/
def SeqG {α : Type} (F : Fence) (n : Nat) (P : Program) (g : Nat) (lb : Array Value) (encs : α → Array Value) (G : List α → α → World → World → Prop) (St : World → Prop) (Sf Sp : List α → Prop) (N : Nat) : Prop :=
  ∀ (l : Nat) (J Jx : List α → World → Prop) (W : World), (∀ pre A C, J pre A → Keeps None A C → J pre C) →
    (∀ pre x W0 W1, J pre W0 → Keeps None W0 W1 → G pre x W0 W1 → St W1 → pre.length < N → YieldAt F (n - 1) P l (encs x) W1 fun e W' =>
      (e = .returned (.bool true) ∧ J (pre ++ [x]) W' ∧ St W') ∨ (e = .returned (.bool false) ∧ Jx (pre ++ [x]) W')) →
    J [] W → St W →
    CallsIn F n P g (#[.func (.yield l) #[] #[]] ++ lb) W fun e W' => (∃ v, e = .returned v) ∧ ((∃ xs, Sf xs ∧ J xs W') ∨ (∃ pre, Sp pre ∧ Jx pre W'))

/-- How a round may be left. -/
def GoodPost {α : Type} (S : Nat → Prop) (St : World → Prop) (I : List α → World → Prop) (Ix : Code → List α → World → Prop) (xs : List α) (W : World) : Exit → Act → World → Prop
  | .normal, _, W' => Keeps S W W' ∧ St W' ∧ I xs W'
  | .ret, _, W' => Keeps S W W' ∧ Ix .ret xs W'
  | .exit id, _, W' => Keeps S W W' ∧ Ix (.exit id) xs W'
  | .goto t, _, W' => Keeps S W W' ∧ Ix (.goto t) xs W'
  | .panic _, _, _ => False
  | .outgrown, _, _ => False

theorem keeps_putObj (W : World) (l : Nat) (o : Obj) : Keeps (One l) W (W.putObj l o) :=
  ⟨rfl, rfl, rfl, by simp [World.putObj], fun _ _ h => World.putObj_heap_other h⟩

variable {F : Fence} {n : Nat} {P : Program}

theorem range_good {α : Type} {g : Operand} {ps : Array Tmp} {assign body : Code} {Q : Exit → Act → World → Prop} {a : Act} {w : World}
    (hro : F.round = Option.none) (h1 : 1 ≤ n) {gf : Nat} {lb : Array Value} (hg : a.eval g = .func (.func gf) #[] lb) (hFg : F.fn gf) (eg : ∀ args w, (callFunc gf args).run P w = .ok (.enter gf args) w)
    {encs : α → Array Value} {G : List α → α → World → World → Prop} {St : World → Prop} {Sf Sp : List α → Prop} {N : Nat} (hseq : SeqG F (n - 1) P gf lb encs G St Sf Sp N) (hps : ∀ x, (encs x).size = ps.size)
    (B : Nat) (hB : w.heap.size = B) (I : List α → World → Prop) (Ix : Code → List α → World → Prop) (S : Nat → Prop) (hS : ¬ S B ∧ ¬ S (B + 1))
    (hI : ∀ pre A C, I pre A → Keeps (One (B + 1)) A C → I pre C) (hIx : ∀ c pre A C, Ix c pre A → Keeps (One (B + 1)) A C → Ix c pre C)
    (hSt : ∀ A C, St A → Keeps (One (B + 1)) A C → St C) (h0 : I [] w) (hs0 : St w) (T₀ : α → Array Value) (hT₀ : ∀ x, (ps.zip (encs x)).foldl (fun t (p, v) => t.setIfInBounds p v) a.tmps = T₀ x)
    (hround : ∀ (pre : List α) (x : α) (W0 W : World), I pre W0 → Keeps None W0 W → G pre x W0 W → St W → pre.length < N → B + 1 < W0.heap.size →
      assign.wpIn (F.inRound (B + 1)) (n - 1 - 1) P (Exit.then (fun a₁ w₁ => Keeps None W w₁ ∧ ∀ w₂, Keeps (One (B + 1)) w₁ w₂ → body.wpIn (F.inRound (B + 1)) (n - 1 - 1) P (GoodPost S St I Ix (pre ++ [x]) w₂) a₁ w₂) (fun _ _ _ => False))
        { tmps := T₀ x, defers := [] } W)
    (hdone : ∀ (xs : List α) (W : World), Sf xs → I xs W → W.heap[B]? = some (.deferred (some [])) → Q .normal { a with defers := { target := .collected B, args := #[] } :: a.defers } W)
    (hstop : ∀ (c : Code) (pre : List α) (W : World), Sp pre → Ix c pre W → W.heap[B]? = some (.deferred (some [])) → c.wpIn F n P Q { a with defers := { target := .collected B, args := #[] } :: a.defers } W) :
    (Code.rangeFunc g ps assign body).wpIn F n P Q a w := by
  subst hB
  refine wpIn_rangeFunc fun fn hfn => ?_
  rw [hro]
  -- the loop's record, by its state
  let rec' : LoopState → Option Code → Loop := fun st pe => { state := st, pending := pe, fn, tmps := a.tmps, params := ps, assign, body, defers := w.heap.size }
  -- what stands by the loop in the world
  let At : LoopState → Option Code → World → Prop := fun st pe W => W.heap[w.heap.size + 1]? = some (.loop (rec' st pe)) ∧ W.heap[w.heap.size]? = some (.deferred (some []))
  have atKeeps : ∀ {st pe W W'} {T : Nat → Prop}, At st pe W → Keeps T W W' → ¬ T w.heap.size → ¬ T (w.heap.size + 1) → At st pe W' := fun h hk n0 n1 =>
    ⟨(hk.block _ (Array.getElem?_eq_some_iff.1 h.1).1 n1).trans h.1, (hk.block _ (Array.getElem?_eq_some_iff.1 h.2).1 n0).trans h.2⟩
  have atPut : ∀ {st pe W} (st' : LoopState) (pe' : Option Code), At st pe W → At st' pe' (W.putObj (w.heap.size + 1) (.loop (rec' st' pe'))) := fun st' pe' h =>
    ⟨World.putObj_heap_same (Array.getElem?_eq_some_iff.1 h.1).1, (World.putObj_heap_other (by omega)).trans h.2⟩
  obtain ⟨W1, hW1⟩ : ∃ W1, W1 = (w.alloc (.deferred (some []))).alloc (.loop (rec' .ready Option.none)) := ⟨_, rfl⟩
  have k1 : Keeps None w W1 := hW1 ▸ ((Keeps.refl None w).alloc _).alloc _
  have at1 : At .ready Option.none W1 := by
    subst hW1
    refine ⟨?_, (Below.heap_alloc _ _ _ (by simp)).trans (World.alloc_heap_new w _)⟩
    have := World.alloc_heap_new (w.alloc (.deferred (some []))) (.loop (rec' .ready Option.none))
    rwa [World.size_alloc] at this
  refine ⟨_, _, W1, { target := .fn (.func gf) lb, args := #[.func (.yield (w.heap.size + 1)) #[] #[]] }, W1, gf, #[.func (.yield (w.heap.size + 1)) #[] #[]] ++ lb, W1, hW1 ▸ run_enterLoop_outer _ _ _ _ _, ?_, ?_, ?_, fun _ => h1, ?_⟩
  · simp only [resolve, hg]
    simp [go_sem]
  · intro f' hf'
    simp [Target.leads] at hf'
    subst hf'
    exact hFg
  · simp [invoke, go_sem, eg]
  refine (hseq (w.heap.size + 1) (fun pre W => I pre W ∧ At .ready Option.none W) (fun pre W => ∃ c, Ix c pre W ∧ At .done (some c) W) _ (fun pre A C h hk => ⟨hI _ _ _ h.1 (hk.of_none), atKeeps h.2 hk id id⟩) ?_ ⟨hI _ _ _ h0 k1.of_none, at1⟩ (hSt _ _ hs0 k1.of_none)).mono ?_
  · rintro pre x W0 W ⟨hi, hat0⟩ hk0 hG hst hlen
    have hat := atKeeps hat0 hk0 id id
    have hlt : w.heap.size + 1 < W0.heap.size := (Array.getElem?_eq_some_iff.1 hat0.1).1
    refine ⟨_, _, _, _, run_yield hat.1 (hps x), roundIn_of_wpIn hfn (wpIn_mono (by rw [hT₀ x]; exact hround pre x W0 W hi hk0 hG hst hlen hlt) ?_)⟩
    rintro e a₁ w₁ hpost
    cases e with
    | normal =>
      obtain ⟨hkn, hb⟩ := hpost
      have hat1 := atKeeps hat hkn id id
      refine ⟨_, run_beginRound hat1.1 rfl, ?_⟩
      have hatb := atPut .busy Option.none hat1
      refine wpIn_mono (hb _ (keeps_putObj _ _ _)) ?_
      have fin : ∀ (jump : Option Code) (W3 : World), Keeps S (w₁.putObj (w.heap.size + 1) (.loop (rec' .busy Option.none))) W3 →
          (Instr.endRound (w.heap.size + 1) jump).run P W3 = .ok (.bool jump.isNone) (W3.putObj (w.heap.size + 1) (.loop (rec' (if jump.isNone then .ready else .done) jump))) ∧
          At (if jump.isNone then .ready else .done) jump (W3.putObj (w.heap.size + 1) (.loop (rec' (if jump.isNone then .ready else .done) jump))) := fun jump W3 hk3 => by
        have h3 := atKeeps hatb hk3 hS.1 hS.2
        exact ⟨run_endRound jump h3.1, atPut _ _ h3⟩
      rintro e a3 W3 hp
      cases e with
      | normal =>
        obtain ⟨hk3, hs3, hi3⟩ := hp
        obtain ⟨hr, h4⟩ := fin Option.none W3 hk3
        exact ⟨_, _, hr, .inl ⟨rfl, ⟨hI _ _ _ hi3 (keeps_putObj _ _ _), h4⟩, hSt _ _ hs3 (keeps_putObj _ _ _)⟩⟩
      | ret =>
        obtain ⟨hr, h4⟩ := fin (some .ret) W3 hp.1
        exact ⟨_, _, hr, .inr ⟨rfl, .ret, hIx _ _ _ _ hp.2 (keeps_putObj _ _ _), h4⟩⟩
      | exit id =>
        obtain ⟨hr, h4⟩ := fin (some (.exit id)) W3 hp.1
        exact ⟨_, _, hr, .inr ⟨rfl, .exit id, hIx _ _ _ _ hp.2 (keeps_putObj _ _ _), h4⟩⟩
      | goto t =>
        obtain ⟨hr, h4⟩ := fin (some (.goto t)) W3 hp.1
        exact ⟨_, _, hr, .inr ⟨rfl, .goto t, hIx _ _ _ _ hp.2 (keeps_putObj _ _ _), h4⟩⟩
      | panic ch => exact hp.elim
      | outgrown => exact hp.elim
    | _ => exact hpost.elim
  · rintro e W2 ⟨⟨v, rfl⟩, (⟨xs, hSf, hi, hat⟩ | ⟨pre, hSp, c, hi, hat⟩)⟩
    · exact ⟨Option.none, _, run_endLoop hat.1 (by simp [rec']), hdone xs _ hSf (hI _ _ _ hi (keeps_putObj _ _ _)) ((World.putObj_heap_other (by omega)).trans hat.2)⟩
    · exact ⟨some c, _, run_endLoop hat.1 (by simp [rec']), hstop c pre _ hSp (hIx _ _ _ _ hi (keeps_putObj _ _ _)) ((World.putObj_heap_other (by omega)).trans hat.2)⟩
end Go.Proofs.Ytghbgcmhahndkaa
