/- A range over a function, its elements with memory of their own (XRangeGood), where the round and what stands between the rounds are told of the loop's own record: as a loop of its own, and within a round of another. -/
import Derived.Test.YtcplogdaepmpnaaRangeGood
import Derived.Test.YtcplogdaepmpnaaRoundQuiet
import Derived.Test.YtcplogdaepmpnaaWLast
import Derived.RangeFuncNested
namespace Go.Proofs.Ytcplogdaepmpnaa
open Go.RowKit

variable {F : Fence} {n : Nat} {P : Program}
def Rec (l : Nat) (W : World) : Prop := ∃ r, W.heap[l]? = some (.loop r)

theorem range_good2 {α : Type} {g : Operand} {ps : Array Tmp} {assign body : Code} {Q : Exit → Act → World → Prop} {a : Act} {w : World}
    (hro : F.round = Option.none) (h1 : 1 ≤ n) {gf : Nat} {lb : Array Value} (hg : a.eval g = .func (.func gf) #[] lb) (hFg : F.fn gf) (eg : ∀ args w, (callFunc gf args).run P w = .ok (.enter gf args) w)
    {encs : α → Array Value} {G : List α → α → World → World → Prop} {St : World → Prop} {Sf Sp : List α → Prop} {N : Nat} (hseq : SeqG F (n - 1) P gf lb encs G St Sf Sp N) (hps : ∀ x, (encs x).size = ps.size)
    (B : Nat) (hB : w.heap.size = B) (I : List α → World → Prop) (Ix : Code → List α → World → Prop) (S : Nat → Prop) (hS : ¬ S B ∧ ¬ S (B + 1))
    (hI0 : ∀ A C, I [] A → Keeps None A C → I [] C) (hI : ∀ pre A C, I pre A → Rec (B + 1) A → Keeps (One (B + 1)) A C → I pre C) (hIn : ∀ pre A C, I pre A → Keeps None A C → I pre C) (hIx : ∀ c pre A C, Ix c pre A → Rec (B + 1) A → Keeps (One (B + 1)) A C → Ix c pre C)
    (hSt : ∀ A C, St A → Rec (B + 1) A → Keeps (One (B + 1)) A C → St C) (hSt0 : ∀ A C, St A → Keeps None A C → St C) (h0 : I [] w) (hs0 : St w) (T₀ : α → Array Value) (hT₀ : ∀ x, (ps.zip (encs x)).foldl (fun t (p, v) => t.setIfInBounds p v) a.tmps = T₀ x)
    (hround : ∀ (pre : List α) (x : α) (W0 W : World), I pre W0 → Keeps None W0 W → G pre x W0 W → St W → pre.length < N → B + 1 < W0.heap.size →
      assign.wpIn (F.inRound (B + 1)) (n - 1 - 1) P (Exit.then (fun a₁ w₁ => Keeps None W w₁ ∧ ∀ w₂, Rec (B + 1) w₁ → Rec (B + 1) w₂ → Keeps (One (B + 1)) w₁ w₂ → body.wpIn (F.inRound (B + 1)) (n - 1 - 1) P (GoodPost S St I Ix (pre ++ [x]) w₂) a₁ w₂) (fun _ _ _ => False))
        { tmps := T₀ x, defers := [] } W)
    (hdone : ∀ (xs : List α) (W : World), Sf xs → I xs W → W.heap[B]? = some (.deferred (some [])) → Q .normal { a with defers := { target := .collected B, args := #[] } :: a.defers } W)
    (hstop : ∀ (c : Code) (pre : List α) (W : World), Sp pre → Ix c pre W → W.heap[B]? = some (.deferred (some [])) → c.wpIn F n P Q { a with defers := { target := .collected B, args := #[] } :: a.defers } W) :
    (Code.rangeFunc g ps assign body).wpIn F n P Q a w := by
  subst hB
  refine wpIn_rangeFunc fun fn hfn => ?_
  rw [hro]
  -- the loop's record, by its state
  let rec' : LoopState → Option Code → Loop := fun st pe => { state := st, pending := pe, fn, tmps := a.tmps, params := ps, assign, body, defers := w.heap.size }
  -- what stands by the loop in the world
  let At : LoopState → Option Code → World → Prop := fun st pe W => W.heap[w.heap.size + 1]? = some (.loop (rec' st pe)) ∧ W.heap[w.heap.size]? = some (.deferred (some []))
  have atKeeps : ∀ {st pe W W'} {T : Nat → Prop}, At st pe W → Keeps T W W' → ¬ T w.heap.size → ¬ T (w.heap.size + 1) → At st pe W' := fun h hk n0 n1 =>
    ⟨(hk.block _ (Array.getElem?_eq_some_iff.1 h.1).1 n1).trans h.1, (hk.block _ (Array.getElem?_eq_some_iff.1 h.2).1 n0).trans h.2⟩
  have atPut : ∀ {st pe W} (st' : LoopState) (pe' : Option Code), At st pe W → At st' pe' (W.putObj (w.heap.size + 1) (.loop (rec' st' pe'))) := fun st' pe' h =>
    ⟨World.putObj_heap_same (Array.getElem?_eq_some_iff.1 h.1).1, (World.putObj_heap_other (by omega)).trans h.2⟩
  obtain ⟨W1, hW1⟩ : ∃ W1, W1 = (w.alloc (.deferred (some []))).alloc (.loop (rec' .ready Option.none)) := ⟨_, rfl⟩
  have k1 : Keeps None w W1 := hW1 ▸ ((Keeps.refl None w).alloc _).alloc _
  have at1 : At .ready Option.none W1 := by
    subst hW1
    refine ⟨?_, (Below.heap_alloc _ _ _ (by simp)).trans (World.alloc_heap_new w _)⟩
    have := World.alloc_heap_new (w.alloc (.deferred (some []))) (.loop (rec' .ready Option.none))
    rwa [World.size_alloc] at this
  refine ⟨_, _, W1, { target := .fn (.func gf) lb, args := #[.func (.yield (w.heap.size + 1)) #[] #[]] }, W1, gf, #[.func (.yield (w.heap.size + 1)) #[] #[]] ++ lb, W1, hW1 ▸ run_enterLoop_outer _ _ _ _ _, ?_, ?_, ?_, fun _ => h1, ?_⟩
  · simp only [resolve, hg]
    simp [go_sem]
  · intro f' hf'
    simp [Target.leads] at hf'
    subst hf'
    exact hFg
  · simp [invoke, go_sem, eg]
  refine (hseq (w.heap.size + 1) (fun pre W => I pre W ∧ At .ready Option.none W) (fun pre W => ∃ c, Ix c pre W ∧ At .done (some c) W) _ (fun pre A C h hk => ⟨hIn _ _ _ h.1 hk, atKeeps h.2 hk id id⟩) ?_ ⟨hI0 _ _ h0 k1, at1⟩ (hSt0 _ _ hs0 k1)).mono ?_
  · rintro pre x W0 W ⟨hi, hat0⟩ hk0 hG hst hlen
    have hat := atKeeps hat0 hk0 id id
    have hlt : w.heap.size + 1 < W0.heap.size := (Array.getElem?_eq_some_iff.1 hat0.1).1
    refine ⟨_, _, _, _, run_yield hat.1 (hps x), roundIn_of_wpIn hfn (wpIn_mono (by rw [hT₀ x]; exact hround pre x W0 W hi hk0 hG hst hlen hlt) ?_)⟩
    rintro e a₁ w₁ hpost
    cases e with
    | normal =>
      obtain ⟨hkn, hb⟩ := hpost
      have hat1 := atKeeps hat hkn id id
      refine ⟨_, run_beginRound hat1.1 rfl, ?_⟩
      have hatb := atPut .busy Option.none hat1
      refine wpIn_mono (hb _ ⟨_, hat1.1⟩ ⟨_, hatb.1⟩ (keeps_putObj _ _ _)) ?_
      have fin : ∀ (jump : Option Code) (W3 : World), Keeps S (w₁.putObj (w.heap.size + 1) (.loop (rec' .busy Option.none))) W3 →
          (Instr.endRound (w.heap.size + 1) jump).run P W3 = .ok (.bool jump.isNone) (W3.putObj (w.heap.size + 1) (.loop (rec' (if jump.isNone then .ready else .done) jump))) ∧
          At (if jump.isNone then .ready else .done) jump (W3.putObj (w.heap.size + 1) (.loop (rec' (if jump.isNone then .ready else .done) jump))) := fun jump W3 hk3 => by
        have h3 := atKeeps hatb hk3 hS.1 hS.2
        exact ⟨run_endRound jump h3.1, atPut _ _ h3⟩
      rintro e a3 W3 hp
      cases e with
      | normal =>
        obtain ⟨hk3, hs3, hi3⟩ := hp
        obtain ⟨hr, h4⟩ := fin Option.none W3 hk3
        have hR3 : Rec (w.heap.size + 1) W3 := ⟨_, (atKeeps hatb hk3 hS.1 hS.2).1⟩
        exact ⟨_, _, hr, .inl ⟨rfl, ⟨hI _ _ _ hi3 hR3 (keeps_putObj _ _ _), h4⟩, hSt _ _ hs3 hR3 (keeps_putObj _ _ _)⟩⟩
      | ret =>
        obtain ⟨hr, h4⟩ := fin (some .ret) W3 hp.1
        exact ⟨_, _, hr, .inr ⟨rfl, .ret, hIx _ _ _ _ hp.2 ⟨_, (atKeeps hatb hp.1 hS.1 hS.2).1⟩ (keeps_putObj _ _ _), h4⟩⟩
      | exit id =>
        obtain ⟨hr, h4⟩ := fin (some (.exit id)) W3 hp.1
        exact ⟨_, _, hr, .inr ⟨rfl, .exit id, hIx _ _ _ _ hp.2 ⟨_, (atKeeps hatb hp.1 hS.1 hS.2).1⟩ (keeps_putObj _ _ _), h4⟩⟩
      | goto t =>
        obtain ⟨hr, h4⟩ := fin (some (.goto t)) W3 hp.1
        exact ⟨_, _, hr, .inr ⟨rfl, .goto t, hIx _ _ _ _ hp.2 ⟨_, (atKeeps hatb hp.1 hS.1 hS.2).1⟩ (keeps_putObj _ _ _), h4⟩⟩
      | panic ch => exact hp.elim
      | outgrown => exact hp.elim
    | _ => exact hpost.elim
  · rintro e W2 ⟨⟨v, rfl⟩, (⟨xs, hSf, hi, hat⟩ | ⟨pre, hSp, c, hi, hat⟩)⟩
    · exact ⟨Option.none, _, run_endLoop hat.1 (by simp [rec']), hdone xs _ hSf (hI _ _ _ hi ⟨_, hat.1⟩ (keeps_putObj _ _ _)) ((World.putObj_heap_other (by omega)).trans hat.2)⟩
    · exact ⟨some c, _, run_endLoop hat.1 (by simp [rec']), hstop c pre _ hSp (hIx _ _ _ _ hi ⟨_, hat.1⟩ (keeps_putObj _ _ _)) ((World.putObj_heap_other (by omega)).trans hat.2)⟩
/-- Within a round of loop l₀: one block is laid, its own record; no mark. -/
theorem range_goodN {α : Type} {g : Operand} {ps : Array Tmp} {assign body : Code} {Q : Exit → Act → World → Prop} {a : Act} {w : World}
    {l₀ : Nat} {r₀ : Loop} (hro : F.round = some l₀) (hl₀ : w.heap[l₀]? = some (.loop r₀)) (h1 : 1 ≤ n) {gf : Nat} {lb : Array Value} (hg : a.eval g = .func (.func gf) #[] lb) (hFg : F.fn gf) (eg : ∀ args w, (callFunc gf args).run P w = .ok (.enter gf args) w)
    {encs : α → Array Value} {G : List α → α → World → World → Prop} {St : World → Prop} {Sf Sp : List α → Prop} {N : Nat} (hseq : SeqG F (n - 1) P gf lb encs G St Sf Sp N) (hps : ∀ x, (encs x).size = ps.size)
    (B : Nat) (hB : w.heap.size = B) (I : List α → World → Prop) (Ix : Code → List α → World → Prop) (S : Nat → Prop) (hS : ¬ S B)
    (hI0 : ∀ A C, I [] A → Keeps None A C → I [] C) (hI : ∀ pre A C, I pre A → Rec (B) A → Keeps (One (B)) A C → I pre C) (hIn : ∀ pre A C, I pre A → Keeps None A C → I pre C) (hIx : ∀ c pre A C, Ix c pre A → Rec (B) A → Keeps (One (B)) A C → Ix c pre C)
    (hSt : ∀ A C, St A → Rec (B) A → Keeps (One (B)) A C → St C) (hSt0 : ∀ A C, St A → Keeps None A C → St C) (h0 : I [] w) (hs0 : St w) (T₀ : α → Array Value) (hT₀ : ∀ x, (ps.zip (encs x)).foldl (fun t (p, v) => t.setIfInBounds p v) a.tmps = T₀ x)
    (hround : ∀ (pre : List α) (x : α) (W0 W : World), I pre W0 → Keeps None W0 W → G pre x W0 W → St W → pre.length < N → B < W0.heap.size →
      assign.wpIn (F.inRound (B)) (n - 1 - 1) P (Exit.then (fun a₁ w₁ => Keeps None W w₁ ∧ ∀ w₂, Rec (B) w₁ → Rec (B) w₂ → Keeps (One (B)) w₁ w₂ → body.wpIn (F.inRound (B)) (n - 1 - 1) P (GoodPost S St I Ix (pre ++ [x]) w₂) a₁ w₂) (fun _ _ _ => False))
        { tmps := T₀ x, defers := [] } W)
    (hdone : ∀ (xs : List α) (W : World), Sf xs → I xs W → Q .normal a W)
    (hstop : ∀ (c : Code) (pre : List α) (W : World), Sp pre → Ix c pre W → c.wpIn F n P Q a W) :
    (Code.rangeFunc g ps assign body).wpIn F n P Q a w := by
  subst hB
  refine wpIn_rangeFunc fun fn hfn => ?_
  rw [hro]
  -- the loop's record, by its state
  let rec' : LoopState → Option Code → Loop := fun st pe => { state := st, pending := pe, fn, tmps := a.tmps, params := ps, assign, body, defers := r₀.defers }
  -- what stands by the loop in the world
  let At : LoopState → Option Code → World → Prop := fun st pe W => W.heap[w.heap.size]? = some (.loop (rec' st pe))
  have atKeeps : ∀ {st pe W W'} {T : Nat → Prop}, At st pe W → Keeps T W W' → ¬ T w.heap.size → At st pe W' := fun h hk n0 =>
    (hk.block _ (Array.getElem?_eq_some_iff.1 h).1 n0).trans h
  have atPut : ∀ {st pe W} (st' : LoopState) (pe' : Option Code), At st pe W → At st' pe' (W.putObj (w.heap.size) (.loop (rec' st' pe'))) := fun st' pe' h =>
    World.putObj_heap_same (Array.getElem?_eq_some_iff.1 h).1
  obtain ⟨W1, hW1⟩ : ∃ W1, W1 = w.alloc (.loop (rec' .ready Option.none)) := ⟨_, rfl⟩
  have k1 : Keeps None w W1 := hW1 ▸ (Keeps.refl None w).alloc _
  have at1 : At .ready Option.none W1 := by
    subst hW1
    exact World.alloc_heap_new w _
  refine ⟨_, _, W1, { target := .fn (.func gf) lb, args := #[.func (.yield (w.heap.size)) #[] #[]] }, W1, gf, #[.func (.yield (w.heap.size)) #[] #[]] ++ lb, W1, hW1 ▸ run_enterLoop_inner hl₀ _ _ _ _ _, ?_, ?_, ?_, fun _ => h1, ?_⟩
  · simp only [resolve, hg]
    simp [go_sem]
  · intro f' hf'
    simp [Target.leads] at hf'
    subst hf'
    exact hFg
  · simp [invoke, go_sem, eg]
  refine (hseq (w.heap.size) (fun pre W => I pre W ∧ At .ready Option.none W) (fun pre W => ∃ c, Ix c pre W ∧ At .done (some c) W) _ (fun pre A C h hk => ⟨hIn _ _ _ h.1 hk, atKeeps h.2 hk id⟩) ?_ ⟨hI0 _ _ h0 k1, at1⟩ (hSt0 _ _ hs0 k1)).mono ?_
  · rintro pre x W0 W ⟨hi, hat0⟩ hk0 hG hst hlen
    have hat := atKeeps hat0 hk0 id
    have hlt : w.heap.size < W0.heap.size := (Array.getElem?_eq_some_iff.1 hat0).1
    refine ⟨_, _, _, _, run_yield hat (hps x), roundIn_of_wpIn hfn (wpIn_mono (by rw [hT₀ x]; exact hround pre x W0 W hi hk0 hG hst hlen hlt) ?_)⟩
    rintro e a₁ w₁ hpost
    cases e with
    | normal =>
      obtain ⟨hkn, hb⟩ := hpost
      have hat1 := atKeeps hat hkn id
      refine ⟨_, run_beginRound hat1 rfl, ?_⟩
      have hatb := atPut .busy Option.none hat1
      refine wpIn_mono (hb _ ⟨_, hat1⟩ ⟨_, hatb⟩ (keeps_putObj _ _ _)) ?_
      have fin : ∀ (jump : Option Code) (W3 : World), Keeps S (w₁.putObj (w.heap.size) (.loop (rec' .busy Option.none))) W3 →
          (Instr.endRound (w.heap.size) jump).run P W3 = .ok (.bool jump.isNone) (W3.putObj (w.heap.size) (.loop (rec' (if jump.isNone then .ready else .done) jump))) ∧
          At (if jump.isNone then .ready else .done) jump (W3.putObj (w.heap.size) (.loop (rec' (if jump.isNone then .ready else .done) jump))) := fun jump W3 hk3 => by
        have h3 := atKeeps hatb hk3 hS
        exact ⟨run_endRound jump h3, atPut _ _ h3⟩
      rintro e a3 W3 hp
      cases e with
      | normal =>
        obtain ⟨hk3, hs3, hi3⟩ := hp
        obtain ⟨hr, h4⟩ := fin Option.none W3 hk3
        have hR3 : Rec (w.heap.size) W3 := ⟨_, atKeeps hatb hk3 hS⟩
        exact ⟨_, _, hr, .inl ⟨rfl, ⟨hI _ _ _ hi3 hR3 (keeps_putObj _ _ _), h4⟩, hSt _ _ hs3 hR3 (keeps_putObj _ _ _)⟩⟩
      | ret =>
        obtain ⟨hr, h4⟩ := fin (some .ret) W3 hp.1
        exact ⟨_, _, hr, .inr ⟨rfl, .ret, hIx _ _ _ _ hp.2 ⟨_, atKeeps hatb hp.1 hS⟩ (keeps_putObj _ _ _), h4⟩⟩
      | exit id =>
        obtain ⟨hr, h4⟩ := fin (some (.exit id)) W3 hp.1
        exact ⟨_, _, hr, .inr ⟨rfl, .exit id, hIx _ _ _ _ hp.2 ⟨_, atKeeps hatb hp.1 hS⟩ (keeps_putObj _ _ _), h4⟩⟩
      | goto t =>
        obtain ⟨hr, h4⟩ := fin (some (.goto t)) W3 hp.1
        exact ⟨_, _, hr, .inr ⟨rfl, .goto t, hIx _ _ _ _ hp.2 ⟨_, atKeeps hatb hp.1 hS⟩ (keeps_putObj _ _ _), h4⟩⟩
      | panic ch => exact hp.elim
      | outgrown => exact hp.elim
    | _ => exact hpost.elim
  · rintro e W2 ⟨⟨v, rfl⟩, (⟨xs, hSf, hi, hat⟩ | ⟨pre, hSp, c, hi, hat⟩)⟩
    · exact ⟨Option.none, _, run_endLoop hat (by simp [rec']), hdone xs _ hSf (hI _ _ _ hi ⟨_, hat⟩ (keeps_putObj _ _ _))⟩
    · exact ⟨some c, _, run_endLoop hat (by simp [rec']), hstop c pre _ hSp (hIx _ _ _ _ hi ⟨_, hat⟩ (keeps_putObj _ _ _))⟩

/-- An iterator's contract goes into a round as it is. -/
theorem SeqG.inRound {α : Type} {g : Nat} {lb : Array Value} {encs : α → Array Value} {G : List α → α → World → World → Prop} {St : World → Prop} {Sf Sp : List α → Prop} {N : Nat} (l : Nat) (h : SeqG F n P g lb encs G St Sf Sp N) : SeqG (F.inRound l) n P g lb encs G St Sf Sp N := h

/-! ### A drawn region walked by the plain words, in a round's frame -/
theorem uponIn_of_upon {o : Oper} {a : Act} {K : Act → World → Prop} {Q : Exit → Act → World → Prop} {r : Result Next} (h : o.upon P a K Q r) : o.uponIn Fence.wide n P a K Q r := by
  unfold Oper.upon at h
  unfold Oper.uponIn
  split at h
  · exact h
  · exact h
  · exact h
  · exact ⟨fun e => by simp [Fence.wide] at e, callsIn_wide.2 h⟩
  · refine ⟨fun e => by simp [Fence.wide] at e, fun c cs _ => ?_⟩
    obtain ⟨v, w', h1, h2⟩ := h c cs
    exact ⟨v, w', h1, stepsIn_wide.2 h2⟩
  · exact h
  · exact h.elim
theorem wpIn_of_wp {o : Oper} {a : Act} {w : World} {K : Act → World → Prop} {Q : Exit → Act → World → Prop} (h : o.wp P a w K Q) : o.wpIn Fence.wide n P a w K Q :=
  ⟨fun _ _ => trivial, by rw [show Fence.wide.round = Option.none from rfl, Oper.semAt_none]; exact uponIn_of_upon h⟩
theorem wpAnyIn_of_any {ops : Array Oper} {md : Region.Mode} {Q : Exit → Act → World → Prop} (hno : ¬ LetsOut Q) : ∀ (fuel : Nat) (listed : Array Bool) (a : Act) (w : World), wpAny P md ops Q fuel listed a w → wpAnyIn Fence.wide n P md ops Q fuel listed a w
  | 0, _, _, _, h => h
  | fuel + 1, listed, a, w, h => by
    refine ⟨h.1, fun i hi => ?_⟩
    have h2 := h.2 i hi
    unfold wpOp at h2
    unfold wpOpIn
    cases ho : ops[i]? with
    | none =>
      rw [ho] at h2
      exact wpAnyIn_of_any hno fuel _ _ _ h2
    | some o =>
      rw [ho] at h2
      simp only at h2 ⊢
      split at h2
      · rename_i hw
        rw [if_pos hw]
        rcases h2 with h2 | ⟨_, h2⟩
        · exact wpIn_of_wp (Oper.wp_mono (fun a w => wpAnyIn_of_any hno fuel _ a w) h2)
        · exact absurd h2 hno
      · rename_i hw
        rw [if_neg hw]
        exact ⟨fun _ _ => trivial, wpAnyIn_of_any hno fuel _ _ _ h2⟩
theorem start_round {id k l : Nat} {Q : Exit → Act → World → Prop} {S : World → Prop} {ds : List Nat} {os : List Oper} {a : Act} {w : World} (li : Array Bool) (hm : P.follows .mixedOrders = true) (hd : os.all noDefer = true) (hno : ¬ LetsOut Q) (hn : os.toArray.size = k) (hl : Array.replicate k false = li) (hS : S w.drew)
    (h : S w.drew → Go.Proofs.YtcplogdaepmpnaaW.PrintLast.wpAnyLast P .any os.toArray Q S ds k li a w.drew) : (Code.region id os.toArray true).wpIn (Fence.wide.inRound l) n P Q a w := by
  subst hn
  subst hl
  refine wpIn_region_any hm (wpAnyIn_round l (fun i o ho c hc => ?_) _ _ _ _ (wpAnyIn_of_any hno _ _ _ _ (Go.Proofs.YtcplogdaepmpnaaW.PrintLast.wpAny_of_last _ _ _ _ (h hS))))
  have := List.all_eq_true.1 hd o (List.mem_of_getElem? (by simpa using ho))
  simp [noDefer, hc] at this
end Go.Proofs.Ytcplogdaepmpnaa
