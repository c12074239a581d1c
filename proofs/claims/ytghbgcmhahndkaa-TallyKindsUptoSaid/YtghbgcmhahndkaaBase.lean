/- Words and small lemmas of my own for the walks of this seat: cells that hold numbers, blocks that are known whole, and the frame 'all but these blocks is as it was'. -/
import Derived.Test.YtghbgcmhahndkaaProg
import Derived.WalkKit
import Derived.Deep.LoopGhost
import Derived.Deep.QuietTactic
import Derived.BigQuiet
import Derived.Lib.Hide
import Derived.Laws.CopyOwn
namespace Go.Proofs.Ytghbgcmhahndkaa
open Go.RowKit

/-! ### The frame: what was there, but for the blocks of S, is as it was. -/
structure Keeps (S : Nat → Prop) (w w' : World) : Prop where
  os : w'.os = w.os
  tape : w'.tape = w.tape
  output : w'.output = w.output
  size : w.heap.size ≤ w'.heap.size
  block : ∀ k, k < w.heap.size → ¬ S k → w'.heap[k]? = w.heap[k]?

/-- New blocks alone. -/
def None : Nat → Prop := fun _ => False
/-- One block alone. -/
def One (g : Nat) : Nat → Prop := fun k => k = g

theorem Keeps.refl (S : Nat → Prop) (w : World) : Keeps S w w := ⟨rfl, rfl, rfl, Nat.le_refl _, fun _ _ _ => rfl⟩
theorem Keeps.trans {S : Nat → Prop} {a b c : World} (h : Keeps S a b) (k : Keeps S b c) : Keeps S a c :=
  ⟨k.os.trans h.os, k.tape.trans h.tape, k.output.trans h.output, Nat.le_trans h.size k.size,
    fun i hi hs => (k.block i (Nat.lt_of_lt_of_le hi h.size) hs).trans (h.block i hi hs)⟩
theorem Keeps.mono {S T : Nat → Prop} {w w' : World} (h : Keeps S w w') (hT : ∀ k, k < w.heap.size → S k → T k) : Keeps T w w' :=
  ⟨h.os, h.tape, h.output, h.size, fun k hk hn => h.block k hk fun hs => hn (hT k hk hs)⟩
/-- What comes behind may turn whatever was not there at the beginning. -/
theorem Keeps.andThen {S T : Nat → Prop} {a b c : World} (h : Keeps S a b) (k : Keeps T b c) (hT : ∀ i, i < a.heap.size → T i → S i) : Keeps S a c :=
  ⟨k.os.trans h.os, k.tape.trans h.tape, k.output.trans h.output, Nat.le_trans h.size k.size,
    fun i hi hs => (k.block i (Nat.lt_of_lt_of_le hi h.size) (fun ht => hs (hT i hi ht))).trans (h.block i hi hs)⟩
theorem Keeps.of_none {S : Nat → Prop} {w w' : World} (h : Keeps None w w') : Keeps S w w' := h.mono (fun _ _ f => f.elim)
theorem Keeps.alloc {S : Nat → Prop} {a w : World} (h : Keeps S a w) (o : Obj) : Keeps S a (w.alloc o) :=
  h.andThen (T := None) ⟨rfl, rfl, rfl, by simp, fun k hk _ => Below.heap_alloc _ _ _ hk⟩ (fun _ _ f => f.elim)
theorem Keeps.drew {S : Nat → Prop} {a w : World} (h : Keeps S a w) : Keeps S a w.drew := ⟨h.os, h.tape, h.output, h.size, h.block⟩
theorem Keeps.drewN {S : Nat → Prop} {a w : World} (h : Keeps S a w) (n : Nat) : Keeps S a (w.drewN n) := ⟨h.os, h.tape, h.output, h.size, h.block⟩
theorem Keeps.setCell {S : Nat → Prop} {a w : World} (h : Keeps S a w) (p : Addr) (u : Value) (hp : p.block < a.heap.size → S p.block) : Keeps S a (w.setCell p u) :=
  h.andThen (T := One p.block) ⟨rfl, rfl, rfl, by simp [World.setCell], fun k _ hn => Below.heap_setCell _ _ _ _ hn⟩ (fun i hi e => by cases e; exact hp hi)
theorem Keeps.grown {S : Nat → Prop} {a w w' : World} {row : Option Nat} (h : Keeps S a w) (hg : w.grownBy w' row) (hr : ∀ k, row = some k → k < a.heap.size → S k) : Keeps S a w' :=
  h.andThen (T := fun k => row = some k) ⟨hg.os, hg.tape, hg.output, hg.size, fun k hk hn => hg.block k hk (fun e => hn e.symm)⟩ (fun i hi e => hr i e hi)
theorem Keeps.to_below {w w' : World} (h : Keeps None w w') : Below w.heap.size w w' := ⟨h.os, h.tape, h.output, h.size, fun k hk => h.block k hk id⟩
theorem Keeps.below {S : Nat → Prop} {w w' : World} (h : Keeps S w w') {B : Nat} (hB : B ≤ w.heap.size) (hS : ∀ k, k < B → ¬ S k) : Below B w w' :=
  ⟨h.os, h.tape, h.output, h.size, fun k hk => h.block k (Nat.lt_of_lt_of_le hk hB) (hS k hk)⟩
theorem Keeps.of_below {S : Nat → Prop} {a w w' : World} {B : Nat} (h : Keeps S a w) (hb : Below B w w') (hB : ∀ k, k < a.heap.size → B ≤ k → S k) : Keeps S a w' :=
  h.andThen (T := fun k => B ≤ k) ⟨hb.os, hb.tape, hb.output, hb.size, fun k _ hn => hb.block k (by omega)⟩ hB
theorem Keeps.cell {S : Nat → Prop} {w w' : World} (h : Keeps S w w') {p : Addr} {v : Value} (hc : w.cell? p = some v) (hp : ¬ S p.block) : w'.cell? p = some v :=
  (World.cell?_of_block (w := w) (h.block p.block (World.block_lt_of_cell? w _ hc) hp)).trans hc

/-! ### Cells that hold numbers -/
/-- The cells behind a slice's address hold these numbers, in their order. -/
def Nums (k : IntKind) (w : World) (A : Option Addr) (zs : List Int) : Prop :=
  ∀ j, j < zs.length → ∃ b o, A = some ⟨b, o, none⟩ ∧ w.cell? ⟨b, o + j, none⟩ = some (.int k (zs.getD j 0))

/-- The slice's block, if it has one that is known, is none of these. -/
def Off (A : Option Addr) (S : Nat → Prop) : Prop := ∀ b o, A = some ⟨b, o, none⟩ → ¬ S b

theorem Off.none_ (A : Option Addr) : Off A None := fun _ _ _ f => f.elim

theorem Nums.at {k : IntKind} {w : World} {A : Option Addr} {zs : List Int} (h : Nums k w A zs) (j : Nat) (hj : j < zs.length) :
    ∃ b o, A = some ⟨b, o, none⟩ ∧ w.cell? ⟨b, o + j, none⟩ = some (.int k (zs[j]?.getD 0)) := by
  obtain ⟨b, o, h1, h2⟩ := h j hj
  exact ⟨b, o, h1, by simpa [List.getD] using h2⟩
/-- An element by a name of its own: the walk does not spell it otherwise. -/
theorem Nums.get {k : IntKind} {w : World} {A : Option Addr} {zs : List Int} (h : Nums k w A zs) (j : Nat) (hj : j < zs.length) :
    ∃ x b o, A = some ⟨b, o, none⟩ ∧ w.cell? ⟨b, o + j, none⟩ = some (.int k x) ∧ Hid (zs[j]? = some x) := by
  obtain ⟨b, o, h1, h2⟩ := h j hj
  exact ⟨zs[j], b, o, h1, by simpa [List.getD, hj] using h2, Lib.hid (List.getElem?_eq_getElem hj)⟩
theorem take_succ_of {α : Type} {zs : List α} {j : Nat} {x : α} (h : zs[j]? = some x) : zs.take (j + 1) = zs.take j ++ [x] := by
  obtain ⟨hj, e⟩ := List.getElem?_eq_some_iff.1 h
  rw [List.take_succ_eq_append_getElem hj, e]
theorem Nums.nil (k : IntKind) (w : World) (A : Option Addr) : Nums k w A [] := fun j hj => by simp at hj
theorem Nums.of_block {k : IntKind} {w w' : World} {A : Option Addr} {zs : List Int} (h : Nums k w A zs) (hb : ∀ b o, A = some ⟨b, o, none⟩ → b < w.heap.size → w'.heap[b]? = w.heap[b]?) : Nums k w' A zs := by
  intro j hj
  obtain ⟨b, o, h1, h2⟩ := h j hj
  refine ⟨b, o, h1, ?_⟩
  rw [← h2]
  exact World.cell?_of_block (w := w) (hb b o h1 (World.block_lt_of_cell? w _ h2))
theorem Nums.keeps {k : IntKind} {S : Nat → Prop} {w w' : World} {A : Option Addr} {zs : List Int} (h : Nums k w A zs) (hk : Keeps S w w') (hA : Off A S) : Nums k w' A zs :=
  h.of_block fun b o e hlt => hk.block b hlt (hA b o e)
theorem Nums.grew {k : IntKind} {w w' : World} {A : Option Addr} {zs : List Int} (h : Nums k w A zs) (hk : Keeps None w w') : Nums k w' A zs := h.keeps hk (Off.none_ A)
theorem Nums.lt {k : IntKind} {w : World} {zs : List Int} {b o : Nat} (h : Nums k w (some ⟨b, o, none⟩) zs) (h0 : 0 < zs.length) : b < w.heap.size := by
  obtain ⟨b', o', h1, h2⟩ := h 0 h0
  cases h1
  exact World.block_lt_of_cell? w _ h2
/-- Where there is an element the block is one that was there: so a block that is new is another. -/
theorem Nums.take {k : IntKind} {w : World} {A : Option Addr} {zs : List Int} (h : Nums k w A zs) (n : Nat) : Nums k w A (zs.take n) := by
  intro j hj
  have hj' : j < n ∧ j < zs.length := by simpa [List.length_take, Nat.lt_min] using hj
  obtain ⟨b, o, h1, h2⟩ := h j hj'.2
  refine ⟨b, o, h1, ?_⟩
  rw [h2]; simp [List.getD, hj'.1]
theorem Nums.drop {k : IntKind} {w : World} {b o : Nat} {zs : List Int} (h : Nums k w (some ⟨b, o, none⟩) zs) (n : Nat) : Nums k w (some ⟨b, o + n, none⟩) (zs.drop n) := by
  intro j hj
  obtain ⟨b', o', h1, h2⟩ := h (n + j) (by simp at hj; omega)
  cases h1
  refine ⟨b, o + n, rfl, ?_⟩
  rw [Nat.add_assoc, h2]; simp [List.getD]

/-- The source's side of a copy or an append. -/
theorem Nums.src {k : IntKind} {w : World} {A : Option Addr} {zs : List Int} (h : Nums k w A zs) (h0 : 0 < (zs.map (Value.int k)).length) :
    ∃ ad, A = some ad ∧ ∀ j v, (zs.map (Value.int k))[j]? = some v → w.cell? (ad.add j) = some v := by
  obtain ⟨b, o, rfl, _⟩ := h 0 (by simpa using h0)
  refine ⟨_, rfl, fun j v hv => ?_⟩
  have hj : j < zs.length := by have := (List.getElem?_eq_some_iff.1 hv).1; simpa using this
  obtain ⟨b', o', e, hc⟩ := h j hj
  cases e
  rw [Addr.add_lit, hc, ← hv]
  simp [List.getD, hj]

theorem copy_len (k : IntKind) (zs : List Int) (m : Nat) (h : zs.length ≤ m) : (zs.map (Value.int k)).length = Nat.min zs.length m := by
  rw [List.length_map]; exact (Nat.min_eq_left h).symm
theorem copy_fits (k : IntKind) (zs : List Int) (cs : List Value) (h : zs.length ≤ cs.length) : 0 + (zs.map (Value.int k)).length ≤ cs.length := by simpa using h

/-! ### Blocks that are known whole -/
/-- Block g is known whole: these cells, of element type t, nothing frozen. -/
def Blk (w : World) (g : Nat) (t : TypeId) (cs : List Value) : Prop := w.heap[g]? = some (.cells cs.toArray t (0, 0))

theorem Blk.raw {w : World} {g : Nat} {t : TypeId} {cs : List Value} (h : Blk w g t cs) : w.heap[g]? = some (.cells cs.toArray t (0, 0)) := h
theorem Blk.lt {w : World} {g : Nat} {t : TypeId} {cs : List Value} (h : Blk w g t cs) : g < w.heap.size := lt_of_block h
theorem Blk.cell {w : World} {g : Nat} {t : TypeId} {cs : List Value} (h : Blk w g t cs) (j : Nat) (v : Value) (hv : cs[j]? = some v) : w.cell? ⟨g, j, none⟩ = some v := by
  rw [cell_of_row w g j _ t _ h]; simpa using hv
theorem Blk.has {w : World} {g : Nat} {t : TypeId} {cs : List Value} (h : Blk w g t cs) (j : Nat) (hj : j < cs.length) : ∃ v, w.cell? ⟨g, j, none⟩ = some v := ⟨_, h.cell j _ (List.getElem?_eq_getElem hj)⟩
theorem Blk.free {w : World} {g : Nat} {t : TypeId} {cs : List Value} (h : Blk w g t cs) (j : Nat) : w.frozen? ⟨g, j, none⟩ = false := frozen_of_row w g j _ t h
theorem Blk.set {w : World} {g : Nat} {t : TypeId} {cs : List Value} (h : Blk w g t cs) (j : Nat) (v : Value) : Blk (w.setCell ⟨g, j, none⟩ v) g t (cs.set j v) := by
  unfold Blk; rw [heap_setCell_same w g j _ t v h]; simp
theorem Blk.other {w : World} {g : Nat} {t : TypeId} {cs : List Value} (h : Blk w g t cs) (a : Addr) (v : Value) (ha : g ≠ a.block) : Blk (w.setCell a v) g t cs := by
  unfold Blk; rw [heap_setCell_other w a g v ha]; exact h
theorem Blk.of_block {w w' : World} {g : Nat} {t : TypeId} {cs : List Value} (h : Blk w g t cs) (hb : w'.heap[g]? = w.heap[g]?) : Blk w' g t cs := by
  unfold Blk; rw [hb]; exact h
theorem Blk.alloc {w : World} {g : Nat} {t : TypeId} {cs : List Value} (h : Blk w g t cs) (o : Obj) : Blk (w.alloc o) g t cs := h.of_block (Below.heap_alloc w o g h.lt)
theorem Blk.keeps {S : Nat → Prop} {w w' : World} {g : Nat} {t : TypeId} {cs : List Value} (h : Blk w g t cs) (hk : Keeps S w w') (hg : ¬ S g) : Blk w' g t cs := h.of_block (hk.block g h.lt hg)
theorem Blk.grew {w w' : World} {g : Nat} {t : TypeId} {cs : List Value} (h : Blk w g t cs) (hk : Keeps None w w') : Blk w' g t cs := h.keeps hk id
theorem Blk.setRow {w : World} {g : Nat} {t : TypeId} {cs : List Value} (h : Blk w g t cs) (cs' : List Value) : Blk (w.setRow g cs'.toArray) g t cs' := setRow_heap w g _ _ t _ h
theorem Keeps.setRow {S : Nat → Prop} {a w : World} (h : Keeps S a w) (g : Nat) (cs : Array Value) (hg : g < a.heap.size → S g) : Keeps S a (w.setRow g cs) :=
  h.andThen (T := One g) ⟨rfl, rfl, rfl, by simp [World.setRow], fun k _ hn => setRow_other w g k cs hn⟩ (fun i hi e => by cases e; exact hg hi)
theorem Blk.new (w : World) (t : TypeId) (cs : List Value) : Blk (w.alloc (.cells cs.toArray t)) w.heap.size t cs := heap_alloc_new w _
theorem Blk.of_full {w : World} {base e : Nat} {g n : Nat} {xs : List Value} (h : w.ownsRow base e 1 (.slice (some ⟨g, 0, none⟩) n n) n xs) : Blk w g e xs := by
  obtain ⟨h1, h2 | ⟨g', cap, cur, hv, hb, hg, hn, hc, hs, ht⟩⟩ := h
  · simp at h2
  · cases hv
    have e1 : cur.toList = xs := by
      rw [← ht]; exact (List.take_of_length_le (by simp; omega)).symm
    unfold Blk
    rw [hg, ← e1]
/-- A slice's cells out of a block that is known whole. -/
theorem Blk.nums {w : World} {g : Nat} {t : TypeId} {k : IntKind} {cs : List Value} (h : Blk w g t cs) (o : Nat) (zs : List Int) (hz : (cs.drop o).take zs.length = zs.map (Value.int k)) : Nums k w (some ⟨g, o, none⟩) zs := by
  intro j hj
  refine ⟨g, o, rfl, h.cell _ _ ?_⟩
  have e1 : ((cs.drop o).take zs.length)[j]? = (zs.map (Value.int k))[j]? := by rw [hz]
  rw [List.getElem?_take, if_pos hj, List.getElem?_drop] at e1
  rw [e1]
  simp [List.getD, hj]

/-! ### Numbers in a slot -/
theorem ret_int {k : IntKind} {a b : Int} (h : a = b) : Ending.returned (.int k a) = .returned (.int k b) := by rw [h]
theorem ret_bool {a b : Bool} (h : a = b) : Ending.returned (.bool a) = .returned (.bool b) := by rw [h]

/-- Two numbers' tests in the walk's spellings. -/
theorem test_eq {a b : Int} (h : a = b) : (a == b) = true ∧ (a != b) = false := by subst h; simp
theorem test_ne {a b : Int} (h : ¬ a = b) : (a == b) = false ∧ (a != b) = true := by simp [h]
theorem Drew.grew {w w' : World} (h : ∃ n, w' = w.drewN n) : Keeps None w w' := by obtain ⟨n, rfl⟩ := h; exact (Keeps.refl None w).drewN n

/-- Only draws. -/
structure Drew (w w' : World) : Prop where mk :: (out : ∃ n, w' = w.drewN n)
theorem Drew.refl (w : World) : Drew w w := ⟨0, rfl⟩
theorem Drew.of (w : World) (n : Nat) : Drew w (w.drewN n) := ⟨n, rfl⟩
theorem Drew.more {w w' : World} (h : Drew w w') (n : Nat) : Drew w (w'.drewN n) := by
  obtain ⟨m, rfl⟩ := h.out; exact ⟨m + n, by simp⟩
theorem Drew.keeps {w w' : World} (h : Drew w w') (S : Nat → Prop) : Keeps S w w' := by
  obtain ⟨n, rfl⟩ := h.out; exact (Keeps.refl S w).drewN n
theorem Drew.heap {w w' : World} (h : Drew w w') : w'.heap = w.heap := by obtain ⟨n, rfl⟩ := h.out; rfl

end Go.Proofs.Ytghbgcmhahndkaa
