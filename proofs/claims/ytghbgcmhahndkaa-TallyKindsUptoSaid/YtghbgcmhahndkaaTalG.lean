/- Tallies of whatever answers: the map that lies behind, an element read as the very value that was stored; what Take, Missing and Got tell. -/
import Derived.Test.YtghbgcmhahndkaaBase
import Derived.Test.YtghbgcmhahndkaaRow
import Derived.Maps.OwnSet
import Derived.Maps.OwnOps
namespace Go.Proofs.Ytghbgcmhahndkaa.TG
open Go.RowKit Go.Maps

theorem keyI : Keyed Try.prog 3 := int_keyed Try.underlying3

/-- An element, read as the value itself. -/
def heldElem (v : Value) : Option (DataW Value × List MemPlace) := some (.held v, [])

def lookV (got : List (Int × Value)) (s : Int) : Option Value := (got.find? (fun p => p.1 == s)).map (·.2)

structure TD (D : DataW Value) (got : List (Int × Value)) : Prop where
  size : Maps.size D = got.length
  has : ∀ s, Maps.has D (.int .i64 s) = (lookV got s).isSome
  val : ∀ s c, lookV got s = some c → ∀ z, D.atKey (.int .i64 s) z = .held c

theorem lookV_nil (s : Int) : lookV [] s = none := rfl
theorem lookV_snoc (got : List (Int × Value)) (p : Int × Value) (s : Int) : lookV (got ++ [p]) s = if (lookV got s).isSome then lookV got s else if p.1 = s then some p.2 else none := by
  unfold lookV
  rw [List.find?_append]
  cases h : got.find? (fun p => p.1 == s) with
  | some q => simp
  | none =>
    simp only [Option.none_or, Option.map_none, Option.isSome_none]
    by_cases e : p.1 = s
    · simp [List.find?, e]
    · have e' : (p.1 == s) = false := by simpa using e
      simp [List.find?, e, e']
theorem lookV_mem {got : List (Int × Value)} {s : Int} {c : Value} (h : lookV got s = some c) : (s, c) ∈ got := by
  unfold lookV at h
  cases hf : got.find? (fun p => p.1 == s) with
  | none => rw [hf] at h; cases h
  | some q =>
    rw [hf] at h
    have h1 := List.mem_of_find?_eq_some hf
    have h2 := List.find?_some hf
    simp at h h2
    subst h2; subst h
    exact h1

theorem TD.nil : TD (.map []) [] := ⟨rfl, fun _ => rfl, fun s c h => by cases h⟩
theorem TD.put {D : DataW Value} {got : List (Int × Value)} (h : TD D got) (ht : Tidy D) (s : Int) (x : Value) (hs : lookV got s = none) : TD (D.put (.int .i64 s) (.held x)) (got ++ [(s, x)]) := by
  have hh := h.has s
  rw [hs] at hh
  refine ⟨?_, fun s' => ?_, fun s' c hc z => ?_⟩
  · rw [size_put ht, hh, List.length_append, h.size]; rfl
  · by_cases e : s' = s
    · subst e
      rw [has_put_same ht.isMap (by simp [WideAt.IsKeyLit]), lookV_snoc, hs]; simp
    · rw [has_put_other (by simpa using e), h.has, lookV_snoc]
      cases hl : lookV got s' with
      | some y => rfl
      | none => simp [Ne.symm e]
  · by_cases e : s' = s
    · subst e
      rw [lookV_snoc, hs] at hc
      simp at hc
      subst hc
      exact atKey_put_same ht.isMap (by simp [WideAt.IsKeyLit]) _ _
    · rw [atKey_put_other (by simpa using e)]
      rw [lookV_snoc] at hc
      refine h.val s' c ?_ z
      cases hl : lookV got s' with
      | some y => rw [hl] at hc; simpa using hc
      | none => rw [hl] at hc; simp [Ne.symm e] at hc

theorem ownsMap_block {H : Type} {P : Program} {w w' : World} {k b n : Nat} {R : Value → Option (DataW H × List MemPlace)} {D : DataW H} (h : w.ownsMap P k R b n D) (hb : b < w.heap.size → w'.heap[b]? = w.heap[b]?) : w'.ownsMap P k R b n D := by
  obtain ⟨es, clock, h1, h2⟩ := h
  exact ⟨es, clock, by rw [hb (lt_of_block h1)]; exact h1, h2⟩
/-- An empty map block. -/
theorem ownsMap_empty {w : World} {b : Nat} (h : w.heap[b]? = some (.map #[] 0)) : w.ownsMap Try.prog 3 heldElem b 0 (.map []) :=
  ⟨#[], 0, h, by
    obtain ⟨es, clock, h1, h2, h3, _⟩ := World.ownsMap_made w Try.prog 3 heldElem
    rw [heap_alloc_new] at h1
    cases h1
    exact h2, Nat.le_refl _, rfl⟩

/-- Does the answer count? -/
def takes (grp : List Int) (need : Int) (got : List (Int × Value)) (s : Int) : Bool := !(lookV got s).isSome && !(decide (need ≤ (got.length : Int))) && decide (s ∈ grp)
/-- What has come behind it. -/
def tookF (grp : List Int) (need : Int) (got : List (Int × Value)) (s : Int) (x : Value) : List (Int × Value) := if takes grp need got s then got ++ [(s, x)] else got
def TookB (grp : List Int) (need : Int) (got : List (Int × Value)) (s : Int) : Bool := takes grp need got s && decide (need ≤ (got.length : Int) + 1)
theorem tookF_len (grp : List Int) (need : Int) (got : List (Int × Value)) (s : Int) (x : Value) : (tookF grp need got s x).length ≤ got.length + 1 := by
  unfold tookF; split <;> simp

/-- What Missing tells. -/
def missF (grp : List Int) (got : List (Int × Value)) : List Int := grp.filter fun s => !(lookV got s).isSome
theorem missF_snoc (grp : List Int) (got : List (Int × Value)) (s : Int) : missF (grp ++ [s]) got = missF grp got ++ (if (lookV got s).isSome then [] else [s]) := by
  unfold missF
  rw [List.filter_append]
  cases h : lookV got s <;> simp [h]

/-- What Got goes over. -/
def hasF (grp : List Int) (got : List (Int × Value)) : List Int := grp.filter fun s => (lookV got s).isSome
def ansF (grp : List Int) (got : List (Int × Value)) : List Value := grp.filterMap (lookV got)
theorem hasF_snoc (grp : List Int) (got : List (Int × Value)) (s : Int) : hasF (grp ++ [s]) got = hasF grp got ++ (if (lookV got s).isSome then [s] else []) := by
  unfold hasF
  rw [List.filter_append]
  cases h : lookV got s <;> simp [h]
theorem ansF_snoc (grp : List Int) (got : List (Int × Value)) (s : Int) : ansF (grp ++ [s]) got = ansF grp got ++ (match lookV got s with | some c => [c] | none => []) := by
  unfold ansF
  rw [List.filterMap_append]
  cases h : lookV got s <;> simp [h]
theorem ansF_len (grp : List Int) (got : List (Int × Value)) : (ansF grp got).length = (hasF grp got).length := by
  induction grp with
  | nil => rfl
  | cons s grp ih =>
    unfold ansF hasF at *
    cases h : lookV got s <;> simp [h, ih]
theorem wanted_none {o : Oper} {y : Nat → Option Bool} (h : o.guard = Option.none) : Region.wanted o y = true := by simp [Region.wanted, h]
end Go.Proofs.Ytghbgcmhahndkaa.TG
