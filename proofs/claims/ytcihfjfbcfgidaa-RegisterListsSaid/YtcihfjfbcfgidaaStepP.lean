/- One step of both machines, what the calls tell put together. -/
import Derived.Test.YtcihfjfbcfgidaaNear
namespace Go.Proofs.Ytcihfjfbcfgidaa
open Go.RowKit
set_option linter.unusedVariables false

theorem len_filter_le {α : Type} (p : α → Bool) (l : List α) : (l.filter p).length ≤ l.length := List.length_filter_le _ _
theorem lnO_begin (h : Hd) (round : Int) (ph : Ph) : lnO (beginF h round ph).2.2 ≤ h.grp.length := by
  cases ph <;> simp only [beginF] <;> (try split) <;> simp [lnO]
theorem lnO_tick (h : Hd) (round : Int) (ph : Ph) : lnO (tickF h round ph) ≤ h.grp.length := by
  cases ph <;> simp [tickF, lnO, missA, missS, List.length_filter_le]
theorem lnO_second (h : Hd) (round : Int) (l : List Ans) : lnO (secondF h round l).2.2 ≤ h.grp.length := by
  unfold secondF
  simp only
  split
  · simp [lnO]
  · split
    · simp [lnO]
    · split <;> simp [lnO]
theorem lnO_take (h : Hd) (round : Int) (ph : Ph) (kind s : Int) (st : Int × Int) (ds : List Int) (fits : Bool) : lnO (takeF h round ph kind s st ds fits).2.2 ≤ h.grp.length := by
  unfold takeF
  split
  · cases ph with
    | fresh => simp [lnO]
    | asking qs =>
      simp only [askF]
      split
      · simp [lnO]
      · split
        · simp [lnO]
        · exact lnO_second _ _ _
    | laying ss tag d =>
      simp only [layF]
      repeat (split; simp [lnO])
      all_goals simp [lnO]
    | ended e t d => simp [lnO]
  · simp [lnO]

theorem OutAt.keeps {S : Nat → Prop} {w w' : World} {B : Nat} {h : Hd} {u : Value} {o : OutS} (ho : OutAt w B h u o) (hk : Keeps S w w') (hS : ∀ b, B ≤ b → b < w.heap.size → ¬ S b) : OutAt w' B h u o := by
  cases o with
  | no => exact ho
  | msgs kind round tag zs l =>
    obtain ⟨ms, hm⟩ := ho
    exact ⟨ms, hm.keeps hk hS⟩

/-- The program's machine has taken its step, the document's not yet. -/
structure Half (w : World) (base lo : Nat) (X : Nat → Prop) (g : Nat) (Z W : Nat → Prop) (r : Nat) (h : Hd) (round : Int) (ph : Ph) (round' : Int) (ph' : Ph) (B : Nat) (u : Value) (o : OutS) : Prop where
  p : Mach w base X g h round' ph'
  r : RMach w base Z W r h round ph
  apart : ∀ b, (X b ∨ b = g) → ¬ Z b
  out : OutAt w B h u o
  low : ∀ b, Z b → b < lo
  hlo : lo ≤ B
theorem Bo.first {w1 w2 : World} {base : Nat} {X : Nat → Prop} {g : Nat} {Z W : Nat → Prop} {r : Nat} {h : Hd} {round : Int} {ph : Ph} {round' : Int} {ph' : Ph} {o : OutS} {e : Ending} (hB : Bo w1 base X g Z W r h round ph) (hp : StepEnd w1 base X g h round' ph' o e w2) :
    ∃ X' B u, e = .returned u ∧ Half w2 base w1.heap.size X' g Z W r h round ph round' ph' B u o ∧ (∀ b, X' b → X b ∨ w1.heap.size ≤ b) ∧ Keeps (fun b => base ≤ b) w1 w2 ∧ Keeps (fun b => X b ∨ b = g) w1 w2 := by
  obtain ⟨X', B, u, rfl, hM, hO, hX1, hX2, hX3, hs, hk⟩ := hp
  refine ⟨X', B, u, rfl, ⟨hM, ?_, ?_, hO, fun b hb => (hB.r.Z b hb).2, hs⟩, hX2, ?_, hk⟩
  · exact hB.r.keeps hk (fun b hb f => hB.apart b f hb) (fun b f => by
      rcases f with f | rfl
      · exact (hB.p.X b f).1
      · exact hB.p.g.2)
  · intro b hb hz
    rcases hb with hb | rfl
    · rcases hX2 b hb with f | f
      · exact hB.apart b (.inl f) hz
      · have := (hB.r.Z b hz).2; omega
    · exact hB.apart _ (.inr rfl) hz
  · exact hk.mono (fun b _ f => by
      rcases f with f | rfl
      · exact (hB.p.X b f).1
      · exact hB.p.g.2)
theorem Half.keeps {S : Nat → Prop} {w w' : World} {base lo : Nat} {X : Nat → Prop} {g : Nat} {Z W : Nat → Prop} {r : Nat} {h : Hd} {round : Int} {ph : Ph} {round' : Int} {ph' : Ph} {B : Nat} {u : Value} {o : OutS} (hH : Half w base lo X g Z W r h round ph round' ph' B u o) (hk : Keeps S w w') (h1 : ∀ b, (X b ∨ b = g) → ¬ S b) (h2 : ∀ b, Z b → ¬ S b) (h3 : ∀ b, S b → base ≤ b) (h4 : ∀ b, B ≤ b → b < w.heap.size → ¬ S b) : Half w' base lo X g Z W r h round ph round' ph' B u o :=
  ⟨hH.p.keeps hk (fun b f => h1 b (.inl f)) (h1 g (.inr rfl)), hH.r.keeps hk h2 h3, hH.apart, hH.out.keeps hk h4, hH.low, hH.hlo⟩
theorem Half.grew {w w' : World} {base lo : Nat} {X : Nat → Prop} {g : Nat} {Z W : Nat → Prop} {r : Nat} {h : Hd} {round : Int} {ph : Ph} {round' : Int} {ph' : Ph} {B : Nat} {u : Value} {o : OutS} (hH : Half w base lo X g Z W r h round ph round' ph' B u o) (hk : Keeps None w w') : Half w' base lo X g Z W r h round ph round' ph' B u o :=
  hH.keeps hk (fun _ _ => id) (fun _ _ => id) (fun _ f => f.elim) (fun _ _ _ => id)
theorem Half.second {w w' : World} {base lo : Nat} {X : Nat → Prop} {g : Nat} {Z W : Nat → Prop} {r : Nat} {h : Hd} {round : Int} {ph : Ph} {round' : Int} {ph' : Ph} {B : Nat} {u : Value} {o : OutS} {e : Ending} (hH : Half w base lo X g Z W r h round ph round' ph' B u o) (hr : RStep w base Z W r h round' ph' o e w') :
    ∃ Z' W' u', e = .returned u' ∧ Bo w' base X g Z' W' r h round' ph' ∧ See w' h u o ∧ See w' h u' o ∧ (∀ b, Z' b → Z b ∨ w.heap.size ≤ b) ∧ Keeps W w w' := by
  obtain ⟨Z', W', u', rfl, hR, hS, hZ1, hZ2, hk⟩ := hr
  have hWZ : ∀ b, W b → Z b := hH.r.W
  refine ⟨Z', W', u', rfl, ⟨?_, hR, ?_⟩, ?_, hS, hZ2, hk⟩
  · exact hH.p.keeps hk (fun b hb f => hH.apart b (.inl hb) (hWZ b f)) (fun f => hH.apart g (.inr rfl) (hWZ g f))
  · intro b hb hz
    rcases hZ2 b hz with f | f
    · exact hH.apart b hb f
    · rcases hb with hb | rfl
      · have := (hH.p.X b hb).2; omega
      · have := hH.p.lt; omega
  · refine (hH.out.keeps hk (fun b h1 _ f => by have := hH.low b (hWZ b f); have := hH.hlo; omega)).see (fun kind round tag zs l e => ?_)
    subst e
    obtain ⟨_, _, _, hz, _⟩ := hS
    exact hz

/-- One step's end: what grew, what was written. -/
def Step7 (base : Nat) (X : Nat → Prop) (g : Nat) (Z : Nat → Prop) (r : Nat) (h : Hd) (w : World) (e : Ending) (w' : World) : Prop :=
  e = .returned (.bool true) ∧ ∃ X' Z' W round ph, Bo w' base X' g Z' W r h round ph ∧ (∀ b, X' b → X b ∨ w.heap.size ≤ b) ∧ (∀ b, Z' b → Z b ∨ w.heap.size ≤ b) ∧ Keeps (fun b => X b ∨ b = g ∨ Z b) w w'
theorem Bo.base_le {w : World} {base : Nat} {X : Nat → Prop} {g : Nat} {Z W : Nat → Prop} {r : Nat} {h : Hd} {round : Int} {ph : Ph} (hB : Bo w base X g Z W r h round ph) : base ≤ w.heap.size := by
  have := hB.p.lt
  have := hB.p.g.2
  omega
end Go.Proofs.Ytcihfjfbcfgidaa
