/- RegisterLists' plain part: what is told stays beside both machines; the list of all that was told. -/
import Derived.Test.YtcihfjfbcfgidaaGrownM
import Derived.Test.YtcihfjfbcfgidaaStepP
import Derived.Test.YtcihfjfbcfgidaaTallyBlk
namespace Go.Proofs.Ytcihfjfbcfgidaa.GM
open Go.RowKit
set_option linter.unusedVariables false

theorem rows_apart {w : World} {B B' e e' s s' n n' : Nat} {v v' : Value} {xs xs' : List Value} (h : w.ownsRow B e s v n xs) (h' : w.ownsRow B' e' s' v' n' xs') (he : e ≠ e') {b : Nat} (hb : v.ownBlock = some b) : v'.ownBlock ≠ some b := fun hb' => by
  obtain ⟨c1, h1⟩ := owns_obj h hb
  obtain ⟨c2, h2⟩ := owns_obj h' hb'
  rw [h1] at h2
  cases h2
  exact he rfl
section
variable {w w' : World} {B : Nat} {rs : Lot} {al : Value}
theorem Many.snoc {u : Value} {zs : List (List Value)} (h : Many w B rs) (hu : MRow w B u zs) (hf : ∀ b, OwnM rs b → u.ownBlock ≠ some b) : Many w B (rs ++ [(u, zs)]) := by
  refine ⟨fun i v ys e => ?_, fun i j v ys x xs b e1 e2 hij hb hx => ?_⟩
  · by_cases hi : i < rs.length
    · rw [List.getElem?_append_left hi] at e
      exact h.row i v ys e
    · rw [List.getElem?_append_right (by omega)] at e
      have : i - rs.length = 0 := by
        have := (List.getElem?_eq_some_iff.1 e).1
        simp at this; omega
      rw [this] at e
      simp at e
      rw [← e.1, ← e.2]
      exact hu
  · have last : ∀ {i : Nat} {v : Value} {ys : List (List Value)}, (rs ++ [(u, zs)])[i]? = some (v, ys) → rs[i]? = some (v, ys) ∨ (i = rs.length ∧ v = u) := fun {i v ys} e => by
      by_cases hi : i < rs.length
      · rw [List.getElem?_append_left hi] at e
        exact .inl e
      · rw [List.getElem?_append_right (by omega)] at e
        have : i - rs.length = 0 := by
          have := (List.getElem?_eq_some_iff.1 e).1
          simp at this; omega
        rw [this] at e
        simp at e
        exact .inr ⟨by omega, e.1.symm⟩
    rcases last e1 with q1 | ⟨q1, rfl⟩ <;> rcases last e2 with q2 | ⟨q2, rfl⟩
    · exact h.far i j v ys x xs b q1 q2 hij hb hx
    · exact hf b ⟨i, v, ys, q1, hb⟩ hx
    · exact hf b ⟨j, x, xs, q2, hx⟩ hb
    · omega
theorem OwnM.snoc {u : Value} {zs : List (List Value)} {b : Nat} (h : OwnM (rs ++ [(u, zs)]) b) : OwnM rs b ∨ u.ownBlock = some b := by
  obtain ⟨i, v, ys, e, hb⟩ := h
  by_cases hi : i < rs.length
  · rw [List.getElem?_append_left hi] at e
    exact .inl ⟨i, v, ys, e, hb⟩
  · rw [List.getElem?_append_right (by omega)] at e
    have : i - rs.length = 0 := by
      have := (List.getElem?_eq_some_iff.1 e).1
      simp at this; omega
    rw [this] at e
    simp at e
    rw [← e.1] at hb
    exact .inr hb

/-- All that was told, and the list of it. -/
structure Al (B : Nat) (rs : Lot) (al : Value) (w : World) : Prop where
  many : Many w B rs
  all : w.ownsRow B 55 1 al rs.length (rs.map (·.1))
  short : ∀ (j : Nat) v zs, rs[j]? = some (v, zs) → zs.length ≤ 1000000
theorem Al.grew (h : Al B rs al w) (hk : Keeps None w w') : Al B rs al w' := ⟨h.many.keeps hk (fun _ _ f => f), owns_grew h.all hk, h.short⟩
theorem Al.manyLt (h : Al B rs al w) {b : Nat} (hb : OwnM rs b) : B ≤ b ∧ b < w.heap.size := by
  obtain ⟨i, v, zs, e, hb⟩ := hb
  exact (h.many.row i v zs e).lt b hb
theorem Al.none (w : World) (B : Nat) : Al B [] (.slice Option.none 0 0) w := ⟨⟨fun i v zs e => by simp at e, fun i j v zs u ys b e => by simp at e⟩, World.ownsRow_nil _ _ _ _, fun j v zs e => by simp at e⟩
theorem Al.lies {A : Option Addr} {n c : Nat} (h : Al B rs (.slice A n c) w) : Lies w A rs := fun i v zs e => by
  have hil := (List.getElem?_eq_some_iff.1 e).1
  obtain ⟨gk, c', e', hc⟩ := owns_at h.all (by omega)
  cases e'
  exact ⟨gk, 0, rfl, fun ⟨j, u, ys, e1, e2⟩ => rows_apart h.all (h.many.row j u ys e1).own (by decide) rfl e2, by rw [Nat.zero_add]; exact hc i v (by rw [List.getElem?_map, e]; rfl)⟩
/-- One more slice comes to the list. -/
theorem Al.push {w1 w2 : World} {u al' : Value} {zs : List (List Value)} (h : Al B rs al w1) (hu : MRow w1 B u zs) (hf : ∀ b, OwnM rs b → u.ownBlock ≠ some b) (hz : zs.length ≤ 1000000)
    (hown : w2.ownsRow B 55 1 al' (rs.length + 1) (rs.map (·.1) ++ [u])) (hk : Keeps (OwnB al) w1 w2) : Al B (rs ++ [(u, zs)]) al' w2 := by
  have t1 : ∀ b, OwnM rs b → ¬ OwnB al b := fun b ⟨i, v, ys, e, hb⟩ hb' => rows_apart h.all (h.many.row i v ys e).own (by decide) hb' hb
  have t2 : ∀ b, u.ownBlock = some b → ¬ OwnB al b := fun b hb hb' => rows_apart h.all hu.own (by decide) hb' hb
  refine ⟨(h.many.keeps hk t1).snoc (hu.keeps hk t2) hf, by simpa using hown, fun j v ys e => ?_⟩
  by_cases hi : j < rs.length
  · rw [List.getElem?_append_left hi] at e
    exact h.short j v ys e
  · rw [List.getElem?_append_right (by omega)] at e
    have : j - rs.length = 0 := by
      have := (List.getElem?_eq_some_iff.1 e).1
      simp at this; omega
    rw [this] at e
    simp at e
    rw [← e.2]
    exact hz
end

end Go.Proofs.Ytcihfjfbcfgidaa.GM
namespace Go.Proofs.Ytcihfjfbcfgidaa
open Go.RowKit GM

theorem nearF_wf {grp : List Int} {fi : Int} (hg : ∀ s ∈ grp, (Lit.int .i64 s).wf = true) (hf : (Lit.int .i64 fi).wf = true) : (Lit.int .i64 (nearF grp fi)).wf = true := by
  unfold nearF
  split
  · exact hf
  · rw [List.getD_eq_getElem?_getD]
    cases hx : grp[(restF fi grp.length).toNat]? with
    | none => simp only [Option.getD_none]; decide
    | some v => exact hg v (List.mem_of_getElem? hx)
/-- What is told, as a row of messages. -/
theorem flat_tells (kind client op round k0 k1 k2 k3 s1 s2 : Int) (ms : List (Int × Value)) : tellsCells kind client op round k0 k1 k2 k3 s1 s2 ms = (ms.map (tellCells kind client op round k0 k1 k2 k3 s1 s2)).flatten := by
  unfold tellsCells
  rw [List.flatMap_def]
theorem OutAt.mrow {w : World} {B : Nat} {h : Hd} {u : Value} {o : OutS} (ho : OutAt w B h u o) : ∃ zs, MRow w B u zs ∧ zs.length = lnO o := by
  cases o with
  | no => obtain rfl : u = .slice Option.none 0 0 := ho; exact ⟨[], ⟨World.ownsRow_nil _ _ _ _, fun r hr => by cases hr⟩, rfl⟩
  | msgs kind round tag zs l =>
    obtain ⟨ms, hm⟩ := ho
    refine ⟨ms.map (tellCells kind h.client h.op round h.k0 h.k1 h.k2 h.k3 tag.1 tag.2), ⟨?_, fun r hr => ?_⟩, ?_⟩
    · rw [List.length_map, ← flat_tells]; exact hm.own
    · obtain ⟨m, _, rfl⟩ := List.mem_map.1 hr; rfl
    · rw [List.length_map]
      show ms.length = l.length
      rw [← hm.to, List.length_map]

/-- The blocks that a machine of either kind holds. -/
def My (X : Nat → Prop) (g : Nat) (Z : Nat → Prop) : Nat → Prop := fun b => X b ∨ b = g ∨ Z b
/-- What was told at T's time lies in blocks from B1 on; what was there has been turned below alone; the machines' blocks lie elsewhere. -/
structure Pend (T w : World) (B1 : Nat) (h : Hd) (u : Value) (o : OutS) (P : Nat → Prop) : Prop where
  out : OutAt T B1 h u o
  keeps : Keeps (fun b => b < B1) T w
  far : ∀ b, P b → b < B1 ∨ T.heap.size ≤ b
theorem Pend.out_ {T w : World} {B1 : Nat} {h : Hd} {u : Value} {o : OutS} {P : Nat → Prop} (hp : Pend T w B1 h u o P) : OutAt w B1 h u o := hp.out.keeps hp.keeps (fun b h1 _ f => by omega)
theorem Pend.go {T w w' : World} {B1 : Nat} {h : Hd} {u : Value} {o : OutS} {P P' S : Nat → Prop} (hp : Pend T w B1 h u o P) (hk : Keeps S w w') (hS : ∀ b, b < w.heap.size → S b → b < B1 ∨ T.heap.size ≤ b) (hP : ∀ b, P' b → P b ∨ w.heap.size ≤ b) : Pend T w' B1 h u o P' :=
  ⟨hp.out, hp.keeps.andThen hk (fun i hi f => by have := hp.keeps.size; rcases hS i (by omega) f with q | q <;> omega), fun b f => by
    have := hp.keeps.size
    rcases hP b f with q | q
    · exact hp.far b q
    · omega⟩
theorem Pend.grew {T w w' : World} {B1 : Nat} {h : Hd} {u : Value} {o : OutS} {P : Nat → Prop} (hp : Pend T w B1 h u o P) (hk : Keeps None w w') : Pend T w' B1 h u o P := hp.go hk (fun _ _ f => f.elim) (fun b f => .inl f)

/-- The program's machine has taken its step. -/
theorem Bo.tell {w1 w2 : World} {base : Nat} {X : Nat → Prop} {g : Nat} {Z W : Nat → Prop} {r : Nat} {h : Hd} {round : Int} {ph : Ph} {round' : Int} {ph' : Ph} {o : OutS} {e : Ending} (hB : Bo w1 base X g Z W r h round ph) (hp : StepEnd w1 base X g h round' ph' o e w2) :
    ∃ X' B1 u, e = .returned u ∧ Half w2 base w1.heap.size X' g Z W r h round ph round' ph' B1 u o ∧ Pend w2 w2 B1 h u o (My X' g Z) ∧ w1.heap.size ≤ B1 ∧ (∀ b, My X' g Z b → My X g Z b ∨ w1.heap.size ≤ b) ∧ Keeps (My X g Z) w1 w2 := by
  have hg := hB.p.lt
  obtain ⟨X', B, u, e1, hM, hO, hX1, hX2, hX3, hs, hk⟩ := hp
  obtain ⟨X2, B2, u2, e2, hH, hXn, -, -⟩ := hB.first ⟨X', B, u, e1, hM, hO, hX1, hX2, hX3, hs, hk⟩
  clear hH hXn e2 X2 B2 u2
  refine ⟨X', B, u, e1, ⟨hM, ?_, ?_, hO, fun b hb => (hB.r.Z b hb).2, hs⟩, ⟨hO, Keeps.refl _ _, ?_⟩, hs, ?_, hk.mono (fun b _ f => f.elim .inl (fun f => .inr (.inl f)))⟩
  · exact hB.r.keeps hk (fun b hb f => hB.apart b f hb) (fun b f => by
      rcases f with f | rfl
      · exact (hB.p.X b f).1
      · exact hB.p.g.2)
  · intro b hb hz
    rcases hb with hb | rfl
    · rcases hX2 b hb with f | f
      · exact hB.apart b (.inl f) hz
      · have := (hB.r.Z b hz).2; omega
    · exact hB.apart _ (.inr rfl) hz
  · intro b f
    rcases f with f | rfl | f
    · exact .inl (hX3 b f)
    · exact .inl (by omega)
    · have := (hB.r.Z b f).2; exact .inl (by omega)
  · intro b f
    rcases f with f | rfl | f
    · rcases hX2 b f with q | q
      · exact .inl (.inl q)
      · exact .inr q
    · exact .inl (.inr (.inl rfl))
    · exact .inl (.inr (.inr f))
/-- The document's machine has taken its step too. -/
theorem Half.tell {w w' : World} {base lo : Nat} {X : Nat → Prop} {g : Nat} {Z W : Nat → Prop} {r : Nat} {h : Hd} {round : Int} {ph : Ph} {round' : Int} {ph' : Ph} {B : Nat} {u : Value} {o o' : OutS} {e : Ending} (hH : Half w base lo X g Z W r h round ph round' ph' B u o) (hr : RStep w base Z W r h round' ph' o' e w') :
    ∃ Z' W' u', e = .returned u' ∧ Bo w' base X g Z' W' r h round' ph' ∧ See w' h u' o' ∧ (∀ b, My X g Z' b → My X g Z b ∨ w.heap.size ≤ b) ∧ Keeps (My X g Z) w w' := by
  obtain ⟨Z', W', u', rfl, hR, hS, hZ1, hZ2, hk⟩ := hr
  have hWZ : ∀ b, W b → Z b := hH.r.W
  refine ⟨Z', W', u', rfl, ⟨?_, hR, ?_⟩, hS, ?_, hk.mono (fun b _ f => .inr (.inr (hWZ b f)))⟩
  · exact hH.p.keeps hk (fun b hb f => hH.apart b (.inl hb) (hWZ b f)) (fun f => hH.apart g (.inr rfl) (hWZ g f))
  · intro b hb hz
    rcases hZ2 b hz with f | f
    · exact hH.apart b hb f
    · rcases hb with hb | rfl
      · have := (hH.p.X b hb).2; omega
      · have := hH.p.lt; omega
  · intro b f
    rcases f with f | f | f
    · exact .inl (.inl f)
    · exact .inl (.inr (.inl f))
    · rcases hZ2 b f with q | q
      · exact .inl (.inr (.inr q))
      · exact .inr q
/-- The document's machine alone. -/
theorem Bo.rtell {w w' : World} {base : Nat} {X : Nat → Prop} {g : Nat} {Z W : Nat → Prop} {r : Nat} {h : Hd} {round : Int} {ph : Ph} {o' : OutS} {e : Ending} (hB : Bo w base X g Z W r h round ph) (hr : RStep w base Z W r h round ph o' e w') :
    ∃ Z' W' u', e = .returned u' ∧ Bo w' base X g Z' W' r h round ph ∧ See w' h u' o' ∧ (∀ b, My X g Z' b → My X g Z b ∨ w.heap.size ≤ b) ∧ Keeps (My X g Z) w w' :=
  Half.tell (lo := w.heap.size) (B := w.heap.size) (u := .slice Option.none 0 0) (o := .no) ⟨hB.p, hB.r, hB.apart, rfl, fun b hb => (hB.r.Z b hb).2, Nat.le_refl _⟩ hr
theorem Bo.my {w : World} {base : Nat} {X : Nat → Prop} {g : Nat} {Z W : Nat → Prop} {r : Nat} {h : Hd} {round : Int} {ph : Ph} (hB : Bo w base X g Z W r h round ph) : ∀ b, My X g Z b → base ≤ b ∧ b < w.heap.size := by
  intro b f
  rcases f with f | rfl | f
  · exact hB.p.X b f
  · exact ⟨hB.p.g.2, hB.p.lt⟩
  · exact hB.r.Z b f
theorem Bo.keepsMy {S : Nat → Prop} {w w' : World} {base : Nat} {X : Nat → Prop} {g : Nat} {Z W : Nat → Prop} {r : Nat} {h : Hd} {round : Int} {ph : Ph} (hb : Bo w base X g Z W r h round ph) (hk : Keeps S w w') (h1 : ∀ b, My X g Z b → ¬ S b) (h3 : ∀ b, S b → base ≤ b) : Bo w' base X g Z W r h round ph :=
  hb.keeps hk (fun b f => h1 b (f.elim .inl (fun f => .inr (.inl f)))) (fun b f => h1 b (.inr (.inr f))) h3

/-- All that was told lies apart from both machines. -/
structure Far (B : Nat) (rs : Lot) (al : Value) (w : World) (P : Nat → Prop) : Prop where
  lst : Al B rs al w
  far : ∀ b, (OwnM rs b ∨ OwnB al b) → ¬ P b
theorem Far.alLt {B : Nat} {rs : Lot} {al : Value} {w : World} {P : Nat → Prop} (h : Far B rs al w P) {b : Nat} (hb : OwnM rs b ∨ OwnB al b) : B ≤ b ∧ b < w.heap.size := by
  rcases hb with hb | hb
  · exact h.lst.manyLt hb
  · exact World.ownsRow.lt h.lst.all b hb
theorem Far.go {B : Nat} {rs : Lot} {al : Value} {w w' : World} {P P' S : Nat → Prop} (h : Far B rs al w P) (hk : Keeps S w w') (hS : ∀ b, S b → P b) (hP : ∀ b, P' b → P b ∨ w.heap.size ≤ b) : Far B rs al w' P' := by
  refine ⟨⟨h.lst.many.keeps hk (fun b f s => h.far b (.inl f) (hS b s)), owns_keeps h.lst.all hk (fun b e s => h.far b (.inr e) (hS b s)), h.lst.short⟩, fun b f p => ?_⟩
  rcases hP b p with q | q
  · exact h.far b f q
  · have := (h.alLt f).2; omega
theorem Far.grew {B : Nat} {rs : Lot} {al : Value} {w w' : World} {P : Nat → Prop} (h : Far B rs al w P) (hk : Keeps None w w') : Far B rs al w' P := h.go hk (fun _ f => f.elim) (fun _ f => .inl f)
theorem Far.none (w : World) (B : Nat) (P : Nat → Prop) : Far B [] (.slice Option.none 0 0) w P := ⟨Al.none w B, fun b f => by
  rcases f with ⟨i, v, zs, e, _⟩ | f
  · simp at e
  · simp [OwnB, Value.ownBlock] at f⟩
/-- One more comes to the list: told from B1 on, where all older lies below. -/
theorem Far.push {B B1 : Nat} {rs : Lot} {al al' u : Value} {T w w1 w2 : World} {h : Hd} {o : OutS} {P : Nat → Prop} (hF : Far B rs al w P) (hp : Pend T w B1 h u o P) (hold : ∀ b, (OwnM rs b ∨ OwnB al b) → b < B1) (hBB : B ≤ B1) (hl : lnO o ≤ 1000000) (hA : Keeps None w w1)
    (hown : w2.ownsRow B 55 1 al' (rs.length + 1) (rs.map (·.1) ++ [u])) (hk : Keeps (OwnB al) w1 w2) (hloc : al'.ownBlock = al.ownBlock ∨ al'.ownBlock = some w1.heap.size) (hPw : ∀ b, P b → b < w.heap.size) : ∃ zs, Far B (rs ++ [(u, zs)]) al' w2 P := by
  obtain ⟨zs, hR, hz⟩ := OutAt.mrow hp.out_
  have hs1 := hA.size
  have hRT : ∀ b, u.ownBlock = some b → b < T.heap.size := fun b e => by
    obtain ⟨zs', hR', _⟩ := OutAt.mrow hp.out
    exact (hR'.lt b e).2
  have hRB : MRow w1 B u zs := ⟨owns_base (owns_grew hR.own hA) (fun b e => by have := (hR.lt b e).1; omega), hR.len⟩
  have hAl := (hF.lst.grew hA).push hRB (fun b hb e => by have := hold b (.inl hb); have := (hR.lt b e).1; omega) (by omega) hown hk
  refine ⟨zs, hAl, fun b f p => ?_⟩
  rcases f with f | f
  · rcases f.snoc with q | q
    · exact hF.far b (.inl q) p
    · have h1 := (hR.lt b q).1
      have h2 := hRT b q
      rcases hp.far b p with q | q <;> omega
  · rcases hloc with l | l
    · exact hF.far b (.inr (show al.ownBlock = some b from l ▸ f)) p
    · rw [OwnB, l] at f
      cases f
      have := hPw _ p
      omega

/-- What stands beside the machines: the block of both, the list of all that was told. -/
structure Side (w0 w : World) (Bt y g r : Nat) (rs : Lot) (al : Value) (P : Nat → Prop) : Prop where
  blk : Blk w y 75 [.iface 104 (.pointer (some ⟨g, 0, Option.none⟩)), .pointer (some ⟨r, 0, Option.none⟩)]
  off : ¬ P y
  far : Far Bt rs al w P
  keeps : Keeps None w0 w
  new : ∀ b, P b → w0.heap.size ≤ b
  low : w0.heap.size ≤ Bt ∧ Bt ≤ w.heap.size ∧ y < Bt
section
variable {w0 w w' : World} {Bt y g r : Nat} {rs : Lot} {al : Value} {P P' : Nat → Prop}
theorem Side.go (h : Side w0 w Bt y g r rs al P) (hk : Keeps P w w') (hP : ∀ b, P' b → P b ∨ w.heap.size ≤ b) : Side w0 w' Bt y g r rs al P' := by
  have hs := h.keeps.size
  have hyl := h.blk.lt
  refine ⟨h.blk.keeps hk h.off, fun f => ?_, h.far.go hk (fun _ f => f) hP, h.keeps.andThen hk (fun i hi f => by have := h.new i f; omega), fun b f => ?_, h.low.1, Nat.le_trans h.low.2.1 hk.size, h.low.2.2⟩
  · rcases hP y f with q | q
    · exact h.off q
    · omega
  · rcases hP b f with q | q
    · exact h.new b q
    · omega
theorem Side.grew (h : Side w0 w Bt y g r rs al P) (hk : Keeps None w w') : Side w0 w' Bt y g r rs al P := h.go hk.of_none (fun _ f => .inl f)
theorem Side.push {B1 : Nat} {al' u : Value} {T w1 w2 : World} {hh : Hd} {o : OutS} (h : Side w0 w Bt y g r rs al P) (hp : Pend T w B1 hh u o P) (hold : ∀ b, (OwnM rs b ∨ OwnB al b) → b < B1) (hBB : Bt ≤ B1) (hl : lnO o ≤ 1000000) (hA : Keeps None w w1)
    (hown : w2.ownsRow Bt 55 1 al' (rs.length + 1) (rs.map (·.1) ++ [u])) (hk : Keeps (OwnB al) w1 w2) (hloc : al'.ownBlock = al.ownBlock ∨ al'.ownBlock = some w1.heap.size) (hPw : ∀ b, P b → b < w.heap.size) : ∃ zs, Side w0 w2 Bt y g r (rs ++ [(u, zs)]) al' P := by
  obtain ⟨zs, hF⟩ := h.far.push hp hold hBB hl hA hown hk hloc hPw
  have hal := fun b (f : OwnB al b) => (h.far.alLt (.inr f))
  have hl := h.low
  refine ⟨zs, (h.blk.grew hA).keeps hk (fun f => by have := hal y f; omega), h.off, hF, (h.keeps.trans hA).andThen hk (fun i hi f => by have := hal i f; omega), h.new, hl.1, by have := hA.size; have := hk.size; omega, hl.2.2⟩
theorem Side.rsLt (h : Side w0 w Bt y g r rs al P) {B1 : Nat} (hB : w.heap.size ≤ B1) : ∀ b, (OwnM rs b ∨ OwnB al b) → b < B1 := fun b f => Nat.lt_of_lt_of_le (h.far.alLt f).2 hB
end
end Go.Proofs.Ytcihfjfbcfgidaa
