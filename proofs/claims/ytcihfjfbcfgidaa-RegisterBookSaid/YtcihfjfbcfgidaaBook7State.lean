/- What RegisterBook holds: three machines, all blocks that were told. -/
import Derived.Test.YtcihfjfbcfgidaaBookBlocks
import Derived.Test.YtcihfjfbcfgidaaTick
namespace Go.Proofs.Ytcihfjfbcfgidaa
open Go.RowKit

/-- The data that is told. -/
def zsO : OutS → List Int
  | .no => []
  | .msgs _ _ _ zs _ => zs
theorem OutAt.dvs {w : World} {B : Nat} {h : Hd} {u : Value} {o : OutS} (ho : OutAt w B h u o) :
    ∃ A c ds, u = .slice A (lnO o) c ∧ ds.length = lnO o ∧ Dvs w A ds ∧ (∀ d ∈ ds, Row .u8 5 w B d (zsO o)) ∧ ds.Pairwise Unlike := by
  cases o with
  | no => exact ⟨Option.none, 0, [], ho, rfl, fun j u e => by simp at e, fun d hd => by simp at hd, List.Pairwise.nil⟩
  | msgs kind round tag zs l =>
    obtain ⟨ms, hm⟩ := ho
    obtain ⟨A, c, e, hc⟩ := hm.cells
    have hlen : ms.length = l.length := by rw [← hm.to, List.length_map]
    refine ⟨A, c, ms.map (·.2), e, by rw [List.length_map]; exact hlen, fun j u hu => ?_, fun d hd => ?_, hm.apart⟩
    · have hj : j < l.length := by have := (List.getElem?_eq_some_iff.1 hu).1; simp at this; omega
      obtain ⟨b, u', hA, hms, -, hcc⟩ := hc j _ (List.getElem?_eq_getElem hj)
      rw [List.getElem?_map, hms] at hu
      obtain rfl : u' = u := by simpa using hu
      have hR := hm.data _ (List.mem_of_getElem? hms)
      obtain ⟨A2, c2, e2⟩ := hR.slice
      exact ⟨b, hA, hcc 15 _ rfl, A2, _, c2, e2⟩
    · obtain ⟨m, hm1, rfl⟩ := List.mem_map.1 hd
      exact hm.data m hm1

theorem Many.append {w : World} {B : Nat} {zs : List Int} : ∀ (ds : List Value) (rs : Lot), Many w B rs → (∀ d ∈ ds, Row .u8 5 w B d zs) → ds.Pairwise Unlike → (∀ d ∈ ds, ∀ b, OwnM rs b → d.ownBlock ≠ some b) → Many w B (rs ++ ds.map fun d => (d, zs))
  | [], rs, h, _, _, _ => by simpa using h
  | d :: ds, rs, h, hR, hU, hF => by
    have h1 := h.snoc (hR d (List.mem_cons_self ..)) (hF d (List.mem_cons_self ..))
    obtain ⟨hu1, hu2⟩ := List.pairwise_cons.1 hU
    have := Many.append ds (rs ++ [(d, zs)]) h1 (fun x hx => hR x (List.mem_cons_of_mem _ hx)) hu2 (fun x hx b hb => by
      rcases hb.snoc with q | q
      · exact hF x (List.mem_cons_of_mem _ hx) b q
      · exact hu1 x hx b q)
    simpa using this
theorem OwnM.append {rs : Lot} {ds : List Value} {zs : List Int} {b : Nat} (h : OwnM (rs ++ ds.map fun d => (d, zs)) b) : OwnM rs b ∨ ∃ d ∈ ds, d.ownBlock = some b := by
  obtain ⟨i, v, ys, e, hb⟩ := h
  by_cases hi : i < rs.length
  · rw [List.getElem?_append_left hi] at e
    exact .inl ⟨i, v, ys, e, hb⟩
  · rw [List.getElem?_append_right (by omega), List.getElem?_map] at e
    obtain ⟨d, hd, hv⟩ := Option.map_eq_some_iff.1 e
    cases hv
    exact .inr ⟨v, List.mem_of_getElem? hd, hb⟩
/-- A row of slices comes to the list. -/
theorem Al.pushN {B : Nat} {rs : Lot} {al al' : Value} {w1 w2 : World} {ds : List Value} {zs : List Int} (h : Al B rs al w1) (hR : ∀ d ∈ ds, Row .u8 5 w1 B d zs) (hU : ds.Pairwise Unlike) (hF : ∀ d ∈ ds, ∀ b, OwnM rs b → d.ownBlock ≠ some b) (hz : zs.length ≤ 140737488351232)
    (hown : w2.ownsRow B 24 1 al' (rs.length + ds.length) (rs.map (·.1) ++ ds)) (hk : Keeps (OwnB al) w1 w2) : Al B (rs ++ ds.map fun d => (d, zs)) al' w2 := by
  have t1 : ∀ b, OwnM rs b → ¬ OwnB al b := fun b ⟨i, v, ys, e, hb⟩ hb' => rows_apart h.all (h.many.row i v ys e).raw (by decide) hb' hb
  have t2 : ∀ d ∈ ds, ∀ b, d.ownBlock = some b → ¬ OwnB al b := fun d hd b hb hb' => rows_apart h.all (hR d hd).raw (by decide) hb' hb
  have hlen : (rs ++ ds.map fun d => (d, zs)).length = rs.length + ds.length := by simp
  have hmap : (rs ++ ds.map fun d => (d, zs)).map (·.1) = rs.map (·.1) ++ ds := by simp [Function.comp_def]
  refine ⟨Many.append ds rs (h.many.keeps hk t1) (fun d hd => (hR d hd).keeps hk (t2 d hd)) hU hF, by rw [hlen, hmap]; exact hown, fun j v ys e => ?_⟩
  by_cases hi : j < rs.length
  · rw [List.getElem?_append_left hi] at e
    exact h.short j v ys e
  · rw [List.getElem?_append_right (by omega), List.getElem?_map] at e
    obtain ⟨d, hd, hv⟩ := Option.map_eq_some_iff.1 e
    cases hv
    exact hz

def updN {α : Type} (f : Nat → α) (q : Nat) (x : α) : Nat → α := fun i => if i = q then x else f i
theorem updN_at {α : Type} (f : Nat → α) (q : Nat) (x : α) : updN f q x q = x := if_pos rfl
theorem updN_off {α : Type} (f : Nat → α) (q : Nat) (x : α) {i : Nat} (h : i ≠ q) : updN f q x i = f i := if_neg h

/-- The machines, where each stands, all that was told. -/
structure B7 (w0 w : World) (bm : Nat) (hd : Nat → Hd) (g : Nat → Nat) (X : Nat → Nat → Prop) (ph : Nat → Int × Ph) (rs : Lot) (al : Value) : Prop where
  cell : ∀ q, q < 3 → w.cell? ⟨bm, q, Option.none⟩ = some (.iface 104 (.pointer (some ⟨g q, 0, Option.none⟩)))
  mach : ∀ q, q < 3 → Mach w w0.heap.size (X q) (g q) (hd q) (ph q).1 (ph q).2
  apart : ∀ q r, q < 3 → r < 3 → q ≠ r → ∀ b, (X q b ∨ b = g q) → ¬ (X r b ∨ b = g r)
  offB : ∀ q, q < 3 → ∀ b, (X q b ∨ b = g q) → b ≠ bm
  bml : w0.heap.size ≤ bm ∧ bm < w.heap.size
  all : Al w0.heap.size rs al w
  offR : ∀ q, q < 3 → ∀ b, (X q b ∨ b = g q) → ¬ OwnM rs b ∧ al.ownBlock ≠ some b
  bmR : ¬ OwnM rs bm ∧ al.ownBlock ≠ some bm
  keep : Keeps None w0 w
section
variable {w0 w w' : World} {bm : Nat} {hd : Nat → Hd} {g : Nat → Nat} {X : Nat → Nat → Prop} {ph : Nat → Int × Ph} {rs : Lot} {al : Value}
theorem B7.lt (h : B7 w0 w bm hd g X ph rs al) {q : Nat} (hq : q < 3) {b : Nat} (hb : X q b ∨ b = g q) : w0.heap.size ≤ b ∧ b < w.heap.size := by
  rcases hb with hb | rfl
  · exact (h.mach q hq).X b hb
  · exact ⟨(h.mach q hq).g.2, (h.mach q hq).lt⟩
/-- Memory of others is written. -/
theorem B7.keeps {S : Nat → Prop} (h : B7 w0 w bm hd g X ph rs al) (hk : Keeps S w w') (h1 : ∀ q, q < 3 → ∀ b, (X q b ∨ b = g q) → ¬ S b) (h2 : ¬ S bm) (h3 : ∀ b, OwnM rs b → ¬ S b) (h4 : ∀ b, al.ownBlock = some b → ¬ S b) (h5 : ∀ b, S b → b < w.heap.size → w0.heap.size ≤ b) : B7 w0 w' bm hd g X ph rs al :=
  ⟨fun q hq => hk.cell (h.cell q hq) h2, fun q hq => (h.mach q hq).keeps hk (fun b hb => h1 q hq b (.inl hb)) (h1 q hq _ (.inr rfl)), h.apart, h.offB, ⟨h.bml.1, Nat.lt_of_lt_of_le h.bml.2 hk.size⟩, ⟨h.all.many.keeps hk h3, owns_keeps h.all.all hk h4, h.all.short⟩, h.offR, h.bmR,
    h.keep.andThen hk (fun i hi e => by have := h5 i e (Nat.lt_of_lt_of_le hi h.keep.size); omega)⟩
theorem B7.grew (h : B7 w0 w bm hd g X ph rs al) (hk : Keeps None w w') : B7 w0 w' bm hd g X ph rs al := h.keeps hk (fun _ _ _ _ => id) id (fun _ _ => id) (fun _ _ => id) (fun _ f => f.elim)
/-- One machine is asked. -/
theorem B7.step {q : Nat} {rd : Int} {p : Ph} {out : OutS} {e : Ending} (h : B7 w0 w bm hd g X ph rs al) (hq : q < 3) (hs : StepEnd w w0.heap.size (X q) (g q) (hd q) rd p out e w') :
    ∃ X' B u, e = .returned u ∧ OutAt w' B (hd q) u out ∧ w.heap.size ≤ B ∧ (∀ b, X' b → b < B) ∧ B7 w0 w' bm hd g (updN X q X') (updN ph q (rd, p)) rs al ∧ Keeps (fun k => X q k ∨ k = g q) w w' ∧ (∀ b, X' b → X q b ∨ w.heap.size ≤ b) := by
  obtain ⟨X', B, u, he, hM, ho, h1, h2, h3, h4, hk⟩ := hs
  have hnew : ∀ b, (X' b ∨ b = g q) → (X q b ∨ b = g q) ∨ w.heap.size ≤ b := fun b hb => by
    rcases hb with hb | hb
    · exact (h2 b hb).imp .inl id
    · exact .inl (.inr hb)
  have hX : ∀ r, r < 3 → ∀ b, (updN X q X' r b ∨ b = g r) → (X r b ∨ b = g r) ∨ (r = q ∧ w.heap.size ≤ b) := fun r hr b hb => by
    by_cases hrq : r = q
    · subst hrq
      rw [updN_at] at hb
      exact (hnew b hb).imp id (fun k => ⟨rfl, k⟩)
    · rw [updN_off _ _ _ hrq] at hb
      exact .inl hb
  have hal : ∀ b, al.ownBlock = some b → b < w.heap.size := fun b hb => (World.ownsRow.lt h.all.all b hb).2
  refine ⟨X', B, u, he, ho, h4, h3, ⟨fun r hr => hk.cell (h.cell r hr) (fun f => h.offB q hq bm f rfl), fun r hr => ?_, fun r s hr hs hrs b hb hb' => ?_, fun r hr b hb => ?_, ⟨h.bml.1, Nat.lt_of_lt_of_le h.bml.2 hk.size⟩,
    ⟨h.all.many.keeps hk (fun b hb f => (h.offR q hq b f).1 hb), owns_keeps h.all.all hk (fun b hb f => (h.offR q hq b f).2 hb), h.all.short⟩, fun r hr b hb => ?_, h.bmR, h.keep.andThen hk (fun i hi f => by have := (h.lt hq f).1; omega)⟩, hk, h2⟩
  · by_cases hrq : r = q
    · subst hrq
      rw [updN_at, updN_at]
      exact hM
    · rw [updN_off _ _ _ hrq, updN_off _ _ _ hrq]
      exact (h.mach r hr).keeps hk (fun b hb f => h.apart r q hr hq hrq b (.inl hb) f) (fun f => h.apart r q hr hq hrq _ (.inr rfl) f)
  · rcases hX r hr b hb with k | ⟨rfl, k⟩
    · rcases hX s hs b hb' with k' | ⟨rfl, k'⟩
      · exact h.apart r s hr hs hrs b k k'
      · have := (h.lt hr k).2; omega
    · rcases hX s hs b hb' with k' | ⟨rfl, k'⟩
      · have := (h.lt hs k').2; omega
      · exact hrs rfl
  · rcases hX r hr b hb with k | ⟨rfl, k⟩
    · exact h.offB r hr b k
    · have := h.bml.2; omega
  · rcases hX r hr b hb with k | ⟨rfl, k⟩
    · exact h.offR r hr b k
    · exact ⟨fun f => by have := (h.all.manyLt f).2; omega, fun f => by have := hal b f; omega⟩
/-- The list of all grows by a row of slices, which lie above every machine. -/
theorem B7.more {al' : Value} {ds : List Value} {zs : List Int} {B : Nat} (h : B7 w0 w bm hd g X ph rs al) (hR : ∀ d ∈ ds, Row .u8 5 w B d zs) (hU : ds.Pairwise Unlike) (hB : w0.heap.size ≤ B) (hX : ∀ q, q < 3 → ∀ b, (X q b ∨ b = g q) → b < B) (hF : ∀ b, OwnM rs b → b < B) (hbm : bm < B) (hz : zs.length ≤ 140737488351232)
    (hown : w'.ownsRow w0.heap.size 24 1 al' (rs.length + ds.length) (rs.map (·.1) ++ ds)) (hk : Keeps (OwnB al) w w') (hloc : al'.ownBlock = al.ownBlock ∨ al'.ownBlock = some w.heap.size) :
    B7 w0 w' bm hd g X ph (rs ++ ds.map fun d => (d, zs)) al' := by
  have hal := h.all.pushN (fun d hd => (hR d hd).down hB) hU (fun d hd b hb e => by have := hF b hb; have := ((hR d hd).lt b e).1; omega) hz hown hk
  refine ⟨fun q hq => hk.cell (h.cell q hq) h.bmR.2, fun q hq => (h.mach q hq).keeps hk (fun b hb => (h.offR q hq b (.inl hb)).2) (h.offR q hq _ (.inr rfl)).2, h.apart, h.offB, ⟨h.bml.1, Nat.lt_of_lt_of_le h.bml.2 hk.size⟩, hal, fun q hq b hb => ⟨fun f => ?_, fun f => ?_⟩, ⟨fun f => ?_, fun f => ?_⟩, h.keep.andThen hk (fun i hi e => by have := (World.ownsRow.lt h.all.all i e).1; omega)⟩
  · rcases f.append with k | ⟨d, hd, k⟩
    · exact (h.offR q hq b hb).1 k
    · have := hX q hq b hb; have := ((hR d hd).lt b k).1; omega
  · rcases hloc with k | k
    · exact (h.offR q hq b hb).2 (k ▸ f)
    · rw [k] at f; have := Option.some.inj f; have := (h.lt hq hb).2; omega
  · rcases f.append with k | ⟨d, hd, k⟩
    · exact h.bmR.1 k
    · have := ((hR d hd).lt bm k).1; omega
  · rcases hloc with k | k
    · exact h.bmR.2 (k ▸ f)
    · rw [k] at f; have := Option.some.inj f; have := h.bml.2; omega
end
end Go.Proofs.Ytcihfjfbcfgidaa
