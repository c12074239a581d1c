/- What RegisterTold holds: its machines, what it wants; the list of all that was told. -/
import Derived.Test.YtcihfjfbcfgidaaToldPlain
import Derived.Test.YtcihfjfbcfgidaaTallyBlk
import Derived.Test.YtcihfjfbcfgidaaGrownBytes
namespace Go.Proofs.Ytcihfjfbcfgidaa
open Go.RowKit

theorem Try.infoMc : (Try.prog.info? 37).map (fun i => (i.zero, i.size, i.bytes)) = some (some Value.nilIface, 1, 16) := by kernel_rfl

theorem rows_apart {w : World} {B B' e e' s s' n n' : Nat} {v v' : Value} {xs xs' : List Value} (h : w.ownsRow B e s v n xs) (h' : w.ownsRow B' e' s' v' n' xs') (he : e ≠ e') {b : Nat} (hb : v.ownBlock = some b) : v'.ownBlock ≠ some b := fun hb' => by
  obtain ⟨c1, h1⟩ := owns_obj h hb
  obtain ⟨c2, h2⟩ := owns_obj h' hb'
  rw [h1] at h2
  cases h2
  exact he rfl
section
variable {w w' : World} {B : Nat} {rs : Lot} {al : Value}
theorem Many.snoc {u : Value} {zs : List Int} (h : Many w B rs) (hu : Row .u8 5 w B u zs) (hf : ∀ b, OwnM rs b → u.ownBlock ≠ some b) : Many w B (rs ++ [(u, zs)]) := by
  refine ⟨fun i v ys e => ?_, fun i j v ys x xs b e1 e2 hij hb hx => ?_⟩
  · by_cases hi : i < rs.length
    · rw [List.getElem?_append_left hi] at e
      exact h.row i v ys e
    · rw [List.getElem?_append_right (by omega)] at e
      have : i - rs.length = 0 := by
        have := (List.getElem?_eq_some_iff.1 e).1
        simp at this; omega
      rw [this] at e
      simp at e
      rw [← e.1, ← e.2]
      exact hu
  · have last : ∀ {i : Nat} {v : Value} {ys : List Int}, (rs ++ [(u, zs)])[i]? = some (v, ys) → rs[i]? = some (v, ys) ∨ (i = rs.length ∧ v = u) := fun {i v ys} e => by
      by_cases hi : i < rs.length
      · rw [List.getElem?_append_left hi] at e
        exact .inl e
      · rw [List.getElem?_append_right (by omega)] at e
        have : i - rs.length = 0 := by
          have := (List.getElem?_eq_some_iff.1 e).1
          simp at this; omega
        rw [this] at e
        simp at e
        exact .inr ⟨by omega, e.1.symm⟩
    rcases last e1 with q1 | ⟨q1, rfl⟩ <;> rcases last e2 with q2 | ⟨q2, rfl⟩
    · exact h.far i j v ys x xs b q1 q2 hij hb hx
    · exact hf b ⟨i, v, ys, q1, hb⟩ hx
    · exact hf b ⟨j, x, xs, q2, hx⟩ hb
    · omega
theorem OwnM.snoc {u : Value} {zs : List Int} {b : Nat} (h : OwnM (rs ++ [(u, zs)]) b) : OwnM rs b ∨ u.ownBlock = some b := by
  obtain ⟨i, v, ys, e, hb⟩ := h
  by_cases hi : i < rs.length
  · rw [List.getElem?_append_left hi] at e
    exact .inl ⟨i, v, ys, e, hb⟩
  · rw [List.getElem?_append_right (by omega)] at e
    have : i - rs.length = 0 := by
      have := (List.getElem?_eq_some_iff.1 e).1
      simp at this; omega
    rw [this] at e
    simp at e
    rw [← e.1] at hb
    exact .inr hb

/-- All that was told, and the list of it. -/
structure Al (B : Nat) (rs : Lot) (al : Value) (w : World) : Prop where
  many : Many w B rs
  all : w.ownsRow B 24 1 al rs.length (rs.map (·.1))
  short : ∀ (j : Nat) v zs, rs[j]? = some (v, zs) → zs.length ≤ 140737488351232
theorem Al.grew (h : Al B rs al w) (hk : Keeps None w w') : Al B rs al w' := ⟨h.many.keeps hk (fun _ _ f => f), owns_grew h.all hk, h.short⟩
theorem Al.manyLt (h : Al B rs al w) {b : Nat} (hb : OwnM rs b) : B ≤ b ∧ b < w.heap.size := by
  obtain ⟨i, v, zs, e, hb⟩ := hb
  exact (h.many.row i v zs e).lt b hb
theorem Al.none (w : World) (B : Nat) : Al B [] (.slice Option.none 0 0) w := ⟨⟨fun i v zs e => by simp at e, fun i j v zs u ys b e => by simp at e⟩, World.ownsRow_nil _ _ _ _, fun j v zs e => by simp at e⟩
theorem Al.lies {A : Option Addr} {n c : Nat} (h : Al B rs (.slice A n c) w) : Lies w A rs := fun i v zs e => by
  have hil := (List.getElem?_eq_some_iff.1 e).1
  obtain ⟨gk, c', e', hc⟩ := owns_at h.all (by omega)
  cases e'
  exact ⟨gk, 0, rfl, fun ⟨j, u, ys, e1, e2⟩ => rows_apart h.all (h.many.row j u ys e1).raw (by decide) rfl e2, by rw [Nat.zero_add]; exact hc i v (by rw [List.getElem?_map, e]; rfl)⟩
/-- One more slice comes to the list. -/
theorem Al.push {w1 w2 : World} {u al' : Value} {zs : List Int} (h : Al B rs al w1) (hu : Row .u8 5 w1 B u zs) (hf : ∀ b, OwnM rs b → u.ownBlock ≠ some b) (hz : zs.length ≤ 140737488351232)
    (hown : w2.ownsRow B 24 1 al' (rs.length + 1) (rs.map (·.1) ++ [u])) (hk : Keeps (OwnB al) w1 w2) : Al B (rs ++ [(u, zs)]) al' w2 := by
  have t1 : ∀ b, OwnM rs b → ¬ OwnB al b := fun b ⟨i, v, ys, e, hb⟩ hb' => rows_apart h.all (h.many.row i v ys e).raw (by decide) hb' hb
  have t2 : ∀ b, u.ownBlock = some b → ¬ OwnB al b := fun b hb hb' => rows_apart h.all hu.raw (by decide) hb' hb
  refine ⟨(h.many.keeps hk t1).snoc (hu.keeps hk t2) hf, by simpa using hown, fun j v ys e => ?_⟩
  by_cases hi : j < rs.length
  · rw [List.getElem?_append_left hi] at e
    exact h.short j v ys e
  · rw [List.getElem?_append_right (by omega)] at e
    have : j - rs.length = 0 := by
      have := (List.getElem?_eq_some_iff.1 e).1
      simp at this; omega
    rw [this] at e
    simp at e
    rw [← e.2]
    exact hz
/-- Two more at once. -/
theorem Al.push2 {w1 w2 : World} {u x al' : Value} {zs ys : List Int} (h : Al B rs al w1) (hu : Row .u8 5 w1 B u zs) (hx : Row .u8 5 w1 B x ys) (hf : ∀ b, OwnM rs b → u.ownBlock ≠ some b) (hf2 : ∀ b, OwnM rs b → x.ownBlock ≠ some b) (hux : ∀ b, u.ownBlock = some b → x.ownBlock ≠ some b) (hz : zs.length ≤ 140737488351232) (hy : ys.length ≤ 140737488351232)
    (hown : w2.ownsRow B 24 1 al' (rs.length + 2) (rs.map (·.1) ++ [u, x])) (hk : Keeps (OwnB al) w1 w2) : Al B (rs ++ [(u, zs), (x, ys)]) al' w2 := by
  have t1 : ∀ b, OwnM rs b → ¬ OwnB al b := fun b ⟨i, v, ys, e, hb⟩ hb' => rows_apart h.all (h.many.row i v ys e).raw (by decide) hb' hb
  have t2 : ∀ b, u.ownBlock = some b → ¬ OwnB al b := fun b hb hb' => rows_apart h.all hu.raw (by decide) hb' hb
  have t3 : ∀ b, x.ownBlock = some b → ¬ OwnB al b := fun b hb hb' => rows_apart h.all hx.raw (by decide) hb' hb
  have m1 := (h.many.keeps hk t1).snoc (hu.keeps hk t2) hf
  have m2 := m1.snoc (hx.keeps hk t3) (fun b hb => by
    rcases hb.snoc with k | k
    · exact hf2 b k
    · exact hux b k)
  rw [List.append_assoc] at m2
  refine ⟨m2, by simpa using hown, fun j v qs e => ?_⟩
  by_cases hi : j < rs.length
  · rw [List.getElem?_append_left hi] at e
    exact h.short j v qs e
  · rw [List.getElem?_append_right (by omega)] at e
    have hlt := (List.getElem?_eq_some_iff.1 e).1
    simp at hlt
    obtain q | q : j - rs.length = 0 ∨ j - rs.length = 1 := by omega
    all_goals
      rw [q] at e
      simp at e
      rw [← e.2]
      assumption
end
def ifV (g : Nat) : Value := .iface 104 (.pointer (some ⟨g, 0, Option.none⟩))
structure Tm where
  g : Nat
  X : Nat → Prop
  rd : Int
/-- The machines, what is wanted of each. -/
structure Ts (w0 w : World) (zs : List Int) (bv : Value) (ms : List Tm) (mv wv : Value) (n : Nat) : Prop where
  row : w.ownsRow w0.heap.size 37 1 mv ms.length (ms.map fun m => ifV m.g)
  want : w.ownsRow w0.heap.size 24 1 wv n (List.replicate n bv)
  apart : ∀ b, mv.ownBlock = some b → wv.ownBlock ≠ some b
  mach : ∀ (i : Nat) m, ms[i]? = some m → Mach w w0.heap.size m.X m.g hRd m.rd (.ended 0 (tagF i) (datF i zs))
  off : ∀ m ∈ ms, ∀ b, (m.X b ∨ b = m.g) → mv.ownBlock ≠ some b ∧ wv.ownBlock ≠ some b
  keep : Keeps None w0 w
theorem Ts.none (w0 : World) (zs : List Int) (bv : Value) : Ts w0 w0 zs bv [] (.slice Option.none 0 0) (.slice Option.none 0 0) 0 :=
  ⟨World.ownsRow_nil _ _ _ _, World.ownsRow_nil _ _ _ _, fun b e => by simp [Value.ownBlock] at e, fun i m e => by simp at e, fun m h => by simp at h, Keeps.refl _ _⟩
section
variable {w0 w w' : World} {zs : List Int} {bv : Value} {ms : List Tm} {mv wv : Value} {n : Nat}
theorem Ts.grew (h : Ts w0 w zs bv ms mv wv n) (hk : Keeps None w w') : Ts w0 w' zs bv ms mv wv n :=
  ⟨owns_grew h.row hk, owns_grew h.want hk, h.apart, fun i m e => (h.mach i m e).grew hk, h.off, h.keep.trans hk⟩
theorem Ts.made {mv' : Value} {g : Nat} {X : Nat → Prop} {rd : Int} (h : Ts w0 w zs bv ms mv wv n) (hM : Mach w w0.heap.size X g hRd rd (.ended 0 (tagF ms.length) (datF ms.length zs)))
    (hX : ∀ b, (X b ∨ b = g) → mv.ownBlock ≠ some b ∧ wv.ownBlock ≠ some b) (hown : w'.ownsRow w0.heap.size 37 1 mv' (ms.length + 1) ((ms.map fun m => ifV m.g) ++ [ifV g])) (hk : Keeps (OwnB mv) w w')
    (hloc : mv'.ownBlock = mv.ownBlock ∨ mv'.ownBlock = some w.heap.size) : Ts w0 w' zs bv (ms ++ [⟨g, X, rd⟩]) mv' wv n := by
  have hlast : ∀ (i : Nat) (m : Tm), (ms ++ [⟨g, X, rd⟩])[i]? = some m → ms[i]? = some m ∨ (i = ms.length ∧ m = ⟨g, X, rd⟩) := fun i m e => by
    by_cases hi : i < ms.length
    · rw [List.getElem?_append_left hi] at e
      exact .inl e
    · rw [List.getElem?_append_right (by omega)] at e
      have : i - ms.length = 0 := by
        have := (List.getElem?_eq_some_iff.1 e).1
        simp at this; omega
      rw [this] at e
      simp at e
      exact .inr ⟨by omega, e.symm⟩
  have hoff : ∀ m ∈ ms, ∀ b, (m.X b ∨ b = m.g) → ¬ OwnB mv b := fun m hm b hb => (h.off m hm b hb).1
  have hlt : ∀ m ∈ ms, ∀ b, (m.X b ∨ b = m.g) → b < w.heap.size := fun m hm b hb => by
    obtain ⟨i, hi⟩ := List.getElem?_of_mem hm
    have hM := h.mach i m hi
    rcases hb with hb | rfl
    · exact (hM.X b hb).2
    · exact hM.lt
  refine ⟨by simpa using hown, owns_keeps h.want hk (fun b hb hb' => h.apart b hb' hb), fun b hb hb' => ?_, fun i m e => ?_, fun m hm b hb => ?_, h.keep.andThen hk (fun i hi e => by have := (World.ownsRow.lt h.row i e).1; omega)⟩
  · rcases hloc with e | e
    · exact h.apart b (e ▸ hb) hb'
    · rw [e] at hb
      have := (World.ownsRow.lt h.want b hb').2
      have := Option.some.inj hb
      omega
  · rcases hlast i m e with q | ⟨rfl, rfl⟩
    · have hm := List.mem_of_getElem? q
      exact (h.mach i m q).keeps hk (fun b hb => hoff m hm b (.inl hb)) (hoff m hm _ (.inr rfl))
    · exact hM.keeps hk (fun b hb => (hX b (.inl hb)).1) (hX _ (.inr rfl)).1
  · have hboth : (mv.ownBlock ≠ some b ∧ wv.ownBlock ≠ some b) ∧ b < w.heap.size := by
      rcases List.mem_append.1 hm with q | q
      · exact ⟨h.off m q b hb, hlt m q b hb⟩
      · obtain rfl := List.mem_singleton.1 q
        refine ⟨hX b hb, ?_⟩
        rcases hb with hb | rfl
        · exact (hM.X b hb).2
        · exact hM.lt
    refine ⟨fun e2 => ?_, hboth.1.2⟩
    rcases hloc with e | e
    · exact hboth.1.1 (e ▸ e2)
    · rw [e] at e2
      have := Option.some.inj e2
      have := hboth.2
      omega
theorem Ts.wish {wv' : Value} (h : Ts w0 w zs bv ms mv wv n) (hown : w'.ownsRow w0.heap.size 24 1 wv' (n + 1) (List.replicate n bv ++ [bv])) (hk : Keeps (OwnB wv) w w')
    (hloc : wv'.ownBlock = wv.ownBlock ∨ wv'.ownBlock = some w.heap.size) : Ts w0 w' zs bv ms mv wv' (n + 1) := by
  have hoff : ∀ m ∈ ms, ∀ b, (m.X b ∨ b = m.g) → ¬ OwnB wv b := fun m hm b hb => (h.off m hm b hb).2
  have hlt : ∀ m ∈ ms, ∀ b, (m.X b ∨ b = m.g) → b < w.heap.size := fun m hm b hb => by
    obtain ⟨i, hi⟩ := List.getElem?_of_mem hm
    have hM := h.mach i m hi
    rcases hb with hb | rfl
    · exact (hM.X b hb).2
    · exact hM.lt
  refine ⟨owns_keeps h.row hk (fun b hb hb' => h.apart b hb hb'), by rw [List.replicate_succ']; exact hown, fun b hb hb' => ?_, fun i m e => ?_, fun m hm b hb => ⟨(h.off m hm b hb).1, fun e2 => ?_⟩, h.keep.andThen hk (fun i hi e => by have := (World.ownsRow.lt h.want i e).1; omega)⟩
  · rcases hloc with e | e
    · exact h.apart b hb (e ▸ hb')
    · rw [e] at hb'
      have := (World.ownsRow.lt h.row b hb).2
      have := Option.some.inj hb'
      omega
  · have hm := List.mem_of_getElem? e
    exact (h.mach i m e).keeps hk (fun b hb => hoff m hm b (.inl hb)) (hoff m hm _ (.inr rfl))
  · rcases hloc with e | e
    · exact (h.off m hm b hb).2 (e ▸ e2)
    · rw [e] at e2
      have := Option.some.inj e2
      have := hlt m hm b hb
      omega
end
theorem owns_free {w : World} {base e g m c n : Nat} {xs : List Value} (h : w.ownsRow base e 1 (.slice (some ⟨g, 0, Option.none⟩) m c) n xs) (j : Nat) : w.frozen? ⟨g, j, Option.none⟩ = false := by
  rcases h.2 with ⟨h', _⟩ | ⟨g', cap', cur, h', hb, hg, _⟩
  · simp at h'
  · cases h'; exact frozen_of_row w g j cur e hg
/-- What stands ahead of the turns: the machines and what they tell, what was held and put. -/
structure Pt (w0 wr : World) (zs ys : List Int) (ms : List Tm) (bm bw hb : Nat) (Ah : Option Addr) (ch : Nat) (Ad : Option Addr) : Prop where
  cell : ∀ (i : Nat) m, ms[i]? = some m → wr.cell? ⟨bm, i, Option.none⟩ = some (.iface 104 (.pointer (some ⟨m.g, 0, Option.none⟩)))
  mach : ∀ (i : Nat) m, ms[i]? = some m → Mach wr w0.heap.size m.X m.g hRd m.rd (.ended 0 (tagF i) (datF i zs))
  want : ∀ i : Nat, i < 3 → ∃ Aw cw, wr.cell? ⟨bw, i, Option.none⟩ = some (.slice Aw (datF i zs).length cw) ∧ Nums .u8 wr Aw (datF i zs)
  held : Blk wr hb 26 [.int .i64 3, .int .i64 3, .slice Ah zs.length ch]
  heldN : Nums .u8 wr Ah zs
  data : Nums .u8 wr Ad ys
  keep : Keeps None w0 wr
theorem Pt.grew {w0 wr w' : World} {zs ys : List Int} {ms : List Tm} {bm bw hb : Nat} {Ah : Option Addr} {ch : Nat} {Ad : Option Addr} (h : Pt w0 wr zs ys ms bm bw hb Ah ch Ad) (hk : Keeps None wr w') : Pt w0 w' zs ys ms bm bw hb Ah ch Ad :=
  ⟨fun i m e => hk.cell (h.cell i m e) id, fun i m e => (h.mach i m e).grew hk, fun i hi => by
    obtain ⟨Aw, cw, h1, h2⟩ := h.want i hi
    exact ⟨Aw, cw, hk.cell h1 id, h2.grew hk⟩, h.held.grew hk, h.heldN.grew hk, h.data.grew hk, h.keep.trans hk⟩
end Go.Proofs.Ytcihfjfbcfgidaa
