/- Both nets: the program's and the document's, telling the same. -/
import Derived.Test.YtcplogdaepmpnaaRefDeliver
namespace Go.Proofs.Ytcplogdaepmpnaa
open Go.RowKit

structure Bd where
  v : Value
  L : Way
  sn : Ad → Int
  mn : Pr → Int
  rv : Value
  ru : Value
  LR : Way
  S : List Ad

structure Bo (w0 : World) (n g m1 m2 r : Nat) (d : Bd) (w : World) : Prop where
  net : Nt w g w0.heap.size d.v m1 m2 d.L n d.sn d.mn
  ref : Rn w r w0.heap.size d.rv d.ru d.LR d.S
  same : d.L.map core = d.LR.map core
  sent : ∀ a, d.sn a = (countF d.S a : Int)
  len : d.S.length ≤ n
  inv : Inv d.L d.sn d.mn
  ok : ∀ x ∈ d.L, IntV x.1.fr.2 ∧ IntV x.1.to.2 ∧ x.2.length ≤ 140737488351232
  data : ∀ x ∈ d.LR, ∃ A c, x.1.dv = .slice A x.2.length c ∧ Nums .u8 w0 A x.2
  sep : ∀ b, d.v.ownBlock = some b → d.rv.ownBlock ≠ some b
  keeps : Keeps None w0 w
def MineB (g m1 m2 r : Nat) (d : Bd) : Nat → Prop := fun k => Mine g m1 m2 d.v k ∨ MineR r d.rv d.ru k
/-- What one step does: it writes its own blocks alone, and what it owns then it owned or is new. -/
structure Goes (g m1 m2 r : Nat) (d d' : Bd) (w w' : World) : Prop where
  keeps : Keeps (MineB g m1 m2 r d) w w'
  new : ∀ b, MineB g m1 m2 r d' b → MineB g m1 m2 r d b ∨ w.heap.size ≤ b
section
variable {w0 w w' : World} {n g m1 m2 r : Nat} {d d' d'' : Bd}
theorem Goes.refl (g m1 m2 r : Nat) (d : Bd) (w : World) : Goes g m1 m2 r d d w w := ⟨Keeps.refl _ _, fun _ h => .inl h⟩
theorem Goes.none (hk : Keeps None w w') : Goes g m1 m2 r d d w w' := ⟨hk.of_none, fun _ h => .inl h⟩
theorem Goes.trans {w'' : World} (h : Goes g m1 m2 r d d' w w') (k : Goes g m1 m2 r d' d'' w' w'') : Goes g m1 m2 r d d'' w w'' :=
  ⟨h.keeps.andThen k.keeps (fun b hb e => by
    rcases h.new b e with q | q
    · exact q
    · omega), fun b hb => by
    have hs := h.keeps.size
    rcases k.new b hb with q | q
    · exact h.new b q
    · exact .inr (by omega)⟩
theorem Bo.grew (h : Bo w0 n g m1 m2 r d w) (hk : Keeps None w w') : Bo w0 n g m1 m2 r d w' :=
  ⟨h.net.grew hk, h.ref.grew hk, h.same, h.sent, h.len, h.inv, h.ok, h.data, h.sep, h.keeps.trans hk⟩
theorem Bo.mono {m : Nat} (h : Bo w0 n g m1 m2 r d w) (hm : n ≤ m) : Bo w0 m g m1 m2 r d w :=
  ⟨h.net.mono hm, h.ref, h.same, h.sent, Nat.le_trans h.len hm, h.inv, h.ok, h.data, h.sep, h.keeps⟩
theorem Nt.mine_lt {base : Nat} {v : Value} {L : Way} {sn : Ad → Int} {mn : Pr → Int} (h : Nt w g base v m1 m2 L n sn mn) : ∀ b, Mine g m1 m2 v b → base ≤ b ∧ b < w.heap.size := fun b hb => by
  have hg := h.hg
  rcases hb with (e | e | e | e)
  · have := h.blk.lt; omega
  · have := h.sent.lt; omega
  · have := h.many.lt; omega
  · exact World.ownsRow.lt h.row b e
theorem Bo.lt (h : Bo w0 n g m1 m2 r d w) : ∀ b, MineB g m1 m2 r d b → w0.heap.size ≤ b ∧ b < w.heap.size := fun b hb => by
  rcases hb with e | e
  · exact h.net.mine_lt b e
  · exact ⟨h.ref.mine_ge b e, h.ref.mine_lt b e⟩
theorem Bo.lens (h : Bo w0 n g m1 m2 r d w) : d.L.length = d.LR.length := by have := congrArg List.length h.same; simpa using this
/-- The two write nothing of one another's. -/
theorem Bo.beside (h : Bo w0 n g m1 m2 r d w) : ∀ b, MineR r d.rv d.ru b → ¬ Mine g m1 m2 d.v b := fun b hb hm => by
  have hg := h.net.blk.raw
  obtain ⟨e1, k1, q1⟩ := h.net.sent.obj
  obtain ⟨e2, k2, q2⟩ := h.net.many.obj
  have key : ∀ {t : Nat} {cs : Array Value}, w.heap[b]? = some (.cells cs t (0, 0)) → t ≠ 68 → (d.v.ownBlock = some b → False) → False := fun {t cs} hc ht hv => by
    rcases hm with e | e | e | e
    · rw [e, hg] at hc; cases hc; exact ht rfl
    · rw [e, q1] at hc; cases hc
    · rw [e, q2] at hc; cases hc
    · exact hv e
  rcases hb with e | e | e
  · subst e
    exact key h.ref.blk.raw (by decide) (fun hv => by
      obtain ⟨cur, hc⟩ := owns_obj h.net.row hv
      rw [h.ref.blk.raw] at hc; cases hc)
  · obtain ⟨cur, hc⟩ := owns_obj h.ref.row e
    exact key hc (by decide) (fun hv => h.sep b hv e)
  · obtain ⟨cur, hc⟩ := owns_obj h.ref.sent e
    exact key hc (by decide) (fun hv => rows_apart h.net.row h.ref.sent (by decide) hv e)
theorem Bo.pairs (h : Bo w0 n g m1 m2 r d w) (p : Pr) : d.mn p = (pairsF d.LR p : Int) := by
  rw [h.inv.many]
  have e : pairsF d.L p = pairsF d.LR p := pairs_core h.same p
  rw [e]
/-- The bytes of both are none of what either writes. -/
theorem Rn.byte_off {base : Nat} {v u x : Value} {L : Way} {S : List Ad} {zs : List Int} {B : Nat} (h : Rn w r base v u L S) (hx : Row .u8 5 w B x zs) {b : Nat} (hb : x.ownBlock = some b) : ¬ MineR r v u b := by
  obtain ⟨cur, hc⟩ := owns_obj hx.raw hb
  rintro (e | e | e)
  · rw [e, h.blk.raw] at hc; cases hc
  · obtain ⟨cur', hc'⟩ := owns_obj h.row e
    rw [hc] at hc'; cases hc'
  · obtain ⟨cur', hc'⟩ := owns_obj h.sent e
    rw [hc] at hc'; cases hc'
end

/-- The two nets' places, as a value. -/
def wV (g r : Nat) : Value := .agg #[.pointer (some ⟨g, 0, Option.none⟩), .pointer (some ⟨r, 0, Option.none⟩)]

theorem place_core {L M : Way} (h : L.map core = M.map core) (a : Ad) (c : Int) : placeP (L.map (·.1)) a c = placeP (M.map (·.1)) a c := by
  have key : ∀ (L : Way), (L.map (·.1)).findIdx? (fun p => p.named a c) = (L.map core).findIdx? (fun q => decide (q.1 = a) && decide (q.2.1 = c)) := fun L => by
    rw [List.findIdx?_map, List.findIdx?_map]
    rfl
  unfold placeP
  rw [key L, key M, h]
theorem core_at {L M : Way} (h : L.map core = M.map core) {i : Nat} {x y : Pk × List Int} (hx : L[i]? = some x) (hy : M[i]? = some y) : core x = core y := by
  have e : (L.map core)[i]? = (M.map core)[i]? := by rw [h]
  rw [List.getElem?_map, List.getElem?_map, hx, hy] at e
  simpa using e
theorem core_erase {L M : Way} (h : L.map core = M.map core) (i : Nat) : (L.eraseIdx i).map core = (M.eraseIdx i).map core := by
  rw [List.eraseIdx_eq_take_drop_succ, List.eraseIdx_eq_take_drop_succ, List.map_append, List.map_append, List.map_take, List.map_drop, List.map_take, List.map_drop, h]

theorem Bo.both {w0 w1 w2 w3 : World} {n g m1 m2 r : Nat} {d : Bd} (h : Bo w0 n g m1 m2 r d w1) {v' rv' ru' : Value} {L' LR' : Way} {S' : List Ad} {n' : Nat} {sn' : Ad → Int} {mn' : Pr → Int} (k12 : Keeps (Mine g m1 m2 d.v) w1 w2) (hN : Nt w2 g w0.heap.size v' m1 m2 L' n' sn' mn') (hv : NewL d.v v' w1)
    (k23 : Keeps (MineR r d.rv d.ru) w2 w3) (hR : Rn w3 r w0.heap.size rv' ru' LR' S') (hrv : NewL d.rv rv' w2) (hru : NewL d.ru ru' w2) (same : L'.map core = LR'.map core) (sent : ∀ a, sn' a = (countF S' a : Int)) (len : S'.length ≤ n') (inv : Inv L' sn' mn')
    (ok : ∀ x ∈ L', IntV x.1.fr.2 ∧ IntV x.1.to.2 ∧ x.2.length ≤ 140737488351232) (data : ∀ x ∈ LR', ∃ A c, x.1.dv = .slice A x.2.length c ∧ Nums .u8 w0 A x.2) :
    Bo w0 n' g m1 m2 r ⟨v', L', sn', mn', rv', ru', LR', S'⟩ w3 ∧ Goes g m1 m2 r d ⟨v', L', sn', mn', rv', ru', LR', S'⟩ w1 w3 := by
  have hs1 := k12.size
  have hs2 := k23.size
  have hR2 := h.ref.keeps k12 h.beside
  have hrl := h.ref.mine_lt
  have hnl := h.net.mine_lt
  have hN3 : Nt w3 g w0.heap.size v' m1 m2 L' n' sn' mn' := hN.keeps k23 (fun b hm hr => by
    have hb := hrl b hr
    rcases hm with e | e | e | e
    · exact h.beside b hr (.inl e)
    · exact h.beside b hr (.inr (.inl e))
    · exact h.beside b hr (.inr (.inr (.inl e)))
    · rcases hv b e with q | q
      · exact h.beside b hr (.inr (.inr (.inr q)))
      · omega) (fun x hx b hb => hR2.byte_off (hN.bytes x hx) hb)
  have k13 : Keeps (MineB g m1 m2 r d) w1 w3 := (k12.mono (fun _ _ e => .inl e)).andThen k23 (fun _ _ e => .inr e)
  refine ⟨⟨hN3, hR, same, sent, len, inv, ok, data, fun b hb hb' => ?_, h.keeps.andThen k13 (fun b hb e => by have := (h.lt b e).1; omega)⟩, k13, fun b hb => ?_⟩
  · have hlt := (World.ownsRow.lt hN.row b hb).2
    rcases hv b hb with q | q <;> rcases hrv b hb' with q' | q'
    · exact h.sep b q q'
    · have := (hnl b (.inr (.inr (.inr q)))).2
      omega
    · have := hrl b (.inr (.inl q'))
      omega
    · omega
  · rcases hb with (e | e | e | e) | (e | e | e)
    · exact .inl (.inl (.inl e))
    · exact .inl (.inl (.inr (.inl e)))
    · exact .inl (.inl (.inr (.inr (.inl e))))
    · rcases hv b e with q | q
      · exact .inl (.inl (.inr (.inr (.inr q))))
      · exact .inr q
    · exact .inl (.inr (.inl e))
    · rcases hrv b e with q | q
      · exact .inl (.inr (.inr (.inl q)))
      · exact .inr (by omega)
    · rcases hru b e with q | q
      · exact .inl (.inr (.inr (.inr q)))
      · exact .inr (by omega)
theorem NewL.refl (v : Value) (w : World) : NewL v v w := fun _ h => .inl h
theorem NewL.of_loc {v v' : Value} {w : World} (h : NewLoc v v' w) : NewL v v' w := fun b hb => by
  rcases h with e | ⟨b', e, hl⟩
  · exact .inl (e ▸ hb)
  · rw [hb] at e
    have := Option.some.inj e
    exact .inr (by omega)
theorem Bo.stay {S : Nat → Prop} {w0 w w' : World} {n g m1 m2 r : Nat} {d : Bd} (h : Bo w0 n g m1 m2 r d w) (hk : Keeps S w w') (h1 : ∀ b, MineB g m1 m2 r d b → ¬ S b) (h2 : ∀ x ∈ d.L, ∀ b, x.1.dv.ownBlock = some b → ¬ S b) (h0 : ∀ b, b < w0.heap.size → ¬ S b) : Bo w0 n g m1 m2 r d w' :=
  ⟨h.net.keeps hk (fun b e => h1 b (.inl e)) h2, h.ref.keeps hk (fun b e => h1 b (.inr e)), h.same, h.sent, h.len, h.inv, h.ok, h.data, h.sep, h.keeps.andThen hk (fun b hb e => absurd e (h0 b hb))⟩
end Go.Proofs.Ytcplogdaepmpnaa
