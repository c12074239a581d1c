/- NetSeqs: what stands while the sequence is ranged over and the nets are stepped. -/
import Derived.Test.YtcplogdaepmpnaaNApart
import Derived.Test.YtcplogdaepmpnaaRangeGood2
namespace Go.Proofs.Ytcplogdaepmpnaa
open Go.RowKit

section
variable {w0 ws w w' : World} {n g m1 m2 r : Nat} {ds d d' : Bd}
/-- What is neither a row of cells nor a map is none of what the nets write, nor of the packets' bytes. -/
theorem Bo.obj_off (h : Bo w0 n g m1 m2 r d w) {l : Nat} {o : Obj} (ho : w.heap[l]? = some o) (h1 : ∀ cs t f, o ≠ .cells cs t f) (h2 : ∀ es c, o ≠ .map es c) : ¬ MineB g m1 m2 r d l ∧ ∀ x ∈ d.L, x.1.dv.ownBlock ≠ some l := by
  have cell : ∀ {cs t f}, w.heap[l]? = some (.cells cs t f) → False := fun {cs t f} e => by rw [ho] at e; exact h1 cs t f (Option.some.inj e)
  refine ⟨?_, fun x hx e => ?_⟩
  · rintro ((e | e | e | e) | (e | e | e))
    · subst e; exact cell h.net.blk.raw
    · obtain ⟨es, c, q⟩ := h.net.sent.obj
      rw [← e, ho] at q
      exact h2 es c (Option.some.inj q)
    · obtain ⟨es, c, q⟩ := h.net.many.obj
      rw [← e, ho] at q
      exact h2 es c (Option.some.inj q)
    · obtain ⟨cur, hc⟩ := owns_obj h.net.row e; exact cell hc
    · subst e; exact cell h.ref.blk.raw
    · obtain ⟨cur, hc⟩ := owns_obj h.ref.row e; exact cell hc
    · obtain ⟨cur, hc⟩ := owns_obj h.ref.sent e; exact cell hc
  · obtain ⟨cur, hc⟩ := owns_obj (h.net.bytes x hx).raw e; exact cell hc
/-- So it is of a row of another kind. -/
theorem Bo.blk_off (h : Bo w0 n g m1 m2 r d w) {l t : Nat} {xs : List Value} (hb : Blk w l t xs) (t1 : t ≠ 68) (t2 : t ≠ 33) (t3 : t ≠ 48) (t4 : t ≠ 27) (t5 : t ≠ 5) : ¬ MineB g m1 m2 r d l ∧ ∀ x ∈ d.L, x.1.dv.ownBlock ≠ some l := by
  have ho := hb.raw
  have cell : ∀ {cs u f}, w.heap[l]? = some (.cells cs u f) → t = u := fun {cs u f} e => by rw [ho] at e; cases e; rfl
  refine ⟨?_, fun x hx e => ?_⟩
  · rintro ((e | e | e | e) | (e | e | e))
    · subst e; exact t1 (cell h.net.blk.raw)
    · obtain ⟨es, c, q⟩ := h.net.sent.obj
      rw [← e, ho] at q; cases q
    · obtain ⟨es, c, q⟩ := h.net.many.obj
      rw [← e, ho] at q; cases q
    · obtain ⟨cur, hc⟩ := owns_obj h.net.row e; exact t2 (cell hc)
    · subst e; exact t3 (cell h.ref.blk.raw)
    · obtain ⟨cur, hc⟩ := owns_obj h.ref.row e; exact t2 (cell hc)
    · obtain ⟨cur, hc⟩ := owns_obj h.ref.sent e; exact t4 (cell hc)
  · obtain ⟨cur, hc⟩ := owns_obj (h.net.bytes x hx).raw e; exact t5 (cell hc)

/-- Behind the world ws: what lay there, but what the nets then wrote, lies as it lay. -/
structure Sea (w0 ws : World) (n g m1 m2 r : Nat) (ds d : Bd) (w : World) : Prop where
  bo : Bo w0 n g m1 m2 r d w
  keeps : Keeps (fun b => MineB g m1 m2 r ds b ∨ ws.heap.size ≤ b) ws w
  new : ∀ b, MineB g m1 m2 r d b → MineB g m1 m2 r ds b ∨ ws.heap.size ≤ b
theorem Sea.start (h : Bo w0 n g m1 m2 r ds ws) : Sea w0 ws n g m1 m2 r ds ds ws := ⟨h, Keeps.refl _ _, fun _ e => .inl e⟩
theorem Sea.grew (h : Sea w0 ws n g m1 m2 r ds d w) (hk : Keeps None w w') : Sea w0 ws n g m1 m2 r ds d w' := ⟨h.bo.grew hk, h.keeps.andThen hk (fun _ _ f => f.elim), h.new⟩
theorem Sea.goes {n' : Nat} (h : Sea w0 ws n g m1 m2 r ds d w) (hB : Bo w0 n' g m1 m2 r d' w') (hG : Goes g m1 m2 r d d' w w') : Sea w0 ws n' g m1 m2 r ds d' w' :=
  ⟨hB, h.keeps.andThen hG.keeps (fun b _ e => h.new b e), fun b e => by
    rcases hG.new b e with q | q
    · exact h.new b q
    · exact .inr (Nat.le_trans h.keeps.size q)⟩
theorem Sea.stay {S : Nat → Prop} (h : Sea w0 ws n g m1 m2 r ds d w) (hk : Keeps S w w') (h1 : ∀ b, S b → ¬ MineB g m1 m2 r d b ∧ ∀ x ∈ d.L, x.1.dv.ownBlock ≠ some b) (h2 : ∀ b, S b → ws.heap.size ≤ b) (h3 : w0.heap.size ≤ ws.heap.size) : Sea w0 ws n g m1 m2 r ds d w' :=
  ⟨h.bo.stay hk (fun b e f => (h1 b f).1 e) (fun x hx b e f => (h1 b f).2 x hx e) (fun b hb f => by have := h2 b f; omega), h.keeps.andThen hk (fun b _ f => .inr (h2 b f)), h.new⟩
/-- A loop's record is written. -/
theorem Sea.rec_ (h : Sea w0 ws n g m1 m2 r ds d w) {l : Nat} (hr : Rec l w) (hk : Keeps (One l) w w') (hl : ws.heap.size ≤ l) (h3 : w0.heap.size ≤ ws.heap.size) : Sea w0 ws n g m1 m2 r ds d w' := by
  obtain ⟨rr, hr⟩ := hr
  have := h.bo.obj_off hr (fun _ _ _ e => by cases e) (fun _ _ e => by cases e)
  exact h.stay hk (fun b e => by rw [show b = l from e]; exact this) (fun b e => by rw [show b = l from e]; exact hl) h3
/-- A counter is written. -/
theorem Sea.count (h : Sea w0 ws n g m1 m2 r ds d w) {b : Nat} {xs : List Value} (hb : Blk w b 3 xs) (hk : Keeps (One b) w w') (hl : ws.heap.size ≤ b) (h3 : w0.heap.size ≤ ws.heap.size) : Sea w0 ws n g m1 m2 r ds d w' := by
  have := h.bo.blk_off hb (by decide) (by decide) (by decide) (by decide) (by decide)
  exact h.stay hk (fun c e => by rw [show c = b from e]; exact this) (fun c e => by rw [show c = b from e]; exact hl) h3
/-- What lay at ws and is not the nets' lies so. -/
theorem Sea.low (_h : Sea w0 ws n g m1 m2 r ds d w) {b : Nat} (hb : b < ws.heap.size) (ho : ¬ MineB g m1 m2 r ds b) : ¬ (MineB g m1 m2 r ds b ∨ ws.heap.size ≤ b) := fun e => by
  rcases e with e | e
  · exact ho e
  · omega
/-- The sequence's own state abides. -/
theorem Sea.seq (h : Sea w0 ws n g m1 m2 r ds d w) {bs : Nat} {A : Option Addr} {c : Nat} {L : Way} (hS : SeqSt ws bs A c L) (h1 : ¬ MineB g m1 m2 r ds bs) (h2 : ∀ b o, A = some ⟨b, o, Option.none⟩ → ¬ MineB g m1 m2 r ds b) (h3 : ∀ x ∈ L, ∀ Ax cx, x.1.dv = .slice Ax x.2.length cx → Off Ax (fun b => MineB g m1 m2 r ds b ∨ ws.heap.size ≤ b)) : SeqSt w bs A c L :=
  ⟨hS.blk.keeps h.keeps (h.low hS.blk.lt h1), fun j p hp => by obtain ⟨b, o, e, hq⟩ := hS.pks j p hp; exact ⟨b, o, e, hq.keeps h.keeps (h.low hq.lt (h2 b o e))⟩, fun x hx => by obtain ⟨Ax, cx, e, hn⟩ := hS.nums x hx; exact ⟨Ax, cx, e, hn.keeps h.keeps (h3 x hx Ax cx e)⟩⟩
/-- The bytes of the way lie none of where the nets write. -/
theorem Bo.bytes_off (h : Bo w0 n g m1 m2 r d w) : ∀ x ∈ d.L, ∀ Ax cx, x.1.dv = .slice Ax x.2.length cx → Off Ax (fun b => MineB g m1 m2 r d b ∨ w.heap.size ≤ b) := fun x hx Ax cx e b o eb hm => by
  have hb := h.net.bytes x hx
  obtain ⟨A, c, e2, _, _, _, hA, _⟩ := hb.open_
  rw [e] at e2
  cases e2
  obtain ⟨hq, _, hl⟩ := hA b o eb
  rcases hm with (hm | hm) | hm
  · exact h.net.byte_off hb hq hm
  · exact h.ref.byte_off hb hq hm
  · omega
/-- What the document's row has where the sequence stands. -/
theorem pair_at (hBs : Bo w0 n g m1 m2 r d ws) {base : Nat} {Aw : Option Addr} {cw : Nat} (hws : ws.ownsRow base 33 6 (.slice Aw d.LR.length cw) d.LR.length d.LR.cells) {pre : Way} {x : Pk × List Int}
    (hcore : (pre ++ [x]).map core = (d.L.map core).take (pre.length + 1)) (hlen : pre.length < d.L.length) :
    ∃ y ys Ay cy gw, Aw = some ⟨gw, 0, Option.none⟩ ∧ base ≤ gw ∧ PkAt ws gw (pre.length * 6) y ∧ y.dv = .slice Ay ys.length cy ∧ Nums .u8 w0 Ay ys ∧ core x = core (y, ys) ∧ x.2.length ≤ 140737488351232 ∧ pre.length < d.LR.length := by
  have hll := hBs.lens
  obtain ⟨⟨y, ys⟩, hy⟩ : ∃ y, d.LR[pre.length]? = some y := ⟨_, List.getElem?_eq_getElem (by omega)⟩
  have hxy : core x = core (y, ys) := by
    have e1 : ((pre ++ [x]).map core)[pre.length]? = some (core x) := by rw [List.getElem?_map, List.getElem?_append_right (Nat.le_refl _)]; simp
    have e2 : (d.LR.map core)[pre.length]? = some (core (y, ys)) := by rw [List.getElem?_map, hy]; rfl
    rw [hcore, hBs.same, List.getElem?_take, if_pos (by omega), e2] at e1
    exact (Option.some.inj e1).symm
  obtain ⟨gw, rfl⟩ : ∃ gw, Aw = some ⟨gw, 0, Option.none⟩ := by
    rcases hws.2 with ⟨_, h0⟩ | ⟨gw, cap, cur, e, _⟩
    · omega
    · cases e; exact ⟨gw, rfl⟩
  obtain ⟨Ay, cy, hyd, hyn⟩ := hBs.data (y, ys) (List.mem_of_getElem? hy)
  obtain ⟨bM, oM, eM, hyp⟩ := (Pks.of_owns hws).1 pre.length y (by rw [List.getElem?_map, hy]; rfl)
  cases eM
  rw [Nat.zero_add] at hyp
  refine ⟨y, ys, Ay, cy, gw, rfl, (World.ownsRow.lt hws gw rfl).1, hyp, hyd, hyn, hxy, ?_, by omega⟩
  have e3 : x.2 = ys := (core_fr hxy).2.2.2
  have e4 := core_at hBs.same (List.getElem?_eq_getElem hlen) hy
  have e5 : d.L[pre.length].2 = ys := (core_fr e4).2.2.2
  rw [e3, ← e5]
  exact (hBs.ok _ (List.getElem_mem hlen)).2.2
end
/-- The marks of the loops that were ranged over. -/
def Marks (ws : World) (Ds : List Nat) (w : World) : Prop := (∀ D ∈ Ds, ws.heap.size ≤ D ∧ w.heap[D]? = some (.deferred (some []))) ∧ Ds.Nodup
theorem Marks.keeps {S : Nat → Prop} {ws w w' : World} {Ds : List Nat} (h : Marks ws Ds w) (hk : Keeps S w w') (hS : ∀ D ∈ Ds, ¬ S D) : Marks ws Ds w' :=
  ⟨fun D hD => ⟨(h.1 D hD).1, (hk.block D (Array.getElem?_eq_some_iff.1 (h.1 D hD).2).1 (hS D hD)).trans (h.1 D hD).2⟩, h.2⟩
theorem Marks.off {ws w0 w : World} {n g m1 m2 r : Nat} {d : Bd} {Ds : List Nat} (h : Marks ws Ds w) (hB : Bo w0 n g m1 m2 r d w) : ∀ D ∈ Ds, ¬ MineB g m1 m2 r d D := fun D hD =>
  (hB.obj_off (h.1 D hD).2 (fun _ _ _ e => by cases e) (fun _ _ e => by cases e)).1
theorem Marks.blk {ws w : World} {Ds : List Nat} {b t : Nat} {xs : List Value} (h : Marks ws Ds w) (hb : Blk w b t xs) : ∀ D ∈ Ds, D ≠ b := fun D hD e => by
  have := (h.1 D hD).2
  rw [e, hb.raw] at this
  cases this
theorem Marks.rec_ {ws w : World} {Ds : List Nat} {l : Nat} (h : Marks ws Ds w) (hr : Rec l w) : ∀ D ∈ Ds, D ≠ l := fun D hD e => by
  obtain ⟨r, hr⟩ := hr
  have := (h.1 D hD).2
  rw [e, hr] at this
  cases this
def cols (Ds : List Nat) : List Deferred := Ds.map (fun D => { target := .collected D, args := #[] })
/-- What stands between two rounds of the range over the sequence. -/
structure Iout (w0 ws : World) (n g m1 m2 r : Nat) (ds : Bd) (t b11 b12 : Nat) (Ds : List Nat) (j : Nat) (d2 : Bd) (W : World) : Prop where
  sea : Sea w0 ws n g m1 m2 r ds d2 W
  c12 : Blk W b12 3 [.int .i64 (j : Int)]
  c11 : Blk W b11 3 [.int .i64 (t : Int)]
  marks : Marks ws Ds W
theorem Iout.grew {w0 ws W W' : World} {n g m1 m2 r t b11 b12 j : Nat} {ds d2 : Bd} {Ds : List Nat} (h : Iout w0 ws n g m1 m2 r ds t b11 b12 Ds j d2 W) (hk : Keeps None W W') : Iout w0 ws n g m1 m2 r ds t b11 b12 Ds j d2 W' :=
  ⟨h.sea.grew hk, h.c12.grew hk, h.c11.grew hk, h.marks.keeps hk (fun _ _ f => f)⟩
theorem Iout.rec_ {w0 ws W W' : World} {n g m1 m2 r t b11 b12 j l : Nat} {ds d2 : Bd} {Ds : List Nat} (h : Iout w0 ws n g m1 m2 r ds t b11 b12 Ds j d2 W) (hr : Rec l W) (hk : Keeps (One l) W W') (hl : ws.heap.size ≤ l) (h3 : w0.heap.size ≤ ws.heap.size) : Iout w0 ws n g m1 m2 r ds t b11 b12 Ds j d2 W' := by
  have hne : ∀ {b u : Nat} {xs : List Value}, Blk W b u xs → ¬ One l b := fun {b u xs} hb e => by
    obtain ⟨rr, hr⟩ := hr
    rw [← show b = l from e, hb.raw] at hr
    cases hr
  exact ⟨h.sea.rec_ hr hk hl h3, h.c12.keeps hk (hne h.c12), h.c11.keeps hk (hne h.c11), h.marks.keeps hk (fun D hD e => h.marks.rec_ hr D hD e)⟩
theorem Iout.mono {w0 ws W : World} {n n' g m1 m2 r t b11 b12 j : Nat} {ds d2 : Bd} {Ds : List Nat} (h : Iout w0 ws n g m1 m2 r ds t b11 b12 Ds j d2 W) (hn : n ≤ n') : Iout w0 ws n' g m1 m2 r ds t b11 b12 Ds j d2 W :=
  ⟨⟨h.sea.bo.mono hn, h.sea.keeps, h.sea.new⟩, h.c12, h.c11, h.marks⟩
/-- A counter of its own, and new blocks, are written beside. -/
theorem Iout.beside {w0 ws W W' : World} {n g m1 m2 r t b11 b12 j b14 : Nat} {ds d2 : Bd} {Ds : List Nat} {xs : List Value} (h : Iout w0 ws n g m1 m2 r ds t b11 b12 Ds j d2 W) (hb : Blk W b14 3 xs) (hk : Keeps (fun b => b = b14 ∨ W.heap.size ≤ b) W W') (h11 : b14 ≠ b11) (h12 : b14 ≠ b12) (hl : ws.heap.size ≤ b14) (h3 : w0.heap.size ≤ ws.heap.size) : Iout w0 ws n g m1 m2 r ds t b11 b12 Ds j d2 W' := by
  have hoff := h.sea.bo.blk_off hb (by decide) (by decide) (by decide) (by decide) (by decide)
  have hsz := h.sea.keeps.size
  refine ⟨h.sea.stay hk (fun b e => ?_) (fun b e => by rcases e with e | e <;> omega) h3, h.c12.keeps hk (fun e => by have := h.c12.lt; rcases e with e | e <;> omega), h.c11.keeps hk (fun e => by have := h.c11.lt; rcases e with e | e <;> omega), h.marks.keeps hk (fun D hD e => ?_)⟩
  · rcases e with e | e
    · rw [e]; exact hoff
    · exact ⟨fun f => by have := (h.sea.bo.lt b f).2; omega, fun x hx f => by have := ((h.sea.bo.net.bytes x hx).lt b f).2; omega⟩
  · rcases e with e | e
    · exact h.marks.blk hb D hD e
    · have := (Array.getElem?_eq_some_iff.1 (h.marks.1 D hD).2).1; omega
/-- The nets were stepped. -/
theorem Iout.goes {w0 ws W W' : World} {n n' g m1 m2 r t b11 b12 j : Nat} {ds d2 d3 : Bd} {Ds : List Nat} (h : Iout w0 ws n g m1 m2 r ds t b11 b12 Ds j d2 W) (hB : Bo w0 n' g m1 m2 r d3 W') (hG : Goes g m1 m2 r d2 d3 W W') : Iout w0 ws n' g m1 m2 r ds t b11 b12 Ds j d3 W' :=
  ⟨h.sea.goes hB hG, h.c12.keeps hG.keeps (h.sea.bo.blk_off h.c12 (by decide) (by decide) (by decide) (by decide) (by decide)).1, h.c11.keeps hG.keeps (h.sea.bo.blk_off h.c11 (by decide) (by decide) (by decide) (by decide) (by decide)).1, h.marks.keeps hG.keeps (h.marks.off h.sea.bo)⟩
/-- The counter is told up. -/
theorem Iout.up {w0 ws W : World} {n g m1 m2 r t b11 b12 j : Nat} {ds d2 : Bd} {Ds : List Nat} (h : Iout w0 ws n g m1 m2 r ds t b11 b12 Ds j d2 W) (hne : b12 ≠ b11) (hl : ws.heap.size ≤ b12) (h3 : w0.heap.size ≤ ws.heap.size) : Iout w0 ws n g m1 m2 r ds t b11 b12 Ds (j + 1) d2 (W.setCell ⟨b12, 0, Option.none⟩ (.int .i64 ((j + 1 : Nat) : Int))) ∧ Keeps (One b12) W (W.setCell ⟨b12, 0, Option.none⟩ (.int .i64 ((j + 1 : Nat) : Int))) := by
  have ks : Keeps (One b12) W (W.setCell ⟨b12, 0, Option.none⟩ (.int .i64 ((j + 1 : Nat) : Int))) := (Keeps.refl _ _).setCell _ _ (fun _ => rfl)
  refine ⟨⟨h.sea.count h.c12 ks hl h3, ?_, h.c11.keeps ks (fun e => hne (show b11 = b12 from e).symm), h.marks.keeps ks (fun D hD e => h.marks.blk h.c12 D hD e)⟩, ks⟩
  have := h.c12.set 0 (.int .i64 ((j + 1 : Nat) : Int))
  simpa using this
end Go.Proofs.Ytcplogdaepmpnaa
