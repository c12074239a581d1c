/- The program's net: its state; New, Pair, Clear. -/
import Derived.Test.YtcplogdaepmpnaaNetTwin
namespace Go.Proofs.Ytcplogdaepmpnaa
open Go.RowKit Go.Maps Go.ChangeMaps Go.WideElems

/-- What is under way: packets with their bytes. -/
abbrev Way := List (Pk × List Int)
def Way.cells (L : Way) : List Value := L.flatMap (fun x => x.1.cells)
theorem Way.cells_nil : Way.cells [] = [] := rfl
theorem Way.cells_append (L M : Way) : Way.cells (L ++ M) = Way.cells L ++ Way.cells M := by simp [Way.cells]
theorem Way.cells_length (L : Way) : (Way.cells L).length = L.length * 6 := by
  induction L with
  | nil => rfl
  | cons x r ih => rw [show x :: r = [x] ++ r from rfl, Way.cells_append, List.length_append, ih]; simp [Way.cells, Pk.cells]; omega

structure Nt (w : World) (g base : Nat) (v : Value) (m1 m2 : Nat) (L : Way) (n : Nat) (sn : Ad → Int) (mn : Pr → Int) : Prop where
  blk : Blk w g 68 [v, .map (some m1), .map (some m2)]
  row : w.ownsRow base 33 6 v L.length L.cells
  bytes : ∀ x ∈ L, Row .u8 5 w base x.1.dv x.2
  apart : L.Pairwise (fun x y => ∀ b, x.1.dv.ownBlock = some b → y.1.dv.ownBlock ≠ some b)
  sent : MapF keysA w m1 n sn
  many : MapF keysP w m2 n mn
  most : L.length ≤ n
  hg : base ≤ g ∧ base ≤ m1 ∧ base ≤ m2
  ne : m1 ≠ m2

/-- The blocks that the net writes. -/
def Mine (g m1 m2 : Nat) (v : Value) : Nat → Prop := fun k => k = g ∨ k = m1 ∨ k = m2 ∨ v.ownBlock = some k

section
variable {w w' : World} {g base : Nat} {v : Value} {m1 m2 : Nat} {L : Way} {n : Nat} {sn : Ad → Int} {mn : Pr → Int}

theorem MapF.obj {k : TypeId} {κ : Type} {S : KeyS k κ} {b : Nat} {f : κ → Int} (h : MapF S w b n f) : ∃ es clock, w.heap[b]? = some (.map es clock) := by
  obtain ⟨D, ⟨es, clock, h1, _⟩, _⟩ := h
  exact ⟨es, clock, h1⟩
theorem owns_obj {e size m : Nat} {xs : List Value} (h : w.ownsRow base e size v m xs) {b : Nat} (hb : v.ownBlock = some b) : ∃ cur, w.heap[b]? = some (.cells cur e (0, 0)) := by
  rcases h.2 with ⟨rfl, _⟩ | ⟨g, cap, cur, rfl, _, hg, _⟩
  · cases hb
  · cases hb
    exact ⟨cur, hg⟩
theorem Nt.g_m (h : Nt w g base v m1 m2 L n sn mn) : g ≠ m1 ∧ g ≠ m2 := by
  have hb := h.blk.raw
  obtain ⟨e1, k1, h1⟩ := h.sent.obj
  obtain ⟨e2, k2, h2⟩ := h.many.obj
  exact ⟨fun e => by (rw [e, h1] at hb; cases hb), fun e => by (rw [e, h2] at hb; cases hb)⟩
theorem Nt.v_ne (h : Nt w g base v m1 m2 L n sn mn) {b : Nat} (hb : v.ownBlock = some b) : b ≠ g ∧ b ≠ m1 ∧ b ≠ m2 := by
  obtain ⟨cur, hc⟩ := owns_obj h.row hb
  have hg := h.blk.raw
  obtain ⟨e1, k1, h1⟩ := h.sent.obj
  obtain ⟨e2, k2, h2⟩ := h.many.obj
  refine ⟨fun e => ?_, fun e => ?_, fun e => ?_⟩
  · rw [e, hg] at hc; cases hc
  · rw [e, h1] at hc; cases hc
  · rw [e, h2] at hc; cases hc
theorem Nt.byte_off (h : Nt w g base v m1 m2 L n sn mn) {x : Value} {zs : List Int} {B : Nat} (hx : Row .u8 5 w B x zs) {b : Nat} (hb : x.ownBlock = some b) : ¬ Mine g m1 m2 v b := by
  obtain ⟨cur, hc⟩ := owns_obj hx.raw hb
  have hg := h.blk.raw
  obtain ⟨e1, k1, h1⟩ := h.sent.obj
  obtain ⟨e2, k2, h2⟩ := h.many.obj
  rintro (e | e | e | e)
  · rw [e, hg] at hc; cases hc
  · rw [e, h1] at hc; cases hc
  · rw [e, h2] at hc; cases hc
  · obtain ⟨cur', hc'⟩ := owns_obj h.row e
    rw [hc] at hc'; cases hc'
theorem Nt.keeps {S : Nat → Prop} (h : Nt w g base v m1 m2 L n sn mn) (hk : Keeps S w w') (hS : ∀ b, Mine g m1 m2 v b → ¬ S b) (hD : ∀ x ∈ L, ∀ b, x.1.dv.ownBlock = some b → ¬ S b) : Nt w' g base v m1 m2 L n sn mn :=
  ⟨h.blk.keeps hk (hS g (.inl rfl)), owns_keeps h.row hk (fun b hb => hS b (.inr (.inr (.inr hb)))), fun x hx => (h.bytes x hx).keeps hk (hD x hx), h.apart, h.sent.keeps hk (hS _ (.inr (.inl rfl))), h.many.keeps hk (hS _ (.inr (.inr (.inl rfl)))), h.most, h.hg, h.ne⟩
theorem Nt.grew (h : Nt w g base v m1 m2 L n sn mn) (hk : Keeps None w w') : Nt w' g base v m1 m2 L n sn mn := h.keeps hk (fun _ _ f => f) (fun _ _ _ _ f => f)
theorem Nt.mono (h : Nt w g base v m1 m2 L n sn mn) {m : Nat} (hm : n ≤ m) : Nt w g base v m1 m2 L m sn mn :=
  ⟨h.blk, h.row, h.bytes, h.apart, h.sent.mono hm, h.many.mono hm, Nat.le_trans h.most hm, h.hg, h.ne⟩
end

set_option maxRecDepth 100000 in
set_option maxHeartbeats 1600000 in
theorem nnew_any (w : World) : Calls Try.prog 9 #[] w fun e w' => ∃ g m1 m2, e = .returned (.pointer (some ⟨g, 0, Option.none⟩)) ∧ Nt w' g w.heap.size (.slice Option.none 0 0) m1 m2 [] 0 (fun _ => 0) (fun _ => 0) ∧ Keeps None w w' := by
  have hmm := @run_makeMap Try.prog
  go_enter Try.func9, Try.ntmps9
  go_wp2_with fail
  go_ret
  have k1 := ((Keeps.refl None w).alloc (.map #[] 0))
  have k2 := (Keeps.refl None (w.alloc (.map #[] 0))).alloc (.map #[] 0)
  have k3 := (Keeps.refl None ((w.alloc (.map #[] 0)).alloc (.map #[] 0))).alloc (.cells #[.slice Option.none 0 0, .map (some w.heap.size), .map (some (w.heap.size + 1))] 68)
  refine ⟨w.heap.size + 2, w.heap.size, w.heap.size + 1, rfl, ⟨?_, World.ownsRow_nil _ _ _ _, fun x hx => (by cases hx), .nil, ?_, ?_, Nat.le_refl _, by omega, by omega⟩, (k1.trans k2).trans k3⟩
  · have := Blk.new ((w.alloc (.map #[] 0)).alloc (.map #[] 0)) 68 [.slice Option.none 0 0, .map (some w.heap.size), .map (some (w.heap.size + 1))]
    simpa using this
  · exact ((MapF.made w).keeps k2 id).keeps k3 id
  · have := (MapF.made (S := keysP) (w.alloc (.map #[] 0))).keeps k3 id
    simpa using this

set_option maxRecDepth 100000 in
set_option maxHeartbeats 1600000 in
theorem npair_any {g base : Nat} {v : Value} {m1 m2 : Nat} {L : Way} {n : Nat} {sn : Ad → Int} {mn : Pr → Int} (a b : Ad) (w : World) (hN : Nt w g base v m1 m2 L n sn mn) (ha : IntV a.2) (hb : IntV b.2) :
    Calls Try.prog 22 #[.pointer (some ⟨g, 0, Option.none⟩), adV a, adV b] w fun e w' => e = .returned (.int .i64 (mn (a, b))) ∧ Keeps None w w' := by
  obtain ⟨a1, a2⟩ := a
  obtain ⟨b1, b2⟩ := b
  simp only [adV]
  have k0 := ((Keeps.refl None w).alloc (.cells #[.bool a1, .int .i64 a2] 27)).alloc (.cells #[.bool b1, .int .i64 b2] 27)
  have hN0 := hN.grew k0
  have c2 := hN0.blk.cell 2 _ rfl
  have hl : ∀ n, (Instr.lookup 66 (.map (some m2)) (.agg #[.bool a1, .int .i64 a2, .bool b1, .int .i64 b2]) false).run Try.prog (((w.alloc (.cells #[.bool a1, .int .i64 a2] 27)).alloc (.cells #[.bool b1, .int .i64 b2] 27)).drewN n) = .ok (.int .i64 (mn ((a1, a2), (b1, b2)))) (((w.alloc (.cells #[.bool a1, .int .i64 a2] 27)).alloc (.cells #[.bool b1, .int .i64 b2] 27)).drewN n) := fun n =>
    ((hN.grew (k0.drewN n)).many.look Try.underlying66 ((a1, a2), (b1, b2)) ⟨ha, hb⟩).1
  have b0 := (Blk.new w 27 [.bool a1, .int .i64 a2]).alloc (.cells #[.bool b1, .int .i64 b2] 27)
  have d0 := b0.cell 0 _ rfl
  have d1 := b0.cell 1 _ rfl
  have e0 : ((w.alloc (.cells #[.bool a1, .int .i64 a2] 27)).alloc (.cells #[.bool b1, .int .i64 b2] 27)).cell? ⟨w.heap.size + 1, 0, Option.none⟩ = some (.bool b1) := by simp
  have e1 : ((w.alloc (.cells #[.bool a1, .int .i64 a2] 27)).alloc (.cells #[.bool b1, .int .i64 b2] 27)).cell? ⟨w.heap.size + 1, 1, Option.none⟩ = some (.int .i64 b2) := by simp
  go_enter Try.func22, Try.ntmps22
  go_wp2_with fail
  go_quiet (fail)
  go_wp2_with fail
  go_ret
  exact ⟨rfl, k0.drewN _⟩

set_option maxRecDepth 100000 in
set_option maxHeartbeats 1600000 in
theorem nclear_any {g base : Nat} {v : Value} {m1 m2 : Nat} {L : Way} {n : Nat} {sn : Ad → Int} {mn : Pr → Int} (w : World) (hN : Nt w g base v m1 m2 L n sn mn) :
    Calls Try.prog 25 #[.pointer (some ⟨g, 0, Option.none⟩)] w fun e w' => e = .returned (.tuple #[]) ∧ Nt w' g base (.slice Option.none 0 0) m1 m2 [] n sn (fun _ => 0) ∧ Keeps (Mine g m1 m2 v) w w' := by
  have f0 := hN.blk.free 0
  have c0 := hN.blk.cell 0 _ rfl
  have hB := hN.blk.set 0 (.slice Option.none 0 0)
  simp only [List.set] at hB
  have c2 := hB.cell 2 _ rfl
  obtain ⟨D, ⟨es, clock, hm, F, _⟩, _⟩ := hN.many
  have hm' : (w.setCell ⟨g, 0, Option.none⟩ (.slice Option.none 0 0)).heap[m2]? = some (.map es clock) := by
    rw [((Keeps.refl (One g) w).setCell ⟨g, 0, Option.none⟩ (.slice Option.none 0 0) (fun _ => rfl)).block m2 (lt_of_block hm) (fun e => hN.g_m.2 e.symm)]
    exact hm
  have hcl : ∀ ty, (Builtin.clear_ #[66] ty #[.map (some m2)]).run Try.prog (w.setCell ⟨g, 0, Option.none⟩ (.slice Option.none 0 0)) = .ok (.tuple #[]) (setBlock (w.setCell ⟨g, 0, Option.none⟩ (.slice Option.none 0 0)) m2 (.map #[] clock)) := fun ty => by
    simp [Builtin.clear_, run_underlying Try.underlying66, MapKept.run_getObj_map hm', MapKept.run_setObj_map _ hm', Result.andThen, setBlock]
  go_enter Try.func25, Try.ntmps25
  go_wp2_with fail
  refine bodyPost_end (results_none rfl _ _ _) rfl ?_
  have k1 := ((Keeps.refl (Mine g m1 m2 v) w).setCell ⟨g, 0, Option.none⟩ (.slice Option.none 0 0) (fun _ => .inl rfl))
  have k2 : Keeps (One m2) (w.setCell ⟨g, 0, Option.none⟩ (.slice Option.none 0 0)) (setBlock (w.setCell ⟨g, 0, Option.none⟩ (.slice Option.none 0 0)) m2 (.map #[] clock)) :=
    ⟨rfl, rfl, rfl, by simp [setBlock], fun i _ hi => heap_setBlock_other hm' _ hi⟩
  have hsg : Keeps (One g) w (w.setCell ⟨g, 0, Option.none⟩ (.slice Option.none 0 0)) := (Keeps.refl _ w).setCell _ _ (fun _ => rfl)
  refine ⟨rfl, ⟨hB.keeps k2 hN.g_m.2, World.ownsRow_nil _ _ _ _, fun x hx => (by cases hx), .nil, (hN.sent.keeps hsg (fun e => hN.g_m.1 e.symm)).keeps k2 hN.ne, ?_, Nat.zero_le _, hN.hg, hN.ne⟩, k1.andThen k2 (fun i _ e => .inr (.inr (.inl e)))⟩
  exact ⟨.map [], ⟨#[], clock, heap_setBlock_same hm' _, ⟨by simp, MapKept.stamped_empty clock, by simp⟩, Nat.zero_le _, rfl⟩, fun _ _ => rfl⟩
end Go.Proofs.Ytcplogdaepmpnaa
