/- cairnlaw1.GrownBytes: lists of bytes, each in a row of its own, that are written full and appended to: all stay so. -/
import Derived.Test.YtcihfjfbcfgidaaGrow
import Derived.Test.YtcihfjfbcfgidaaLend
import Derived.Deep.DeepCutAuto
import Derived.StillTailTactics
import Derived.IntWalk
import Derived.Deep.CutBlock
namespace Go.Proofs.Ytcihfjfbcfgidaa
open Go.RowKit

/-- The byte j of the marks of list i. -/
def markF (i j : Nat) : Int := if j % 3 = 0 then ((i % 256 : Nat) : Int) else if j % 3 = 1 then ((i / 256 % 256 : Nat) : Int) else ((j % 256 : Nat) : Int)
theorem markF_u8 (i j : Nat) : 0 ≤ markF i j ∧ markF i j ≤ 255 := by unfold markF; split <;> (try split) <;> omega

set_option maxRecDepth 100000 in
set_option maxHeartbeats 800000 in
theorem mark_any (i j : Nat) (w : World) (hj : j ≤ 140737488351232) :
    Calls Try.prog 38 #[.int .i64 (i : Int), .int .i64 (j : Int)] w fun e w' => e = .returned (.int .u8 (markF i j)) ∧ w = w' := by
  by_cases h0 : j % 3 = 0
  · have E : Hid (markF i j = ((i % 256 : Nat) : Int)) := Lib.hid (by unfold markF; rw [if_pos h0])
    obtain ⟨t1, t2⟩ := test_eq (show (j : Int) % 3 = 0 by omega)
    clear h0
    go_enter Try.func38, Try.ntmps38
    go_wp2
    go_ret
    exact ⟨ret_int (by rw [E.out]; omega), rfl⟩
  · obtain ⟨t1, t2⟩ := test_ne (show ¬ (j : Int) % 3 = 0 by omega)
    by_cases h1 : j % 3 = 1
    · have E : Hid (markF i j = ((i / 256 % 256 : Nat) : Int)) := Lib.hid (by unfold markF; rw [if_neg h0, if_pos h1])
      obtain ⟨t3, t4⟩ := test_eq (show (j : Int) % 3 = 1 by omega)
      clear h0 h1
      go_enter Try.func38, Try.ntmps38
      go_wp2
      go_ret
      exact ⟨ret_int (by rw [E.out]; omega), rfl⟩
    · have E : Hid (markF i j = ((j % 256 : Nat) : Int)) := Lib.hid (by unfold markF; rw [if_neg h0, if_neg h1])
      obtain ⟨t3, t4⟩ := test_ne (show ¬ (j : Int) % 3 = 1 by omega)
      clear h0 h1
      go_enter Try.func38, Try.ntmps38
      go_wp2
      go_ret
      exact ⟨ret_int (by rw [E.out]; omega), rfl⟩

theorem Try.infoBs : (Try.prog.info? 24).map (fun i => (i.zero, i.size, i.bytes)) = some (some (.slice Option.none 0 0), 1, 24) := by kernel_rfl
def marks (i m : Nat) : List Int := (List.range m).map (markF i)
def tails (i m : Nat) : List Int := (List.range m).map (fun j => 255 - markF i j)
theorem marks_succ (i m : Nat) : marks i (m + 1) = marks i m ++ [markF i m] := by unfold marks; rw [List.range_succ]; simp
theorem tails_succ (i m : Nat) : tails i (m + 1) = tails i m ++ [255 - markF i m] := by unfold tails; rw [List.range_succ]; simp
theorem marks_len (i m : Nat) : (marks i m).length = m := by simp [marks]
theorem tails_len (i m : Nat) : (tails i m).length = m := by simp [tails]

/-- Slices of bytes, and what they hold. -/
abbrev Lot := List (Value × List Int)
def OwnM (rs : Lot) : Nat → Prop := fun b => ∃ (i : Nat) (v : Value) (zs : List Int), rs[i]? = some (v, zs) ∧ v.ownBlock = some b

structure Many (w : World) (base : Nat) (rs : Lot) : Prop where
  row : ∀ (i : Nat) v zs, rs[i]? = some (v, zs) → Row .u8 5 w base v zs
  far : ∀ (i j : Nat) v zs u ys b, rs[i]? = some (v, zs) → rs[j]? = some (u, ys) → i ≠ j → v.ownBlock = some b → ¬ u.ownBlock = some b
theorem Many.keeps {S : Nat → Prop} {w w' : World} {base : Nat} {rs : Lot} (h : Many w base rs) (hk : Keeps S w w') (hS : ∀ b, OwnM rs b → ¬ S b) : Many w' base rs :=
  ⟨fun i v zs e => (h.row i v zs e).keeps hk (fun b eb => hS b ⟨i, v, zs, e, eb⟩), h.far⟩

/-- The list of the slices, where it lies. -/
def Lies (w : World) (A : Option Addr) (rs : Lot) : Prop :=
  ∀ (i : Nat) v zs, rs[i]? = some (v, zs) → ∃ b o, A = some ⟨b, o, Option.none⟩ ∧ ¬ OwnM rs b ∧ w.cell? ⟨b, o + i, Option.none⟩ = some v
theorem Lies.keeps {w w' : World} {A : Option Addr} {rs : Lot} (h : Lies w A rs) (hk : Keeps (OwnM rs) w w') : Lies w' A rs := fun i v zs e => by
  obtain ⟨b, o, h1, h2, h3⟩ := h i v zs e
  exact ⟨b, o, h1, h2, hk.cell h3 h2⟩

/-! ### All are written full -/
structure Fill (w0 : World) (base : Nat) (rs : Lot) (i j : Nat) (r1 : Lot) (wr : World) : Prop where
  many : Many wr base r1
  same : ∀ (k : Nat) v zs, r1[k]? = some (v, zs) → ∃ ys, rs[k]? = some (v, ys) ∧ ys.length = zs.length
  len : r1.length = rs.length
  done : ∀ (k : Nat) v zs, r1[k]? = some (v, zs) → (k < i → zs = marks k zs.length) ∧ (k = i → zs.take j = marks k j)
  keeps : Keeps (OwnM rs) w0 wr
theorem Fill.start {w : World} {base : Nat} {rs : Lot} (h : Many w base rs) : Fill w base rs 0 0 rs w :=
  ⟨h, fun k v zs e => ⟨zs, e, rfl⟩, rfl, fun k v zs _ => ⟨fun f => by omega, fun _ => by simp [marks]⟩, Keeps.refl _ _⟩
theorem Fill.drew {w0 wr : World} {base : Nat} {rs r1 : Lot} {i j : Nat} (h : Fill w0 base rs i j r1 wr) : Fill w0 base rs i j r1 wr.drew :=
  ⟨h.many.keeps (Keeps.refl None _).drew (fun _ _ f => f), h.same, h.len, h.done, h.keeps.drew⟩
theorem Row.has {k : IntKind} {e base g n c : Nat} {w : World} {zs : List Int} (h : Row k e w base (.slice (some ⟨g, 0, Option.none⟩) n c) zs) (j : Nat) (hj : j < zs.length) : ∃ u, w.cell? ⟨g, j, Option.none⟩ = some u := by
  obtain ⟨b, o, e1, h1⟩ := (Nums.row h).1 j hj
  cases e1
  rw [Nat.zero_add] at h1
  exact ⟨_, h1⟩
theorem Fill.next {w0 wr : World} {base : Nat} {rs r1 : Lot} {i j : Nat} (h : Fill w0 base rs i j r1 wr) (hj : ∀ v zs, r1[i]? = some (v, zs) → zs.length = j) : Fill w0 base rs (i + 1) 0 r1 wr := by
  refine ⟨h.many, h.same, h.len, fun k v zs e => ⟨fun f => ?_, fun _ => by simp [marks]⟩, h.keeps⟩
  by_cases hk : k = i
  · subst hk
    have hl := hj v zs e
    have := (h.done k v zs e).2 rfl
    rw [← hl, List.take_of_length_le (Nat.le_refl _)] at this
    exact this
  · exact (h.done k v zs e).1 (by omega)
theorem Fill.put {w0 wr : World} {base : Nat} {rs r1 : Lot} {i j g c : Nat} {zs : List Int} (h : Fill w0 base rs i j r1 wr) (hi : r1[i]? = some (.slice (some ⟨g, 0, Option.none⟩) zs.length c, zs)) (hj : j < zs.length) :
    Fill w0 base rs i (j + 1) (r1.set i (.slice (some ⟨g, 0, Option.none⟩) zs.length c, zs.set j (markF i j))) (wr.setCell ⟨g, j, Option.none⟩ (.int .u8 (markF i j))) := by
  have hil : i < r1.length := (List.getElem?_eq_some_iff.1 hi).1
  have hR := h.many.row i _ _ hi
  have hKs : Keeps (One g) wr (wr.setCell ⟨g, j, Option.none⟩ (.int .u8 (markF i j))) := (Keeps.refl _ _).setCell _ _ (fun _ => rfl)
  have get : ∀ (k : Nat) v ys, (r1.set i (.slice (some ⟨g, 0, Option.none⟩) zs.length c, zs.set j (markF i j)))[k]? = some (v, ys) → (k = i ∧ v = .slice (some ⟨g, 0, Option.none⟩) zs.length c ∧ ys = zs.set j (markF i j)) ∨ (k ≠ i ∧ r1[k]? = some (v, ys)) := by
    intro k v ys e
    rw [List.getElem?_set] at e
    by_cases hk : i = k
    · subst hk
      rw [if_pos rfl, if_pos hil] at e
      cases e
      exact .inl ⟨rfl, rfl, rfl⟩
    · rw [if_neg hk] at e
      exact .inr ⟨fun e => hk e.symm, e⟩
  have getv : ∀ (k : Nat) v ys, (r1.set i (.slice (some ⟨g, 0, Option.none⟩) zs.length c, zs.set j (markF i j)))[k]? = some (v, ys) → ∃ ys', r1[k]? = some (v, ys') := by
    intro k v ys e
    rcases get k v ys e with ⟨rfl, rfl, rfl⟩ | ⟨_, e⟩
    · exact ⟨_, hi⟩
    · exact ⟨_, e⟩
  refine ⟨⟨fun k v ys e => ?_, fun k l v ys u us b e1 e2 hkl => ?_⟩, fun k v ys e => ?_, by rw [List.length_set]; exact h.len, fun k v ys e => ?_, ?_⟩
  · rcases get k v ys e with ⟨rfl, rfl, rfl⟩ | ⟨hk, e⟩
    · exact hR.store rfl j _
    · exact (h.many.row k v ys e).keeps hKs (fun b eb hb => h.many.far k i v ys _ _ b e hi hk eb (by rw [hb]; rfl))
  · obtain ⟨y1, f1⟩ := getv k v ys e1
    obtain ⟨y2, f2⟩ := getv l u us e2
    exact h.many.far k l v y1 u y2 b f1 f2 hkl
  · rcases get k v ys e with ⟨rfl, rfl, rfl⟩ | ⟨hk, e⟩
    · obtain ⟨y, e1, e2⟩ := h.same k _ _ hi
      exact ⟨y, e1, by rw [List.length_set]; exact e2⟩
    · exact h.same k v ys e
  · rcases get k v ys e with ⟨rfl, rfl, rfl⟩ | ⟨hk, e⟩
    · refine ⟨fun f => by omega, fun _ => ?_⟩
      rw [marks_succ, ← (h.done k _ _ hi).2 rfl]
      have hj' : j < (zs.set j (markF k j)).length := by rw [List.length_set]; exact hj
      rw [List.take_succ_eq_append_getElem hj', List.take_set_of_le (Nat.le_refl _)]
      simp
    · exact ⟨(h.done k v ys e).1, fun f => absurd f hk⟩
  · refine h.keeps.setCell _ _ fun _ => ?_
    obtain ⟨y, e1, _⟩ := h.same i _ _ hi
    exact ⟨i, _, y, e1, rfl⟩

/-! ### Each is appended to -/
def Terr (vs cur : Lot) (k b : Nat) : Prop := (∃ (v : Value) (zs : List Int), vs[k]? = some (v, zs) ∧ v.ownBlock = some b) ∨ (∃ (v : Value) (zs : List Int), cur[k]? = some (v, zs) ∧ v.ownBlock = some b)
/-- The slices that were handed in: what they are. -/
structure Forms (w0 : World) (rs vs : Lot) : Prop where
  form : ∀ (k : Nat) A l c zs, vs[k]? = some (.slice A l c, zs) → l = zs.length ∧ ∀ ad, A = some ad → ∃ b, ad = ⟨b, 0, Option.none⟩ ∧ (Value.slice A l c).ownBlock = some b
  full : ∀ (k : Nat) v zs, vs[k]? = some (v, zs) → zs = marks k zs.length ∧ (∃ A l c, v = .slice A l c) ∧ ∃ ys, rs[k]? = some (v, ys) ∧ ys.length = zs.length
structure Sec (w0 wr : World) (base : Nat) (rs vs cur : Lot) (m : Value) (i j : Nat) : Prop where
  len : cur.length = vs.length
  row : ∀ (k : Nat) v zs, cur[k]? = some (v, zs) → Row .u8 5 wr base v zs
  old : ∀ (k : Nat) A l c zs, vs[k]? = some (.slice A l c, zs) → Nums .u8 wr A zs
  apart : ∀ k l b, k ≠ l → Terr vs cur k b → ¬ Terr vs cur l b
  more : wr.ownsRow base 24 1 m i ((cur.take i).map (·.1))
  off : ∀ k b, Terr vs cur k b → ¬ m.ownBlock = some b
  lt : ∀ k b, Terr vs cur k b → b < wr.heap.size
  rest : ∀ k : Nat, i < k → cur[k]? = vs[k]?
  at0 : j = 0 → cur[i]? = vs[i]?
  now : ∀ v zs u ys, cur[i]? = some (v, zs) → vs[i]? = some (u, ys) → zs = ys ++ tails i j
  done : ∀ (k : Nat) v zs u ys, k < i → cur[k]? = some (v, zs) → vs[k]? = some (u, ys) → zs = ys ++ tails k 96
  home : ∀ (k : Nat) v zs b, cur[k]? = some (v, zs) → v.ownBlock = some b → OwnM rs b ∨ w0.heap.size ≤ b
  mnew : ∀ b, m.ownBlock = some b → w0.heap.size ≤ b
  keeps : Keeps (OwnM rs) w0 wr

theorem owns_open {w : World} {base e n : Nat} {v : Value} {xs : List Value} (h : w.ownsRow base e 1 v n xs) : ∃ A c, v = .slice A n c := by
  rcases h.2 with ⟨rfl, h0⟩ | ⟨g, cap, cur, rfl, -⟩
  · exact ⟨_, _, by rw [h0]⟩
  · exact ⟨_, _, rfl⟩
theorem owns_at {w : World} {base e n : Nat} {v : Value} {xs : List Value} (h : w.ownsRow base e 1 v n xs) (h0 : 0 < n) : ∃ g c, v = .slice (some ⟨g, 0, Option.none⟩) n c ∧ ∀ (j : Nat) u, xs[j]? = some u → w.cell? ⟨g, j, Option.none⟩ = some u := by
  rcases h.2 with ⟨rfl, h1⟩ | ⟨g, cap, cur, rfl, -⟩
  · omega
  · refine ⟨g, cap, rfl, fun j u hu => ?_⟩
    have := h.cells (g := g) rfl j u hu
    rwa [Addr.add_lit, Nat.zero_add] at this

theorem Fill.forms {w0 wr : World} {base : Nat} {rs r1 : Lot} (h : Fill w0 base rs rs.length 0 r1 wr) : Forms w0 rs r1 := by
  refine ⟨fun k A l c zs e => ?_, fun k v zs e => ?_⟩
  · obtain ⟨A', c', e1, -, -, -, h4, h5⟩ := (h.many.row k _ zs e).open_
    cases e1
    refine ⟨rfl, fun ad ea => ?_⟩
    obtain ⟨b, e2⟩ := h5 ad ea
    exact ⟨b, e2, (h4 b 0 (ea.trans (by rw [e2]))).1⟩
  · have hk : k < rs.length := by rw [← h.len]; exact (List.getElem?_eq_some_iff.1 e).1
    obtain ⟨A, c, e1⟩ := (h.many.row k v zs e).slice
    exact ⟨(h.done k v zs e).1 hk, ⟨A, _, c, e1⟩, h.same k v zs e⟩

theorem Fill.sec {w0 wr : World} {base : Nat} {rs r1 : Lot} (h : Fill w0 base rs rs.length 0 r1 wr) : Sec w0 wr base rs r1 r1 (.slice Option.none 0 0) 0 0 := by
  have terr : ∀ k b, Terr r1 r1 k b → ∃ v zs, r1[k]? = some (v, zs) ∧ v.ownBlock = some b := fun k b t => t.elim id id
  refine ⟨rfl, h.many.row, fun k A l c zs e => (Nums.row (h.many.row k _ zs e)).1, fun k l b hkl t1 t2 => ?_, World.ownsRow_nil _ _ _ _, fun k b _ e => by simp [Value.ownBlock] at e, fun k b t => ?_, fun _ _ => rfl, fun _ => rfl, fun v zs u ys e1 e2 => ?_, fun k _ _ _ _ f => by omega, fun k v zs b e eb => ?_, fun b e => by simp [Value.ownBlock] at e, h.keeps⟩
  · obtain ⟨v, zs, e, eb⟩ := terr k b t1
    obtain ⟨u, ys, e', eb'⟩ := terr l b t2
    exact h.many.far k l v zs u ys b e e' hkl eb eb'
  · obtain ⟨v, zs, e, eb⟩ := terr k b t
    exact ((h.many.row k v zs e).lt b eb).2
  · rw [e1] at e2; cases e2; simp [tails]
  · obtain ⟨ys, e', _⟩ := h.same k v zs e
    exact .inl ⟨k, v, ys, e', eb⟩

theorem Sec.push {w0 wr w1 w2 : World} {base : Nat} {rs vs cur : Lot} {m g g' : Value} {i j : Nat} {zs : List Int} (h : Sec w0 wr base rs vs cur m i j) (F : Forms w0 rs vs) (hi : cur[i]? = some (g, zs)) (hA : Keeps None wr w1)
    (hr : Row .u8 5 w2 base g' (zs ++ [255 - markF i j])) (hf : Fine g g' w1 w2) : Sec w0 w2 base rs vs (cur.set i (g', zs ++ [255 - markF i j])) m i (j + 1) := by
  have hil : i < cur.length := (List.getElem?_eq_some_iff.1 hi).1
  have s1 := hA.size
  have s2 := hf.keeps.size
  have get : ∀ (k : Nat) v ys, (cur.set i (g', zs ++ [255 - markF i j]))[k]? = some (v, ys) → (k = i ∧ v = g' ∧ ys = zs ++ [255 - markF i j]) ∨ (k ≠ i ∧ cur[k]? = some (v, ys)) := by
    intro k v ys e
    rw [List.getElem?_set] at e
    by_cases hk : i = k
    · subst hk
      rw [if_pos rfl, if_pos hil] at e
      cases e
      exact .inl ⟨rfl, rfl, rfl⟩
    · rw [if_neg hk] at e
      exact .inr ⟨fun e => hk e.symm, e⟩
  have gT : ∀ b, g.ownBlock = some b → Terr vs cur i b := fun b e => .inr ⟨g, zs, hi, e⟩
  have terr : ∀ k b, Terr vs (cur.set i (g', zs ++ [255 - markF i j])) k b → Terr vs cur k b ∨ (k = i ∧ b = w1.heap.size ∧ g'.ownBlock = some b) := by
    rintro k b (t | ⟨v, ys, e, eb⟩)
    · exact .inl (.inl t)
    · rcases get k v ys e with ⟨rfl, rfl, rfl⟩ | ⟨hk, e⟩
      · rcases hf.loc with l | l
        · exact .inl (gT b (l ▸ eb))
        · exact .inr ⟨rfl, by rw [l] at eb; cases eb; rfl, eb⟩
      · exact .inl (.inr ⟨v, ys, e, eb⟩)
  have hmlt : ∀ b, m.ownBlock = some b → b < wr.heap.size := fun b e => (World.ownsRow.lt h.more b e).2
  refine ⟨by rw [List.length_set]; exact h.len, fun k v ys e => ?_, fun k A l c ys e => ?_, fun k l b hkl t1 t2 => ?_, ?_, fun k b t e => ?_, fun k b t => ?_, fun k hk => ?_, fun e => by omega, fun v ys u us e1 e2 => ?_, fun k v ys u us hk e1 e2 => ?_, fun k v ys b e eb => ?_, h.mnew, ?_⟩
  · rcases get k v ys e with ⟨rfl, rfl, rfl⟩ | ⟨hk, e⟩
    · exact hr
    · exact ((h.row k v ys e).grew hA).keeps hf.keeps fun b eb f => h.apart k i b hk (.inr ⟨v, ys, e, eb⟩) (gT b f)
  · have hN := (h.old k A l c ys e).grew hA
    obtain ⟨fl, fa⟩ := F.form k A l c ys e
    by_cases hk : k = i
    · subst hk
      have hz := h.now g zs _ _ hi e
      refine hN.fine (v := g) (v' := g') (fun ad ea => ?_) hr ⟨tails k j ++ [255 - markF k j], by rw [hz, List.append_assoc]⟩ hf
      obtain ⟨b, e1, _⟩ := fa ad ea
      exact ⟨b, e1⟩
    · refine hN.keeps hf.keeps fun b o ea f => ?_
      obtain ⟨b', e1, eo⟩ := fa _ ea
      cases e1
      exact h.apart k i b hk (.inl ⟨_, _, e, eo⟩) (gT b f)
  · rcases terr k b t1 with t1' | ⟨rfl, rfl, -⟩
    · have t1 := t1'
      rcases terr l b t2 with t2 | ⟨rfl, rfl, -⟩
      · exact h.apart k l b hkl t1 t2
      · have := h.lt k _ t1'; omega
    · rcases terr l _ t2 with t2 | ⟨rfl, -, -⟩
      · have := h.lt l _ t2; omega
      · exact hkl rfl
  · have e : (cur.set i (g', zs ++ [255 - markF i j])).take i = cur.take i := List.take_set_of_le (Nat.le_refl _)
    rw [e]
    exact owns_keeps (owns_grew h.more hA) hf.keeps fun b eb f => h.off i b (gT b f) eb
  · rcases terr k b t with t | ⟨rfl, rfl, -⟩
    · exact h.off k b t e
    · have := hmlt _ e; omega
  · rcases terr k b t with t | ⟨rfl, rfl, eb⟩
    · have := h.lt k b t; omega
    · exact (hr.lt _ eb).2
  · rw [List.getElem?_set_ne (by omega)]; exact h.rest k hk
  · rcases get i v ys e1 with ⟨-, rfl, rfl⟩ | ⟨hk, -⟩
    · rw [tails_succ, ← List.append_assoc, ← h.now g zs u us hi e2]
    · exact absurd rfl hk
  · rcases get k v ys e1 with ⟨rfl, -, -⟩ | ⟨-, e1⟩
    · omega
    · exact h.done k v ys u us hk e1 e2
  · rcases get k v ys e with ⟨rfl, rfl, rfl⟩ | ⟨-, e⟩
    · rcases hf.loc with l | l
      · exact h.home k g zs b hi (l ▸ eb)
      · rw [l] at eb; cases eb
        have := h.keeps.size
        exact .inr (by omega)
    · exact h.home k v ys b e eb
  · refine (h.keeps.trans hA.of_none).andThen hf.keeps fun b hb e => ?_
    rcases h.home i g zs b hi e with q | q
    · exact q
    · omega

theorem Sec.more_ {w0 wr w1 w2 : World} {base : Nat} {rs vs cur : Lot} {m m' g : Value} {i : Nat} {zs : List Int} (h : Sec w0 wr base rs vs cur m i 96) (F : Forms w0 rs vs) (hi : cur[i]? = some (g, zs)) (hA : Keeps None wr w1)
    (hr : w2.ownsRow base 24 1 m' (i + 1) ((cur.take i).map (·.1) ++ [g])) (hk : Keeps (OwnB m) w1 w2) (hl : m'.ownBlock = m.ownBlock ∨ m'.ownBlock = some w1.heap.size) : Sec w0 w2 base rs vs cur m' (i + 1) 0 := by
  have s1 := hA.size
  have s2 := hk.size
  have s0 := h.keeps.size
  refine ⟨h.len, fun k v ys e => ?_, fun k A l c ys e => ?_, h.apart, ?_, fun k b t e => ?_, fun k b t => ?_, fun k hk => h.rest k (by omega), fun _ => h.rest _ (by omega), fun v ys u us e1 e2 => ?_, fun k v ys u us hk e1 e2 => ?_, h.home, fun b e => ?_, ?_⟩
  · exact ((h.row k v ys e).grew hA).keeps hk fun b eb f => h.off k b (.inr ⟨v, ys, e, eb⟩) f
  · refine ((h.old k A l c ys e).grew hA).keeps hk fun b o ea f => ?_
    obtain ⟨b', e1, eo⟩ := (F.form k A l c ys e).2 _ ea
    cases e1
    exact h.off k b (.inl ⟨_, _, e, eo⟩) f
  · rw [take_succ_of hi, List.map_append]; exact hr
  · rcases hl with l | l
    · exact h.off k b t (l ▸ e)
    · rw [e] at l; cases l; have := h.lt k _ t; omega
  · have := h.lt k b t; omega
  · rw [h.rest (i + 1) (by omega)] at e1
    rw [e1] at e2; cases e2; simp [tails]
  · by_cases hki : k = i
    · subst hki; exact h.now v ys u us e1 e2
    · exact h.done k v ys u us (by omega) e1 e2
  · rcases hl with l | l
    · exact h.mnew b (l ▸ e)
    · rw [e] at l; cases l; omega
  · refine (h.keeps.trans hA.of_none).andThen hk fun b hb e => ?_
    have := h.mnew b e
    omega

set_option maxRecDepth 100000 in
set_option maxHeartbeats 1600000 in
theorem grown_any (A : Option Addr) (n cap : Nat) (rs : Lot) (base : Nat) (w : World) (hA : Lies w A rs) (hM : Many w base rs) (hn : rs.length = n) (hr : n ≤ 4398046511104) (hl : ∀ (i : Nat) v zs, rs[i]? = some (v, zs) → zs.length ≤ 140737488351232) (hb : base ≤ w.heap.size) :
    Calls Try.prog 16 #[.slice A n cap] w (fun e w' => e = .returned (.bool true) ∧ Keeps (OwnM rs) w w') := by
  subst hn
  go_enter Try.func16, Try.ntmps16
  go_wp2
  go_loopw [3] (fun x wr => ∃ (i : Nat) (r1 : Lot), i ≤ rs.length ∧ x = .int .i64 i ∧ Fill w base rs i 0 r1 wr) (fun x _ => rs.length - (intOf x).toNat)
  case atStart => exact ⟨0, rs, by omega, rfl, Fill.start hM⟩
  case round =>
    obtain ⟨i, r1, hi, rfl, hF⟩ := hrel
    by_cases hlt : i < rs.length
    · have hlt1 : i < r1.length := by rw [hF.len]; exact hlt
      obtain ⟨⟨v, zs⟩, hvz⟩ : ∃ p, r1[i]? = some p := ⟨_, List.getElem?_eq_getElem hlt1⟩
      obtain ⟨ys, hvy, hyz⟩ := hF.same i v zs hvz
      have hlz := hl i v ys hvy
      rw [hyz] at hlz
      obtain ⟨Av, cv, rfl, hcv, -⟩ := (hF.many.row i v zs hvz).open_
      have HVZ := Lib.hid hvz
      have HVY := Lib.hid hvy
      have HYZ := Lib.hid hyz
      clear hvz hvy hyz
      obtain ⟨m, hm⟩ : ∃ m, m = zs.length := ⟨_, rfl⟩
      rw [← hm] at HVZ HVY HYZ hcv hlz
      have HM := Lib.hid hm
      clear hm
      go_wp2
      go_loopw [4] (fun x wr => ∃ (j : Nat) (r1 : Lot), j ≤ m ∧ x = .int .i64 j ∧ Fill w base rs i j r1 wr) (fun x _ => m - (intOf x).toNat)
      case atStart => exact ⟨0, r1, by omega, rfl, hF⟩
      case round =>
        clear hF HVZ HYZ HM hlt1
        obtain ⟨j, r1, hj, rfl, hF⟩ := hrel
        have hlt1 : i < r1.length := by rw [hF.len]; exact hlt
        obtain ⟨⟨v2, zs⟩, hvz⟩ : ∃ p, r1[i]? = some p := ⟨_, List.getElem?_eq_getElem hlt1⟩
        obtain ⟨ys2, hvy2, hyz2⟩ := hF.same i _ zs hvz
        have hee := HVY.out.symm.trans hvy2
        cases hee
        obtain ⟨b, o, rfl, hob, hc⟩ := (hA.keeps hF.keeps) i _ _ HVY.out
        have hzl : zs.length = m := by obtain ⟨_, _, e, _⟩ := (hF.many.row i _ zs hvz).open_; cases e; rfl
        by_cases hjm : j < m
        · obtain ⟨g, c2, e2, -⟩ := (hF.many.row i _ zs hvz).pos (by omega)
          cases e2
          have hR := hF.many.row i _ zs hvz
          have hf := hR.free j
          have HVZ := Lib.hid hvz
          have HEQ := Lib.hid hyz2
          clear hvz hyz2 hvy2
          go_wp2
          refine wp_region_still_tail 9 (by kernel_rfl) (by kernel_rfl) ?_
          simp only [List.take_succ_cons, List.take_zero, List.drop_succ_cons, List.drop_zero]
          repeat still_step
          refine wpStill_step (fun K hK => ?_)
          go_simp
          refine ⟨_, (mark_any i j _ (by omega)).mono fun _ _ h => ⟨h.1, h.2.symm⟩, hK _ ?_⟩
          clear hK K
          repeat still_step
          refine wpStill_nil ?_
          change wpList _ _ _ _ _ wr.drew
          have hF2 := hF.drew
          obtain ⟨wq, hwq⟩ : ∃ wq, wq = wr.drew := ⟨_, rfl⟩
          rw [← hwq] at hF2 ⊢
          clear hwq hF hc hR hf hA
          have hR2 := hF2.many.row i _ zs HVZ.out
          have hf := hR2.free j
          obtain ⟨q, hq⟩ := hR2.has j hjm
          go_wp2
          go_roundw
          case rel => exact ⟨j + 1, _, by omega, by go_num, hF2.put HVZ.out hjm⟩
          case measure => simp [intOf]; omega
        · obtain rfl : j = m := by omega
          have hzl2 : ∀ v zs', r1[i]? = some (v, zs') → zs'.length = j := by
            intro v zs' e
            rw [hvz] at e
            cases e
            exact hzl
          have hF2 := hF.next hzl2
          clear hF hvz hyz2 hvy2 hzl2
          go_wp2
          go_roundw
          case rel => exact ⟨i + 1, r1, by omega, by go_num, hF2⟩
          case measure => simp [intOf]; omega
    · obtain rfl : i = rs.length := by omega
      have FS := hF.forms
      have hS := hF.sec
      obtain ⟨vs, hvs⟩ : ∃ vs, vs = r1 := ⟨_, rfl⟩
      have hlen : vs.length = rs.length := by rw [hvs]; exact hF.len
      rw [← hvs] at FS hS
      have HLEN := Lib.hid hlen
      clear hF hvs hlen hM
      obtain ⟨N, hN⟩ : ∃ N, N = rs.length := ⟨_, rfl⟩
      rw [← hN] at hr hi HLEN ⊢
      have HN := Lib.hid hN
      clear hN hlt
      go_wp2_with fail
      obtain ⟨i0, hi0, hz0, hz1, hz2⟩ := info_parts Try.infoU8
      obtain ⟨i1, hi1, hy0, hy1, hy2⟩ := info_parts Try.infoBs
      go_loopw [5, 6] (fun m x wr => ∃ (i : Nat) (cur : Lot), i ≤ N ∧ x = .int .i64 i ∧ Sec w wr base rs vs cur m i 0) (fun _ x _ => N - (intOf x).toNat)
      case atStart => exact ⟨0, vs, by omega, rfl, hS⟩
      case round =>
        clear hS hi
        obtain ⟨i, cur, hi, rfl, hS⟩ := hrel
        have hcl : cur.length = N := hS.len.trans HLEN.out
        by_cases hlt : i < N
        · obtain ⟨⟨g, zs⟩, hgz⟩ : ∃ p, cur[i]? = some p := ⟨_, List.getElem?_eq_getElem (by omega)⟩
          have hv := (hS.at0 rfl).symm.trans hgz
          obtain ⟨hzm, ⟨Av, lv, cv, rfl⟩, ys, hry, hyl⟩ := FS.full i g zs hv
          obtain ⟨hl1, -⟩ := FS.form i _ _ _ _ hv
          obtain rfl := hl1
          have hlz := hl i _ ys hry
          rw [hyl] at hlz
          obtain ⟨b, o, rfl, hob, hc⟩ := (hA.keeps hS.keeps) i _ _ hry
          have hmo := hS.more
          obtain ⟨Am, cm, rfl⟩ := owns_open hmo
          have HGZ := Lib.hid hgz
          have HV := Lib.hid hv
          have HZM := Lib.hid hzm
          have HCL := Lib.hid hcl
          clear hgz hv hzm hry hyl hcl hmo
          obtain ⟨z0, hz0'⟩ : ∃ z0, z0 = zs.length := ⟨_, rfl⟩
          have HZ0 := Lib.hid hz0'
          rw [← hz0'] at hlz hc HGZ HV
          clear hz0'
          go_wp2_with fail
          go_loopw [7, 8] (fun g x wr => ∃ (j : Nat) (cur : Lot) (zs : List Int), j ≤ 96 ∧ x = .int .i64 j ∧ Hid (cur[i]? = some (g, zs)) ∧ Hid (zs.length = z0 + j) ∧ Sec w wr base rs vs cur (.slice Am i cm) i j) (fun _ x _ => 96 - (intOf x).toNat)
          case atStart => exact ⟨0, cur, zs, by omega, rfl, HGZ, Lib.hid HZ0.out.symm, hS⟩
          case round =>
            clear hS HGZ HCL HZ0 HV HZM hc
            obtain ⟨j, cur, zs, hj, rfl, HGZ, HZL, hS⟩ := hrel
            have hR := hS.row i _ zs HGZ.out
            obtain ⟨Ag, cg, rfl⟩ := hR.slice
            by_cases hj6 : j < 96
            · have hsz := hS.keeps.size
              have hmu := markF_u8 i j
              have hzl : zs.length ≤ 140737488351232 + j := by have := HZL.out; omega
              go_wp2_with (first
                | (go_at_call 38; refine (mark_any i j _ (by omega)).mono ?_; rintro e w' ⟨rfl, rfl⟩; obtain ⟨mk, hmk⟩ : ∃ mk, mk = markF i j := ⟨_, rfl⟩; rw [← hmk] at hmu ⊢; have HMK := Lib.hid hmk; clear hmk)
                | (at_builtin; refine wpList_append_fine _ rfl (.tmp 51) (.tmp 56) 24 rfl base 5 i0 (.int .u8 0) 1 1 Try.underlying24 hi0 hz0 hz1 hz2 rfl (by decide) _ zs.length _ rfl (hR.grew ((Keeps.refl None _).alloc _)).raw ⟨wr.heap.size, 0, Option.none⟩ 1 1 [Value.int .u8 (255 - mk)] rfl rfl (cell_one_new _ _ _) (ints_oneCell _ [255 - mk]) (by unfold maxLen; omega) (by omega) (by simp; omega) ?_; intro v' w2 hown hfine; have hr2 : Row .u8 5 w2 base v' (zs ++ [255 - mk]) := Row.of_append rfl rfl hown; clear hown))
              have hr3 : Row .u8 5 w2 base v' (zs ++ [255 - markF i j]) := by rw [← HMK.out]; exact hr2
              have hS2 := hS.push FS HGZ.out ((Keeps.refl None _).alloc _) hr3 hfine
              have hil : i < cur.length := (List.getElem?_eq_some_iff.1 HGZ.out).1
              go_roundw
              case rel => exact ⟨j + 1, _, zs ++ [255 - markF i j], by omega, by go_num, Lib.hid (by rw [List.getElem?_set_self hil]), Lib.hid (by rw [List.length_append, HZL.out]; simp; omega), hS2⟩
              case measure => simp [intOf]; omega
            · obtain rfl : j = 96 := by omega
              have hmr := hS.more
              have hsz := hS.keeps.size
              go_wp2_with (at_builtin; refine wpList_append_row _ rfl (.tmp 58) (.tmp 60) 35 rfl base 24 i1 (.slice Option.none 0 0) 1 24 Try.underlying35 hi1 hy0 hy1 hy2 rfl (by decide) _ i _ rfl (owns_grew hmr ((Keeps.refl None _).alloc _)) (some ⟨wr.heap.size, 0, Option.none⟩) 1 1 [Value.slice Ag zs.length cg] rfl rfl (fun e => by cases e) (src_new wr 24 _ _ rfl) (by intro u hu; simp at hu; subst hu; rfl) (by unfold maxLen; omega) (by omega) (by simp; omega) ?_; intro v' w2 hown hk1 hloc)
              have hS2 := hS.more_ FS HGZ.out ((Keeps.refl None _).alloc _) hown hk1 hloc
              go_roundw
              case rel => exact ⟨i + 1, cur, by omega, by go_num, hS2⟩
              case measure => simp [intOf]; omega
        · obtain rfl : i = N := by omega
          obtain ⟨Am, cm, rfl⟩ := owns_open hS.more
          go_wp2_with fail
          go_loopw [9] (fun x wx => ∃ (k : Nat), k ≤ i ∧ x = .int .i64 k ∧ Drew wr wx) (fun x _ => i - (intOf x).toNat)
          case atStart => exact ⟨0, by omega, rfl, Drew.refl _⟩
          case round =>
            obtain ⟨k, hk, rfl, hDr⟩ := hrel
            have KD := hDr.keeps None
            by_cases hlt : k < i
            · obtain ⟨⟨v, zs⟩, hv⟩ : ∃ p, vs[k]? = some p := ⟨_, List.getElem?_eq_getElem (by have := HLEN.out; omega)⟩
              obtain ⟨⟨g, ys⟩, hg⟩ : ∃ p, cur[k]? = some p := ⟨_, List.getElem?_eq_getElem (by omega)⟩
              obtain ⟨hzm, ⟨Av, lv, cv, rfl⟩, us, hry, hyl⟩ := FS.full k v zs hv
              obtain ⟨hl1, -⟩ := FS.form k _ _ _ _ hv
              obtain rfl := hl1
              have hlz := hl k _ us hry
              rw [hyl] at hlz
              obtain ⟨b, o, rfl, hob, hc⟩ := (hA.keeps hS.keeps) k _ _ hry
              have hc := KD.cell hc id
              have hO := (hS.old k _ _ _ _ hv).grew KD
              have hR := (hS.row k g ys hg).grew KD
              have hd := hS.done k g ys _ zs hlt hg hv
              obtain ⟨gm, cm', em, hmc⟩ := owns_at hS.more (by omega)
              cases em
              have hmk := KD.cell (hmc k g (by rw [List.getElem?_map, List.getElem?_take, if_pos hlt, hg]; rfl)) id
              have hyl2 : ys.length = zs.length + 96 := by rw [hd, List.length_append, tails_len]
              obtain ⟨gb, cg, rfl, -⟩ := hR.pos (by omega)
              have hRN := (Nums.row hR).1
              have HD := Lib.hid hd
              have HZM := Lib.hid hzm
              have HYL := Lib.hid hyl2
              have HMC := Lib.hid hmc
              clear hd hzm hv hry hyl hg hcl hyl2 hmc HLEN HN
              obtain ⟨z0, hz0'⟩ : ∃ z0, z0 = zs.length := ⟨_, rfl⟩
              have HZ0 := Lib.hid hz0'
              rw [← hz0'] at hlz hc
              clear hz0'
              go_wp2_with fail
              have HC := Lib.hid hc
              have HMK := Lib.hid hmk
              clear hc hmk
              rename World => w5
              go_loopw [11] (fun x wx => ∃ (j : Nat), j ≤ z0 ∧ x = .int .i64 j ∧ Drew w5 wx) (fun x _ => z0 - (intOf x).toNat)
              case atStart => exact ⟨0, by omega, rfl, Drew.refl _⟩
              case round =>
                obtain ⟨j, hj, rfl, hD2⟩ := hrel
                have KD2 := hD2.keeps None
                have hc := KD2.cell HC.out id
                by_cases hjz : j < z0
                · have hmk := KD2.cell HMK.out id
                  obtain ⟨x, b1, o1, rfl, hcx, hx⟩ := (hO.grew KD2).get j (by have := HZ0.out; omega)
                  obtain ⟨y, b2, o2, e2, hcy, hy⟩ := (hRN.grew KD2).get j (by have := HYL.out; have := HZ0.out; omega)
                  cases e2
                  have hxm : x = markF k j := by
                    have h1 := hx.out
                    rw [HZM.out, ← HZ0.out] at h1
                    simp [marks, hjz] at h1
                    exact h1.symm
                  have hym : y = markF k j := by
                    have h1 := hy.out
                    rw [HD.out, List.getElem?_append_left (by have := HZ0.out; omega), hx.out] at h1
                    cases h1
                    exact hxm
                  rw [hxm] at hcx
                  rw [hym, Nat.zero_add] at hcy
                  have hyl3 : j < ys.length := by have := HYL.out; have := HZ0.out; omega
                  clear hxm hym hx hy
                  go_wp2_with fail
                  go_quiet ((go_at_call 38; exact Calls.quiet_of_same ((mark_any k j _ (by omega)).mono fun _ _ h => ⟨h.1, h.2.symm⟩)))
                  go_wp2_with fail
                  go_roundw
                  case rel => exact ⟨j + 1, by omega, by go_num, hD2.more nq⟩
                  case measure => simp [intOf]; omega
                · obtain rfl : j = z0 := by omega
                  go_wp2_with fail
                  clear hc
                  rename World => w6
                  go_loopw [12] (fun x wx => ∃ (l : Nat), l ≤ 96 ∧ x = .int .i64 l ∧ Drew w6 wx) (fun x _ => 96 - (intOf x).toNat)
                  case atStart => exact ⟨0, by omega, rfl, Drew.refl _⟩
                  case round =>
                    obtain ⟨l, hl6, rfl, hD3⟩ := hrel
                    have KD3 := hD3.keeps None
                    by_cases hl9 : l < 96
                    · have hmk := KD3.cell (KD2.cell HMK.out id) id
                      obtain ⟨y, b2, o2, e2, hcy, hy⟩ := ((hRN.grew KD2).grew KD3).get (j + l) (by have := HYL.out; have := HZ0.out; omega)
                      cases e2
                      have hmu := markF_u8 k l
                      have hym : y = 255 - markF k l := by
                        have h1 := hy.out
                        rw [HD.out, List.getElem?_append_right (by have := HZ0.out; omega), show j + l - zs.length = l by have := HZ0.out; omega] at h1
                        simp [tails, hl9] at h1
                        exact h1.symm
                      rw [hym] at hcy
                      have hyl3 : j + l < ys.length := by have := HYL.out; have := HZ0.out; omega
                      clear hym hy
                      obtain ⟨mk, hmk0⟩ : ∃ mk, mk = markF k l := ⟨_, rfl⟩
                      rw [← hmk0] at hmu hcy
                      have HMM := Lib.hid hmk0
                      clear hmk0
                      rw [Nat.zero_add] at hcy
                      have hl7 : l ≤ 140737488351232 := by omega
                      have hmc : Hid (∀ w', Calls Try.prog 38 #[.int .i64 (k : Int), .int .i64 (l : Int)] w' fun e w'' => e = .returned (.int .u8 mk) ∧ w'' = w') := Lib.hid fun w' => (mark_any k l w' hl7).mono fun _ _ h => ⟨by rw [HMM.out]; exact h.1, h.2.symm⟩
                      have hs1 : IntKind.i64.wrap ((j : Int) + (l : Int)) = (j : Int) + l := IntWalk.i64_in _ (by omega)
                      have hs2 : 0 ≤ (j : Int) + (l : Int) ∧ (j : Int) + (l : Int) < (ys.length : Int) := by omega
                      have hs3 : ((j : Int) + (l : Int)).toNat = j + l := by omega
                      obtain ⟨hs4, hs5⟩ := hs2
                      go_wp2_with fail
                      go_quiet ((go_at_call 38; exact Calls.quiet_of_same (hmc.out _)))
                      clear hs1 hs3
                      go_wp2_with fail
                      go_roundw
                      case rel => exact ⟨l + 1, by omega, by go_num, hD3.more nq⟩
                      case measure => simp [intOf]; omega
                    · obtain rfl : l = 96 := by omega
                      go_wp2_with fail
                      go_roundw
                      case rel => exact ⟨k + 1, by omega, by go_num, ⟨by obtain ⟨a, ha⟩ := hDr.out; obtain ⟨b, hb⟩ := hD2.out; obtain ⟨c, hc⟩ := hD3.out; exact ⟨a + b + c, by rw [hc, hb, ha]; simp [Nat.add_assoc]⟩⟩⟩
                      case measure => simp [intOf]; omega
            · go_wp2_with fail
              go_ret
              exact ⟨rfl, hS.keeps.trans (hDr.keeps _)⟩
end Go.Proofs.Ytcihfjfbcfgidaa
