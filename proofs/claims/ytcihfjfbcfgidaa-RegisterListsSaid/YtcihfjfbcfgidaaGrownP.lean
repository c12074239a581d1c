/- cairnlaw7.grownMsgs: lists of messages, each in a row of its own, that are written full and appended to: all stay so. -/
import Derived.Test.YtcihfjfbcfgidaaGrow
import Derived.Test.YtcihfjfbcfgidaaNear
import Derived.Test.YtcihfjfbcfgidaaBack7
import Derived.Deep.DeepCutAuto
import Derived.StillTailTactics
import Derived.IntWalk
import Derived.Deep.CutBlock
import Derived.Handy
namespace Go.Proofs.Ytcihfjfbcfgidaa.GM
open Go.RowKit Go.Maps Go.Proofs.YtcihfjfbcfgidaaW.PrintLast
set_option linter.unusedVariables false

def mkC (a b : Int) : List Value := msgL a false 0 false 0 b 0 0 0 0 0 0 0 (.slice Option.none 0 0)
theorem mkC_len (a b : Int) : (mkC a b).length = 30 := rfl
theorem mkC_one (a b : Int) : ∀ u ∈ mkC a b, u.oneCell' = true := by simp [mkC, msgL, Value.oneCell']

/-! ### Rows of messages -/
theorem flat_all {sz : Nat} : ∀ (zs : List (List Value)), (∀ r ∈ zs, r.length = sz) → ∀ (q r : Nat), r < sz → zs.flatten[q * sz + r]? = (zs[q]?).bind (·[r]?)
  | [], _, q, r, _ => by simp
  | x :: zs, h, q, r, hr => by
    have hx : x.length = sz := h x (by simp)
    cases q with
    | zero => simp only [Nat.zero_mul, Nat.zero_add, List.flatten_cons, List.getElem?_cons_zero, Option.bind_some]; rw [List.getElem?_append_left (by omega)]
    | succ q =>
      have ih := flat_all zs (fun r hr => h r (by simp [hr])) q r hr
      have e : (q + 1) * sz + r = x.length + (q * sz + r) := by rw [hx, Nat.succ_mul]; omega
      rw [e, List.flatten_cons, List.getElem?_append_right (by omega), Nat.add_sub_cancel_left, ih]
      simp
def setMany (xs : List Value) : Nat → List Value → List Value
  | _, [] => xs
  | o, c :: r => setMany (xs.set o c) (o + 1) r
theorem setMany_get : ∀ (cs : List Value) (xs : List Value) (o k : Nat), o + cs.length ≤ xs.length → (setMany xs o cs)[k]? = if o ≤ k ∧ k < o + cs.length then cs[k - o]? else xs[k]?
  | [], xs, o, k, _ => by rw [if_neg (by simp)]; rfl
  | c :: r, xs, o, k, h => by
    simp only [List.length_cons] at h
    have ih := setMany_get r (xs.set o c) (o + 1) k (by rw [List.length_set]; omega)
    simp only [setMany]
    rw [ih, List.getElem?_set]
    by_cases h1 : k = o
    · subst h1
      rw [if_neg (by omega), if_pos rfl, if_pos (by omega), if_pos ⟨Nat.le_refl _, by simp⟩]
      simp
    · by_cases h2 : o + 1 ≤ k ∧ k < o + 1 + r.length
      · rw [if_pos h2, if_pos ⟨by omega, by simp; omega⟩, show k - o = (k - (o + 1)) + 1 by omega]
        simp
      · rw [if_neg h2, if_neg (fun e => h1 e.symm), if_neg (by simp only [List.length_cons]; omega)]
theorem setMany_flat (zs : List (List Value)) (h : ∀ r ∈ zs, r.length = 30) (j : Nat) (hj : j < zs.length) (cs : List Value) (hc : cs.length = 30) : setMany zs.flatten (j * 30) cs = (zs.set j cs).flatten := by
  have h' : ∀ r ∈ zs.set j cs, r.length = 30 := fun r hr => by
    rcases List.mem_or_eq_of_mem_set hr with h1 | rfl
    · exact h r h1
    · exact hc
  have hfl : zs.flatten.length = zs.length * 30 := flat_len _ h
  refine List.ext_getElem? fun k => ?_
  have hk : k = (k / 30) * 30 + k % 30 := by omega
  have hm : k % 30 < 30 := by omega
  rw [setMany_get _ _ _ _ (by rw [hfl, hc]; omega)]
  have e1 := flat_all (zs.set j cs) h' (k / 30) (k % 30) hm
  have e2 := flat_all zs h (k / 30) (k % 30) hm
  rw [← hk] at e1 e2
  rw [e1, e2, List.getElem?_set]
  by_cases hq : j = k / 30
  · rw [if_pos (by omega), if_pos hq, if_pos hj]
    simp only [Option.bind_some]
    congr 1
    omega
  · rw [if_neg (by omega), if_neg hq]

structure MRow (w : World) (base : Nat) (v : Value) (zs : List (List Value)) : Prop where
  own : w.ownsRow base 66 30 v zs.length zs.flatten
  len : ∀ r ∈ zs, r.length = 30
def Msgs (w : World) (A : Option Addr) (zs : List (List Value)) : Prop := ∀ (j : Nat) r, zs[j]? = some r → ∃ b, A = some ⟨b, 0, Option.none⟩ ∧ ∀ (i : Nat) v, r[i]? = some v → w.cell? ⟨b, j * 30 + i, Option.none⟩ = some v
theorem MRow.keeps {S : Nat → Prop} {w w' : World} {base : Nat} {v : Value} {zs : List (List Value)} (h : MRow w base v zs) (hk : Keeps S w w') (hS : ∀ g, v.ownBlock = some g → ¬ S g) : MRow w' base v zs := ⟨owns_keeps h.own hk hS, h.len⟩
theorem MRow.grew {w w' : World} {base : Nat} {v : Value} {zs : List (List Value)} (h : MRow w base v zs) (hk : Keeps None w w') : MRow w' base v zs := ⟨owns_grew h.own hk, h.len⟩
theorem MRow.lt {w : World} {base : Nat} {v : Value} {zs : List (List Value)} (h : MRow w base v zs) : ∀ g, v.ownBlock = some g → base ≤ g ∧ g < w.heap.size := World.ownsRow.lt h.own
theorem MRow.slice {w : World} {base : Nat} {v : Value} {zs : List (List Value)} (h : MRow w base v zs) : ∃ A c, v = .slice A zs.length c := owns_slice h.own
theorem MRow.msgs {w : World} {base n c : Nat} {A : Option Addr} {zs : List (List Value)} (h : MRow w base (.slice A n c) zs) : Msgs w A zs := by
  intro j r hr
  have hj : j < zs.length := (List.getElem?_eq_some_iff.1 hr).1
  have hl := h.len r (List.mem_of_getElem? hr)
  rcases h.own.2 with ⟨e, h0⟩ | ⟨g, cap, cur, e, -⟩
  · omega
  · cases e
    refine ⟨g, rfl, fun i v hv => ?_⟩
    have hi : i < 30 := by have := (List.getElem?_eq_some_iff.1 hv).1; omega
    have hc := h.own.cells (g := g) rfl (j * 30 + i) v (by rw [flat_all zs h.len j i hi, hr]; exact hv)
    rwa [Addr.add_lit, Nat.zero_add] at hc
theorem MRow.open_ {w : World} {base : Nat} {v : Value} {zs : List (List Value)} (h : MRow w base v zs) :
    ∃ A c, v = .slice A zs.length c ∧ (∀ b o, A = some ⟨b, o, Option.none⟩ → v.ownBlock = some b ∧ base ≤ b ∧ b < w.heap.size) ∧ (∀ ad, A = some ad → ∃ b, ad = ⟨b, 0, Option.none⟩) := by
  have hlt := h.lt
  rcases h.own.2 with ⟨rfl, h0⟩ | ⟨g, cap, cur, rfl, hb, hg, hn, hc, hs, ht⟩
  · exact ⟨Option.none, 0, by rw [h0], (fun b o e => by cases e), (fun ad e => by cases e)⟩
  · exact ⟨_, cap, rfl, (fun b o e => by cases e; exact ⟨rfl, hlt g rfl⟩), (fun ad e => by cases e; exact ⟨g, rfl⟩)⟩
theorem MRow.pos {w : World} {base : Nat} {v : Value} {zs : List (List Value)} (h : MRow w base v zs) (h0 : 0 < zs.length) : ∃ g c, v = .slice (some ⟨g, 0, Option.none⟩) zs.length c := by
  rcases h.own.2 with ⟨e, h1⟩ | ⟨g, cap, cur, rfl, -⟩
  · omega
  · exact ⟨g, cap, rfl⟩
theorem MRow.there {w : World} {base g n c : Nat} {zs : List (List Value)} (h : MRow w base (.slice (some ⟨g, 0, Option.none⟩) n c) zs) : w.there g 0 (zs.length * 30) := by
  by_cases h0 : 0 < zs.length
  · obtain ⟨A, c', e⟩ := h.slice
    cases e
    obtain ⟨g', e, ht⟩ := owns_there h.own h0
    cases e
    exact ht
  · intro i hi; omega
theorem setCells_owns {base g n c : Nat} : ∀ (cs : List Value) (w : World) (o : Nat) (xs : List Value), w.ownsRow base 66 30 (.slice (some ⟨g, 0, Option.none⟩) n c) n xs → (w.setCells g o cs).ownsRow base 66 30 (.slice (some ⟨g, 0, Option.none⟩) n c) n (setMany xs o cs)
  | [], w, o, xs, h => h
  | v :: r, w, o, xs, h => by
    simp only [World.setCells, setMany]
    exact setCells_owns r _ (o + 1) _ (World.ownsRow.stored h o v).1
theorem MRow.store {w : World} {base g n c : Nat} {zs : List (List Value)} (h : MRow w base (.slice (some ⟨g, 0, Option.none⟩) n c) zs) (hn : zs.length = n) (j : Nat) (hj : j < zs.length) (cs : List Value) (hc : cs.length = 30) : MRow (w.setCells g (j * 30) cs) base (.slice (some ⟨g, 0, Option.none⟩) n c) (zs.set j cs) := by
  refine ⟨?_, fun r hr => ?_⟩
  · rw [List.length_set, ← setMany_flat zs h.len j hj cs hc, hn]
    have ho := h.own
    rw [hn] at ho
    exact setCells_owns cs w (j * 30) zs.flatten ho
  · rcases List.mem_or_eq_of_mem_set hr with h1 | rfl
    · exact h.len r h1
    · exact hc
theorem MRow.of_append {w : World} {base n : Nat} {v : Value} {zs : List (List Value)} {cs : List Value} (hl : ∀ r ∈ zs, r.length = 30) (hn : zs.length = n) (hc : cs.length = 30) (h : w.ownsRow base 66 30 v (n + 1) (zs.flatten ++ cs)) : MRow w base v (zs ++ [cs]) := by
  refine ⟨?_, fun r hr => ?_⟩
  · rw [List.length_append, List.flatten_append, hn]
    simpa using h
  · rcases List.mem_append.1 hr with h1 | h1
    · exact hl r h1
    · simp at h1; subst h1; exact hc
theorem Msgs.keeps {S : Nat → Prop} {w w' : World} {A : Option Addr} {zs : List (List Value)} (h : Msgs w A zs) (hk : Keeps S w w') (hA : Off A S) : Msgs w' A zs := fun j r hr => by
  obtain ⟨b, e, hc⟩ := h j r hr
  exact ⟨b, e, fun i v hv => hk.cell (hc i v hv) (hA b 0 e)⟩
theorem Msgs.grew {w w' : World} {A : Option Addr} {zs : List (List Value)} (h : Msgs w A zs) (hk : Keeps None w w') : Msgs w' A zs := h.keeps hk (Off.none_ A)
theorem Msgs.fine {base : Nat} {w w' : World} {v v' : Value} {A : Option Addr} {zs ys' : List (List Value)} (h : Msgs w A zs) (hr : MRow w' base v' ys') (hp : zs <+: ys') (hf : Fine v v' w w') : Msgs w' A zs := by
  rcases hf with ⟨h1, h2⟩ | ⟨_, h2⟩
  · intro j r hj
    obtain ⟨b, e1, hc⟩ := h j r hj
    by_cases hb : v.ownBlock = some b
    · have hb' : v'.ownBlock = some b := h1.trans hb
      have hjl : j < zs.length := (List.getElem?_eq_some_iff.1 hj).1
      obtain ⟨t, rfl⟩ := hp
      obtain ⟨g, c, rfl⟩ := hr.pos (by simp; omega)
      cases hb'
      obtain ⟨b3, e3, hc3⟩ := hr.msgs j r (by rw [List.getElem?_append_left hjl]; exact hj)
      cases e3
      exact ⟨_, e1, hc3⟩
    · exact ⟨b, e1, fun i u hu => h2.cell (hc i u hu) (fun e => hb e)⟩
  · exact h.grew h2
theorem owns_at {w : World} {base e n : Nat} {v : Value} {xs : List Value} (h : w.ownsRow base e 1 v n xs) (h0 : 0 < n) : ∃ g c, v = .slice (some ⟨g, 0, Option.none⟩) n c ∧ ∀ (j : Nat) u, xs[j]? = some u → w.cell? ⟨g, j, Option.none⟩ = some u := by
  rcases h.2 with ⟨rfl, h1⟩ | ⟨g, cap, cur, rfl, -⟩
  · omega
  · refine ⟨g, cap, rfl, fun j u hu => ?_⟩
    have := h.cells (g := g) rfl j u hu
    rwa [Addr.add_lit, Nat.zero_add] at this

theorem infoMs : (Try.prog.info? 55).map (fun i => (i.zero, i.size, i.bytes)) = some (some (.slice Option.none 0 0), 1, 24) := by kernel_rfl
def marks (i m : Nat) : List (List Value) := (List.range m).map (fun j : Nat => mkC (500 + (i : Int)) (j : Int))
def tails (i m : Nat) : List (List Value) := (List.range m).map (fun j : Nat => mkC (-1 - (i : Int)) (j : Int))
theorem marks_succ (i m : Nat) : marks i (m + 1) = marks i m ++ [mkC (500 + (i : Int)) (m : Int)] := by unfold marks; rw [List.range_succ]; simp
theorem tails_succ (i m : Nat) : tails i (m + 1) = tails i m ++ [mkC (-1 - (i : Int)) (m : Int)] := by unfold tails; rw [List.range_succ]; simp
theorem marks_len (i m : Nat) : (marks i m).length = m := by simp [marks]
theorem tails_len (i m : Nat) : (tails i m).length = m := by simp [tails]

/-- Slices of bytes, and what they hold. -/
abbrev Lot := List (Value × List (List Value))
def OwnM (rs : Lot) : Nat → Prop := fun b => ∃ (i : Nat) (v : Value) (zs : List (List Value)), rs[i]? = some (v, zs) ∧ v.ownBlock = some b

structure Many (w : World) (base : Nat) (rs : Lot) : Prop where
  row : ∀ (i : Nat) v zs, rs[i]? = some (v, zs) → MRow w base v zs
  far : ∀ (i j : Nat) v zs u ys b, rs[i]? = some (v, zs) → rs[j]? = some (u, ys) → i ≠ j → v.ownBlock = some b → ¬ u.ownBlock = some b
theorem Many.keeps {S : Nat → Prop} {w w' : World} {base : Nat} {rs : Lot} (h : Many w base rs) (hk : Keeps S w w') (hS : ∀ b, OwnM rs b → ¬ S b) : Many w' base rs :=
  ⟨fun i v zs e => (h.row i v zs e).keeps hk (fun b eb => hS b ⟨i, v, zs, e, eb⟩), h.far⟩

/-- The list of the slices, where it lies. -/
def Lies (w : World) (A : Option Addr) (rs : Lot) : Prop :=
  ∀ (i : Nat) v zs, rs[i]? = some (v, zs) → ∃ b o, A = some ⟨b, o, Option.none⟩ ∧ ¬ OwnM rs b ∧ w.cell? ⟨b, o + i, Option.none⟩ = some v
theorem Lies.keeps {w w' : World} {A : Option Addr} {rs : Lot} (h : Lies w A rs) (hk : Keeps (OwnM rs) w w') : Lies w' A rs := fun i v zs e => by
  obtain ⟨b, o, h1, h2, h3⟩ := h i v zs e
  exact ⟨b, o, h1, h2, hk.cell h3 h2⟩

/-! ### All are written full -/
structure Fill (w0 : World) (base : Nat) (rs : Lot) (i j : Nat) (r1 : Lot) (wr : World) : Prop where
  many : Many wr base r1
  same : ∀ (k : Nat) v zs, r1[k]? = some (v, zs) → ∃ ys, rs[k]? = some (v, ys) ∧ ys.length = zs.length
  len : r1.length = rs.length
  done : ∀ (k : Nat) v zs, r1[k]? = some (v, zs) → (k < i → zs = marks k zs.length) ∧ (k = i → zs.take j = marks k j)
  keeps : Keeps (OwnM rs) w0 wr
theorem Fill.start {w : World} {base : Nat} {rs : Lot} (h : Many w base rs) : Fill w base rs 0 0 rs w :=
  ⟨h, fun k v zs e => ⟨zs, e, rfl⟩, rfl, fun k v zs _ => ⟨fun f => by omega, fun _ => by simp [marks]⟩, Keeps.refl _ _⟩
theorem Fill.drew {w0 wr : World} {base : Nat} {rs r1 : Lot} {i j : Nat} (h : Fill w0 base rs i j r1 wr) : Fill w0 base rs i j r1 wr.drew :=
  ⟨h.many.keeps (Keeps.refl None _).drew (fun _ _ f => f), h.same, h.len, h.done, h.keeps.drew⟩
theorem Fill.next {w0 wr : World} {base : Nat} {rs r1 : Lot} {i j : Nat} (h : Fill w0 base rs i j r1 wr) (hj : ∀ v zs, r1[i]? = some (v, zs) → zs.length = j) : Fill w0 base rs (i + 1) 0 r1 wr := by
  refine ⟨h.many, h.same, h.len, fun k v zs e => ⟨fun f => ?_, fun _ => by simp [marks]⟩, h.keeps⟩
  by_cases hk : k = i
  · subst hk
    have hl := hj v zs e
    have := (h.done k v zs e).2 rfl
    rw [← hl, List.take_of_length_le (Nat.le_refl _)] at this
    exact this
  · exact (h.done k v zs e).1 (by omega)
theorem Fill.put {w0 wr : World} {base : Nat} {rs r1 : Lot} {i j g c : Nat} {zs : List (List Value)} (h : Fill w0 base rs i j r1 wr) (hi : r1[i]? = some (.slice (some ⟨g, 0, Option.none⟩) zs.length c, zs)) (hj : j < zs.length) :
    Fill w0 base rs i (j + 1) (r1.set i (.slice (some ⟨g, 0, Option.none⟩) zs.length c, zs.set j (mkC (500 + (i : Int)) (j : Int)))) (wr.setCells g (j * 30) (mkC (500 + (i : Int)) (j : Int))) := by
  have hil : i < r1.length := (List.getElem?_eq_some_iff.1 hi).1
  have hR := h.many.row i _ _ hi
  have hKs : Keeps (One g) wr (wr.setCells g (j * 30) (mkC (500 + (i : Int)) (j : Int))) := (Keeps.refl _ _).setCells _ _ _ (fun _ => rfl)
  have get : ∀ (k : Nat) v ys, (r1.set i (.slice (some ⟨g, 0, Option.none⟩) zs.length c, zs.set j (mkC (500 + (i : Int)) (j : Int))))[k]? = some (v, ys) → (k = i ∧ v = .slice (some ⟨g, 0, Option.none⟩) zs.length c ∧ ys = zs.set j (mkC (500 + (i : Int)) (j : Int))) ∨ (k ≠ i ∧ r1[k]? = some (v, ys)) := by
    intro k v ys e
    rw [List.getElem?_set] at e
    by_cases hk : i = k
    · subst hk
      rw [if_pos rfl, if_pos hil] at e
      cases e
      exact .inl ⟨rfl, rfl, rfl⟩
    · rw [if_neg hk] at e
      exact .inr ⟨fun e => hk e.symm, e⟩
  have getv : ∀ (k : Nat) v ys, (r1.set i (.slice (some ⟨g, 0, Option.none⟩) zs.length c, zs.set j (mkC (500 + (i : Int)) (j : Int))))[k]? = some (v, ys) → ∃ ys', r1[k]? = some (v, ys') := by
    intro k v ys e
    rcases get k v ys e with ⟨rfl, rfl, rfl⟩ | ⟨_, e⟩
    · exact ⟨_, hi⟩
    · exact ⟨_, e⟩
  refine ⟨⟨fun k v ys e => ?_, fun k l v ys u us b e1 e2 hkl => ?_⟩, fun k v ys e => ?_, by rw [List.length_set]; exact h.len, fun k v ys e => ?_, ?_⟩
  · rcases get k v ys e with ⟨rfl, rfl, rfl⟩ | ⟨hk, e⟩
    · exact hR.store rfl j hj _ (mkC_len _ _)
    · exact (h.many.row k v ys e).keeps hKs (fun b eb hb => h.many.far k i v ys _ _ b e hi hk eb (by rw [hb]; rfl))
  · obtain ⟨y1, f1⟩ := getv k v ys e1
    obtain ⟨y2, f2⟩ := getv l u us e2
    exact h.many.far k l v y1 u y2 b f1 f2 hkl
  · rcases get k v ys e with ⟨rfl, rfl, rfl⟩ | ⟨hk, e⟩
    · obtain ⟨y, e1, e2⟩ := h.same k _ _ hi
      exact ⟨y, e1, by rw [List.length_set]; exact e2⟩
    · exact h.same k v ys e
  · rcases get k v ys e with ⟨rfl, rfl, rfl⟩ | ⟨hk, e⟩
    · refine ⟨fun f => by omega, fun _ => ?_⟩
      rw [marks_succ, ← (h.done k _ _ hi).2 rfl]
      have hj' : j < (zs.set j (mkC (500 + (k : Int)) (j : Int))).length := by rw [List.length_set]; exact hj
      rw [List.take_succ_eq_append_getElem hj', List.take_set_of_le (Nat.le_refl _)]
      simp
    · exact ⟨(h.done k v ys e).1, fun f => absurd f hk⟩
  · refine h.keeps.setCells _ _ _ fun _ => ?_
    obtain ⟨y, e1, _⟩ := h.same i _ _ hi
    exact ⟨i, _, y, e1, rfl⟩

/-! ### Each is appended to -/
def Terr (vs cur : Lot) (k b : Nat) : Prop := (∃ (v : Value) (zs : List (List Value)), vs[k]? = some (v, zs) ∧ v.ownBlock = some b) ∨ (∃ (v : Value) (zs : List (List Value)), cur[k]? = some (v, zs) ∧ v.ownBlock = some b)
/-- The slices that were handed in: what they are. -/
structure Forms (w0 : World) (rs vs : Lot) : Prop where
  form : ∀ (k : Nat) A l c zs, vs[k]? = some (.slice A l c, zs) → l = zs.length ∧ ∀ ad, A = some ad → ∃ b, ad = ⟨b, 0, Option.none⟩ ∧ (Value.slice A l c).ownBlock = some b
  full : ∀ (k : Nat) v zs, vs[k]? = some (v, zs) → zs = marks k zs.length ∧ (∃ A l c, v = .slice A l c) ∧ ∃ ys, rs[k]? = some (v, ys) ∧ ys.length = zs.length
structure Sec (w0 wr : World) (base : Nat) (rs vs cur : Lot) (m : Value) (i j : Nat) : Prop where
  len : cur.length = vs.length
  row : ∀ (k : Nat) v zs, cur[k]? = some (v, zs) → MRow wr base v zs
  old : ∀ (k : Nat) A l c zs, vs[k]? = some (.slice A l c, zs) → Msgs wr A zs
  apart : ∀ k l b, k ≠ l → Terr vs cur k b → ¬ Terr vs cur l b
  more : wr.ownsRow base 55 1 m i ((cur.take i).map (·.1))
  off : ∀ k b, Terr vs cur k b → ¬ m.ownBlock = some b
  lt : ∀ k b, Terr vs cur k b → b < wr.heap.size
  rest : ∀ k : Nat, i < k → cur[k]? = vs[k]?
  at0 : j = 0 → cur[i]? = vs[i]?
  now : ∀ v zs u ys, cur[i]? = some (v, zs) → vs[i]? = some (u, ys) → zs = ys ++ tails i j
  done : ∀ (k : Nat) v zs u ys, k < i → cur[k]? = some (v, zs) → vs[k]? = some (u, ys) → zs = ys ++ tails k 40
  home : ∀ (k : Nat) v zs b, cur[k]? = some (v, zs) → v.ownBlock = some b → OwnM rs b ∨ w0.heap.size ≤ b
  mnew : ∀ b, m.ownBlock = some b → w0.heap.size ≤ b
  keeps : Keeps (OwnM rs) w0 wr

theorem Fill.forms {w0 wr : World} {base : Nat} {rs r1 : Lot} (h : Fill w0 base rs rs.length 0 r1 wr) : Forms w0 rs r1 := by
  refine ⟨fun k A l c zs e => ?_, fun k v zs e => ?_⟩
  · obtain ⟨A', c', e1, h4, h5⟩ := (h.many.row k _ zs e).open_
    cases e1
    refine ⟨rfl, fun ad ea => ?_⟩
    obtain ⟨b, e2⟩ := h5 ad ea
    exact ⟨b, e2, (h4 b 0 (ea.trans (by rw [e2]))).1⟩
  · have hk : k < rs.length := by rw [← h.len]; exact (List.getElem?_eq_some_iff.1 e).1
    obtain ⟨A, c, e1⟩ := (h.many.row k v zs e).slice
    exact ⟨(h.done k v zs e).1 hk, ⟨A, _, c, e1⟩, h.same k v zs e⟩

theorem Fill.sec {w0 wr : World} {base : Nat} {rs r1 : Lot} (h : Fill w0 base rs rs.length 0 r1 wr) : Sec w0 wr base rs r1 r1 (.slice Option.none 0 0) 0 0 := by
  have terr : ∀ k b, Terr r1 r1 k b → ∃ v zs, r1[k]? = some (v, zs) ∧ v.ownBlock = some b := fun k b t => t.elim id id
  refine ⟨rfl, h.many.row, fun k A l c zs e => (h.many.row k _ zs e).msgs, fun k l b hkl t1 t2 => ?_, World.ownsRow_nil _ _ _ _, fun k b _ e => by simp [Value.ownBlock] at e, fun k b t => ?_, fun _ _ => rfl, fun _ => rfl, fun v zs u ys e1 e2 => ?_, fun k _ _ _ _ f => by omega, fun k v zs b e eb => ?_, fun b e => by simp [Value.ownBlock] at e, h.keeps⟩
  · obtain ⟨v, zs, e, eb⟩ := terr k b t1
    obtain ⟨u, ys, e', eb'⟩ := terr l b t2
    exact h.many.far k l v zs u ys b e e' hkl eb eb'
  · obtain ⟨v, zs, e, eb⟩ := terr k b t
    exact ((h.many.row k v zs e).lt b eb).2
  · rw [e1] at e2; cases e2; simp [tails]
  · obtain ⟨ys, e', _⟩ := h.same k v zs e
    exact .inl ⟨k, v, ys, e', eb⟩

theorem Sec.push {w0 wr w1 w2 : World} {base : Nat} {rs vs cur : Lot} {m g g' : Value} {i j : Nat} {zs : List (List Value)} (h : Sec w0 wr base rs vs cur m i j) (F : Forms w0 rs vs) (hi : cur[i]? = some (g, zs)) (hA : Keeps None wr w1)
    (hr : MRow w2 base g' (zs ++ [mkC (-1 - (i : Int)) (j : Int)])) (hf : Fine g g' w1 w2) : Sec w0 w2 base rs vs (cur.set i (g', zs ++ [mkC (-1 - (i : Int)) (j : Int)])) m i (j + 1) := by
  have hil : i < cur.length := (List.getElem?_eq_some_iff.1 hi).1
  have s1 := hA.size
  have s2 := hf.keeps.size
  have get : ∀ (k : Nat) v ys, (cur.set i (g', zs ++ [mkC (-1 - (i : Int)) (j : Int)]))[k]? = some (v, ys) → (k = i ∧ v = g' ∧ ys = zs ++ [mkC (-1 - (i : Int)) (j : Int)]) ∨ (k ≠ i ∧ cur[k]? = some (v, ys)) := by
    intro k v ys e
    rw [List.getElem?_set] at e
    by_cases hk : i = k
    · subst hk
      rw [if_pos rfl, if_pos hil] at e
      cases e
      exact .inl ⟨rfl, rfl, rfl⟩
    · rw [if_neg hk] at e
      exact .inr ⟨fun e => hk e.symm, e⟩
  have gT : ∀ b, g.ownBlock = some b → Terr vs cur i b := fun b e => .inr ⟨g, zs, hi, e⟩
  have terr : ∀ k b, Terr vs (cur.set i (g', zs ++ [mkC (-1 - (i : Int)) (j : Int)])) k b → Terr vs cur k b ∨ (k = i ∧ b = w1.heap.size ∧ g'.ownBlock = some b) := by
    rintro k b (t | ⟨v, ys, e, eb⟩)
    · exact .inl (.inl t)
    · rcases get k v ys e with ⟨rfl, rfl, rfl⟩ | ⟨hk, e⟩
      · rcases hf.loc with l | l
        · exact .inl (gT b (l ▸ eb))
        · exact .inr ⟨rfl, by rw [l] at eb; cases eb; rfl, eb⟩
      · exact .inl (.inr ⟨v, ys, e, eb⟩)
  have hmlt : ∀ b, m.ownBlock = some b → b < wr.heap.size := fun b e => (World.ownsRow.lt h.more b e).2
  refine ⟨by rw [List.length_set]; exact h.len, fun k v ys e => ?_, fun k A l c ys e => ?_, fun k l b hkl t1 t2 => ?_, ?_, fun k b t e => ?_, fun k b t => ?_, fun k hk => ?_, fun e => by omega, fun v ys u us e1 e2 => ?_, fun k v ys u us hk e1 e2 => ?_, fun k v ys b e eb => ?_, h.mnew, ?_⟩
  · rcases get k v ys e with ⟨rfl, rfl, rfl⟩ | ⟨hk, e⟩
    · exact hr
    · exact ((h.row k v ys e).grew hA).keeps hf.keeps fun b eb f => h.apart k i b hk (.inr ⟨v, ys, e, eb⟩) (gT b f)
  · have hN := (h.old k A l c ys e).grew hA
    obtain ⟨fl, fa⟩ := F.form k A l c ys e
    by_cases hk : k = i
    · subst hk
      have hz := h.now g zs _ _ hi e
      refine hN.fine (v := g) (v' := g') hr ⟨tails k j ++ [mkC (-1 - (k : Int)) (j : Int)], by rw [hz, List.append_assoc]⟩ hf
    · refine hN.keeps hf.keeps fun b o ea f => ?_
      obtain ⟨b', e1, eo⟩ := fa _ ea
      cases e1
      exact h.apart k i b hk (.inl ⟨_, _, e, eo⟩) (gT b f)
  · rcases terr k b t1 with t1' | ⟨rfl, rfl, -⟩
    · have t1 := t1'
      rcases terr l b t2 with t2 | ⟨rfl, rfl, -⟩
      · exact h.apart k l b hkl t1 t2
      · have := h.lt k _ t1'; omega
    · rcases terr l _ t2 with t2 | ⟨rfl, -, -⟩
      · have := h.lt l _ t2; omega
      · exact hkl rfl
  · have e : (cur.set i (g', zs ++ [mkC (-1 - (i : Int)) (j : Int)])).take i = cur.take i := List.take_set_of_le (Nat.le_refl _)
    rw [e]
    exact owns_keeps (owns_grew h.more hA) hf.keeps fun b eb f => h.off i b (gT b f) eb
  · rcases terr k b t with t | ⟨rfl, rfl, -⟩
    · exact h.off k b t e
    · have := hmlt _ e; omega
  · rcases terr k b t with t | ⟨rfl, rfl, eb⟩
    · have := h.lt k b t; omega
    · exact (hr.lt _ eb).2
  · rw [List.getElem?_set_ne (by omega)]; exact h.rest k hk
  · rcases get i v ys e1 with ⟨-, rfl, rfl⟩ | ⟨hk, -⟩
    · rw [tails_succ, ← List.append_assoc, ← h.now g zs u us hi e2]
    · exact absurd rfl hk
  · rcases get k v ys e1 with ⟨rfl, -, -⟩ | ⟨-, e1⟩
    · omega
    · exact h.done k v ys u us hk e1 e2
  · rcases get k v ys e with ⟨rfl, rfl, rfl⟩ | ⟨-, e⟩
    · rcases hf.loc with l | l
      · exact h.home k g zs b hi (l ▸ eb)
      · rw [l] at eb; cases eb
        have := h.keeps.size
        exact .inr (by omega)
    · exact h.home k v ys b e eb
  · refine (h.keeps.trans hA.of_none).andThen hf.keeps fun b hb e => ?_
    rcases h.home i g zs b hi e with q | q
    · exact q
    · omega

theorem Sec.more_ {w0 wr w1 w2 : World} {base : Nat} {rs vs cur : Lot} {m m' g : Value} {i : Nat} {zs : List (List Value)} (h : Sec w0 wr base rs vs cur m i 40) (F : Forms w0 rs vs) (hi : cur[i]? = some (g, zs)) (hA : Keeps None wr w1)
    (hr : w2.ownsRow base 55 1 m' (i + 1) ((cur.take i).map (·.1) ++ [g])) (hk : Keeps (OwnB m) w1 w2) (hl : m'.ownBlock = m.ownBlock ∨ m'.ownBlock = some w1.heap.size) : Sec w0 w2 base rs vs cur m' (i + 1) 0 := by
  have s1 := hA.size
  have s2 := hk.size
  have s0 := h.keeps.size
  refine ⟨h.len, fun k v ys e => ?_, fun k A l c ys e => ?_, h.apart, ?_, fun k b t e => ?_, fun k b t => ?_, fun k hk => h.rest k (by omega), fun _ => h.rest _ (by omega), fun v ys u us e1 e2 => ?_, fun k v ys u us hk e1 e2 => ?_, h.home, fun b e => ?_, ?_⟩
  · exact ((h.row k v ys e).grew hA).keeps hk fun b eb f => h.off k b (.inr ⟨v, ys, e, eb⟩) f
  · refine ((h.old k A l c ys e).grew hA).keeps hk fun b o ea f => ?_
    obtain ⟨b', e1, eo⟩ := (F.form k A l c ys e).2 _ ea
    cases e1
    exact h.off k b (.inl ⟨_, _, e, eo⟩) f
  · rw [take_succ_of hi, List.map_append]; exact hr
  · rcases hl with l | l
    · exact h.off k b t (l ▸ e)
    · rw [e] at l; cases l; have := h.lt k _ t; omega
  · have := h.lt k b t; omega
  · rw [h.rest (i + 1) (by omega)] at e1
    rw [e1] at e2; cases e2; simp [tails]
  · by_cases hki : k = i
    · subst hki; exact h.now v ys u us e1 e2
    · exact h.done k v ys u us (by omega) e1 e2
  · rcases hl with l | l
    · exact h.mnew b (l ▸ e)
    · rw [e] at l; cases l; omega
  · refine (h.keeps.trans hA.of_none).andThen hk fun b hb e => ?_
    have := h.mnew b e
    omega

end Go.Proofs.Ytcihfjfbcfgidaa.GM
