/- WireBook's state: what was told so far, each in a row of its own; one thing read. -/
import Derived.Test.YtnhhmkgcgogddaaBookParts
import Derived.Test.YtnhhmkgcgogddaaByteRows
namespace Go.Proofs.Ytnhhmkgcgogddaa.wireBook
open Go.RowKit Go.Proofs.Ytnhhmkgcgogddaa.wireWrites Go.Proofs.Ytnhhmkgcgogddaa.wireBack Go.Proofs.Ytnhhmkgcgogddaa.putLoop Go.Proofs.Ytnhhmkgcgogddaa.apart
set_option linter.unusedVariables false

theorem OwnM.app {rs ns : Lot} {b : Nat} (h : OwnM (rs ++ ns) b) : OwnM rs b ∨ OwnM ns b := by
  obtain ⟨i, u, ys, e, eb⟩ := h
  by_cases hi : i < rs.length
  · rw [List.getElem?_append_left hi] at e
    exact .inl ⟨i, u, ys, e, eb⟩
  · rw [List.getElem?_append_right (by omega)] at e
    exact .inr ⟨_, u, ys, e, eb⟩
theorem OwnM.one {v : Value} {zs : List Int} {b : Nat} (h : OwnM [(v, zs)] b) : v.ownBlock = some b := by
  obtain ⟨i, u, ys, e, eb⟩ := h
  have := List.mem_of_getElem? e
  simp at this
  obtain ⟨rfl, rfl⟩ := this
  exact eb
theorem OwnM.two {v u : Value} {zs ys : List Int} {b : Nat} (h : OwnM [(v, zs), (u, ys)] b) : v.ownBlock = some b ∨ u.ownBlock = some b := by
  rw [← List.singleton_append] at h
  exact (OwnM.app h).imp OwnM.one OwnM.one
theorem Many.lt {w : World} {base : Nat} {rs : Lot} (h : Many w base rs) {b : Nat} (hb : OwnM rs b) : base ≤ b ∧ b < w.heap.size := by
  obtain ⟨i, v, zs, e, eb⟩ := hb
  exact (h.row i v zs e).lt b eb
theorem Many.snoc {w : World} {base : Nat} {rs : Lot} {v : Value} {zs : List Int} (h : Many w base rs) (hr : Row .u8 5 w base v zs) (hf : ∀ b, v.ownBlock = some b → ¬ OwnM rs b) : Many w base (rs ++ [(v, zs)]) := by
  have get : ∀ (i : Nat) u ys, (rs ++ [(v, zs)])[i]? = some (u, ys) → rs[i]? = some (u, ys) ∨ (i = rs.length ∧ u = v ∧ ys = zs) := by
    intro i u ys e
    by_cases hi : i < rs.length
    · rw [List.getElem?_append_left hi] at e
      exact .inl e
    · rw [List.getElem?_append_right (by omega)] at e
      have : i - rs.length = 0 := by
        rcases Nat.eq_zero_or_pos (i - rs.length) with h | h
        · exact h
        · rw [List.getElem?_eq_none (by simp; omega)] at e; cases e
      rw [this] at e
      cases e
      exact .inr ⟨by omega, rfl, rfl⟩
  refine ⟨fun i u ys e => ?_, fun i j u ys t us b e1 e2 hij eb eb2 => ?_⟩
  · rcases get i u ys e with e | ⟨-, rfl, rfl⟩
    · exact h.row i u ys e
    · exact hr
  · rcases get i u ys e1 with f1 | ⟨f1, f2, f3⟩
    · rcases get j t us e2 with f2 | ⟨f2, f3, f4⟩
      · exact h.far i j u ys t us b f1 f2 hij eb eb2
      · subst f3; exact hf b eb2 ⟨i, u, ys, f1, eb⟩
    · rcases get j t us e2 with g1 | ⟨g1, g2, g3⟩
      · subst f2; exact hf b eb ⟨j, t, us, g1, eb2⟩
      · omega

structure Bk (wB wr : World) (B0 : Nat) (av : Value) (rs : Lot) (N : Nat) : Prop where
  many : Many wr B0 rs
  all : wr.ownsRow B0 23 1 av rs.length (rs.map (·.1))
  off : ∀ b, OwnM rs b → ¬ av.ownBlock = some b
  len : ∀ (i : Nat) v zs, rs[i]? = some (v, zs) → zs.length ≤ 4000000
  cnt : rs.length ≤ N
  keeps : Keeps (fun k => B0 ≤ k) wB wr
  base : B0 ≤ wr.heap.size

theorem Bk.keeps_ {S : Nat → Prop} {wB wr w' : World} {B0 N : Nat} {av : Value} {rs : Lot} (h : Bk wB wr B0 av rs N) (hk : Keeps S wr w') (h1 : ∀ b, OwnM rs b → ¬ S b) (h2 : ∀ b, av.ownBlock = some b → ¬ S b) (hS : ∀ b, S b → B0 ≤ b) : Bk wB w' B0 av rs N :=
  ⟨h.many.keeps hk h1, owns_keeps h.all hk h2, h.off, h.len, h.cnt, h.keeps.trans (hk.mono fun i _ e => hS i e), Nat.le_trans h.base hk.size⟩
theorem Bk.grew {wB wr w' : World} {B0 N : Nat} {av : Value} {rs : Lot} (h : Bk wB wr B0 av rs N) (hk : Keeps None wr w') : Bk wB w' B0 av rs N := h.keeps_ hk (fun _ _ f => f) (fun _ _ f => f) (fun _ f => f.elim)
theorem Bk.avlt {wB wr : World} {B0 N : Nat} {av : Value} {rs : Lot} (h : Bk wB wr B0 av rs N) : ∀ b, av.ownBlock = some b → B0 ≤ b ∧ b < wr.heap.size := fun b e => World.ownsRow.lt h.all b e
theorem Bk.weak {wB wr : World} {B0 N M : Nat} {av : Value} {rs : Lot} (h : Bk wB wr B0 av rs N) (hM : N ≤ M) : Bk wB wr B0 av rs M := ⟨h.many, h.all, h.off, h.len, Nat.le_trans h.cnt hM, h.keeps, h.base⟩

/-- Some more that was told. -/
theorem Bk.push {wB w1 w2 w3 : World} {B0 N : Nat} {av av' : Value} {rs ns : Lot} (h : Bk wB w1 B0 av rs N) (hM : Many w1 B0 (rs ++ ns)) (hO : ∀ b, OwnM (rs ++ ns) b → ¬ av.ownBlock = some b) (hl : ∀ (i : Nat) v zs, ns[i]? = some (v, zs) → zs.length ≤ 4000000)
    (k12 : Keeps None w1 w2) (hown : w3.ownsRow B0 23 1 av' (rs.length + ns.length) (rs.map (·.1) ++ ns.map (·.1))) (hk : Keeps (OwnB av) w2 w3) (hloc : av'.ownBlock = av.ownBlock ∨ av'.ownBlock = some w2.heap.size) : Bk wB w3 B0 av' (rs ++ ns) (N + ns.length) ∧ (∀ b, av'.ownBlock = some b → av.ownBlock = some b ∨ w1.heap.size ≤ b) := by
  have s2 := k12.size
  have s3 := hk.size
  have M2 := hM.keeps k12 (fun _ _ f => f)
  refine ⟨⟨M2.keeps hk (fun b hb e => hO b hb e), ?_, fun b hb e => ?_, fun i v zs e => ?_, ?_, ?_, ?_⟩, fun b e => ?_⟩
  · rw [List.length_append, List.map_append]; exact hown
  · rcases hloc with l | l
    · exact hO b hb (l.symm.trans e)
    · rw [e] at l; cases l
      have := (Many.lt M2 hb).2
      omega
  · by_cases hi : i < rs.length
    · rw [List.getElem?_append_left hi] at e
      exact h.len i v zs e
    · rw [List.getElem?_append_right (by omega)] at e
      exact hl _ v zs e
  · rw [List.length_append]; have := h.cnt; omega
  · refine (h.keeps.trans (k12.of_none)).trans (hk.mono fun i _ e => ?_)
    exact (h.avlt i e).1
  · have := h.base; omega
  · rcases hloc with l | l
    · exact .inl (l.symm.trans e)
    · rw [e] at l; cases l; exact .inr (by omega)

theorem goF_split (its : List It) (k K : Nat) (h : k ≤ K) : ∃ T, goF its K = goF its k ++ T := by
  refine ⟨((its.drop k).take (K - k)).map rightIt |>.filter fun x => decide (x.len ≤ 2000), ?_⟩
  have e1 : its.take K = its.take k ++ (its.drop k).take (K - k) := by
    rw [← List.take_add]; congr 1; omega
  unfold goF
  rw [← List.filter_append, ← List.map_append, ← e1]
theorem outF_append (a b : List It) : outF (a ++ b) = outF a ++ outF b := by unfold outF; rw [List.flatMap_append]
theorem goF_drop {its : List It} {k K : Nat} {x : It} (h : its[k]? = some x) (hl : x.len ≤ 2000) (hk : k < K) : ∃ rest, (outF (goF its K)).drop (outF (goF its k)).length = (rightIt x).out ++ rest := by
  obtain ⟨T, e⟩ := goF_split its (k + 1) K hk
  refine ⟨outF T, ?_⟩
  rw [e, goF_yes h hl, outF_append, outF_snoc, List.append_assoc, List.drop_left]
theorem outF_len {w : World} {its : List It} (h : ∀ x ∈ its, x.Raw w) (k : Nat) : (outF (goF its k)).length ≤ 65546 * k := by
  induction k with
  | zero => simp [goF, outF]
  | succ k ih =>
    by_cases hk : k < its.length
    · obtain ⟨x, hx⟩ : ∃ x, its[k]? = some x := ⟨_, List.getElem?_eq_getElem hk⟩
      by_cases hl : x.len ≤ 2000
      · rw [goF_yes hx hl, outF_snoc, List.length_append]
        have raw := h x (List.mem_of_getElem? hx)
        have := itemF_len (kind := rightK x.kind) (n := rightN x.kind x.n) (bs := x.bs) (by rw [raw.len]; omega) (rightN_in _ _ raw.n)
        have e : (rightIt x).out.length ≤ 65546 := this
        omega
      · rw [goF_no hx hl]; omega
    · have e : goF its (k + 1) = goF its k := by
        unfold goF
        rw [List.take_of_length_le (by omega), List.take_of_length_le (by omega)]
      rw [e]; omega
theorem outF_bytes_go {w : World} {its : List It} (h : ∀ x ∈ its, x.Raw w) (k : Nat) : Bytes (outF (goF its k)) :=
  outF_bytes _ (fun x hx => (goF_good h k x hx).1.ok.bytes)

/-- One thing of those that were put is read; bytes are told in a row of their own. -/
theorem cread_book (g base : Nat) (v : Value) (zs rest : List Int) (x : It) (P : Nat) (w w0 : World) (h : (⟨P, 0, 0⟩ : St).at w g base v zs) (hr : zs.length ≤ 140737488351232) (hb : Bytes zs) (hx : putLoop.Good w0 x) (hd : zs.drop P = x.out ++ rest) :
    Calls Try.prog 33 #[.pointer (some ⟨g, 0, Option.none⟩), .int .i64 x.kind] w (fun e w' => ∃ n2 A2 l2 c2, e = .returned (.agg #[.int .i64 x.kind, .int .i64 n2, .slice A2 l2 c2]) ∧ (x.kind ≤ 2 → n2 = x.n) ∧ (2 < x.kind → Nums .u8 w' A2 x.bs ∧ x.bs.length = l2) ∧ (x.kind = 3 → Row .u8 5 w' w.heap.size (.slice A2 l2 c2) x.bs) ∧ (⟨P + x.out.length, 0, 0⟩ : St).at w' g base v zs ∧ Keeps (One g) w w') := by
  by_cases h3 : x.kind = 3
  · have hp : P ≤ zs.length := Rd.le h
    obtain ⟨kind, n, A, len, cap, bs⟩ := x
    have hl := hx.ok.len
    have hlo := hx.ok.long
    simp only at h3 hl hlo hd ⊢
    subst h3
    have e : It.out ⟨3, n, A, len, cap, bs⟩ = varF bs.length ++ bs := by unfold It.out itemF; simp
    have hs := byt_back (place := 0) (by rw [hd, e]) (by omega) hp
    have := cread_bytR g base v zs ⟨P, 0, 0⟩ w h hr hb
    rw [hs] at this
    rw [e, List.length_append]
    refine this.mono ?_
    rintro e w' ⟨A2, c2, rfl, h1, h2, h3⟩
    exact ⟨_, _, _, _, rfl, fun hh => by omega, fun _ => ⟨(Nums.row h1).1, rfl⟩, fun _ => h1, h2, h3⟩
  · refine (cread_back g base v zs rest x P w w0 h hr hb hx hd).mono ?_
    rintro e w' ⟨n2, A2, l2, c2, rfl, h1, h2, h4, h5⟩
    exact ⟨_, _, _, _, rfl, h1, h2, fun e => absurd e h3, h4, h5⟩
end Go.Proofs.Ytnhhmkgcgogddaa.wireBook
