/- NetBook: what stands between two rounds. -/
import Derived.Test.YtcplogdaepmpnaaNetNames2
import Derived.Test.YtcplogdaepmpnaaByteRowsB
import Derived.Test.YtcplogdaepmpnaaGrownBytes
namespace Go.Proofs.Ytcplogdaepmpnaa
open Go.RowKit

abbrev aA : Ad := (false, 1)
abbrev bA : Ad := (true, 2)

/-! ### What is under way: each list of bytes twice, in order -/
structure Bs (its : List By) (i : Nat) (L : Way) : Prop where
  len : L.length = 2 * i
  at_ : ∀ j x, L[j]? = some x → x.1.fr = aA ∧ x.1.to = bA ∧ x.1.ct = ((j / 2 : Nat) : Int) + 1 ∧ ∃ it, its[j / 2]? = some it ∧ x.2 = it.bs
theorem Bs.nil (its : List By) : Bs its 0 [] := ⟨rfl, fun j x h => by simp at h⟩
theorem Bs.named_no {its : List By} {i : Nat} {L : Way} (h : Bs its i L) : ∀ y ∈ L, y.1.named aA ((i : Int) + 1) = false := fun y hy => by
  obtain ⟨j, hj, e⟩ := List.mem_iff_getElem.1 hy
  obtain ⟨_, _, hc, _⟩ := h.at_ j y (by rw [← e]; exact List.getElem?_eq_getElem hj)
  have := h.len
  have h2 : ¬ y.1.ct = (i : Int) + 1 := by rw [hc]; omega
  simp [Pk.named, h2]
theorem Bs.step {its : List By} {i : Nat} {L : Way} (h : Bs its i L) {it : By} (hi : its[i]? = some it) (d d' : Value) :
    Bs its (i + 1) (L ++ [(⟨aA, (i : Int) + 1, bA, d⟩, it.bs), (⟨aA, (i : Int) + 1, bA, d'⟩, it.bs)]) := by
  have hl := h.len
  refine ⟨by simp [hl]; omega, fun j x hx => ?_⟩
  by_cases hj : j < L.length
  · rw [List.getElem?_append_left hj] at hx
    exact h.at_ j x hx
  · rw [List.getElem?_append_right (by omega)] at hx
    have hj2 : j - L.length < 2 := by
      have := (List.getElem?_eq_some_iff.1 hx).1
      simpa using this
    rcases (by omega : j = L.length ∨ j = L.length + 1) with e | e
    · have e1 : j - L.length = 0 := by omega
      have e2 : j / 2 = i := by omega
      rw [e1] at hx
      simp at hx
      subst hx
      exact ⟨rfl, rfl, by rw [e2], it, by rw [e2]; exact hi, rfl⟩
    · have e1 : j - L.length = 1 := by omega
      have e2 : j / 2 = i := by omega
      rw [e1] at hx
      simp at hx
      subst hx
      exact ⟨rfl, rfl, by rw [e2], it, by rw [e2]; exact hi, rfl⟩

theorem place_mid (L : Way) (x : Pk × List Int) (R : Way) (a : Ad) (c : Int) (h : ∀ y ∈ L, y.1.named a c = false) (hx : x.1.named a c = true) : placeP ((L ++ x :: R).map (·.1)) a c = (L.length : Int) := by
  unfold placeP
  have h1 : (List.map (fun y : Pk × List Int => y.1) (L ++ x :: R)).findIdx? (fun p => p.named a c) = some L.length := by
    rw [List.findIdx?_eq_some_iff_getElem]
    refine ⟨by simp, ?_, fun j hj => ?_⟩
    · simpa using hx
    · have := h L[j] (List.getElem_mem hj)
      rw [List.getElem_map, List.getElem_append_left hj]
      simp [this]
  rw [h1]
theorem mid_at {L R : Way} {x y : Pk × List Int} (h : (L ++ x :: R)[L.length]? = some y) : y = x := by
  rw [List.getElem?_append_right (Nat.le_refl _)] at h
  simpa using h.symm
theorem mid_erase (L R : Way) (x : Pk × List Int) : (L ++ x :: R).eraseIdx L.length = L ++ R := by
  rw [List.eraseIdx_append_of_length_le (Nat.le_refl _)]
  simp
theorem apart_mid {A B : Way} {x : Pk × List Int} (h : (A ++ x :: B).Pairwise (fun x y => ∀ b, x.1.dv.ownBlock = some b → y.1.dv.ownBlock ≠ some b)) : ∀ y ∈ A ++ B, ∀ b, x.1.dv.ownBlock = some b → y.1.dv.ownBlock ≠ some b := by
  obtain ⟨_, h2, h3⟩ := List.pairwise_append.1 h
  intro y hy b hb hyb
  rcases List.mem_append.1 hy with k | k
  · exact h3 y k x (List.mem_cons_self ..) b hyb hb
  · exact (List.pairwise_cons.1 h2).1 y k b hb hyb

/-! ### What is wanted: each slice twice -/
def wantCells (its : List By) (i : Nat) : List Value := (its.take i).flatMap (fun x => [.slice x.A x.len x.cap, .slice x.A x.len x.cap])
theorem wantCells_succ {its : List By} {i : Nat} {x : By} (h : its[i]? = some x) : wantCells its (i + 1) = wantCells its i ++ [.slice x.A x.len x.cap, .slice x.A x.len x.cap] := by
  unfold wantCells
  rw [take_succ_of h]
  simp
theorem wantCells_at (its : List By) (i j : Nat) (x : By) (hj : j < 2 * i) (hx : its[j / 2]? = some x) : (wantCells its i)[j]? = some (.slice x.A x.len x.cap) := by
  have key : ∀ (l : List By) (j : Nat) (x : By), l[j / 2]? = some x → (l.flatMap (fun x => [Value.slice x.A x.len x.cap, Value.slice x.A x.len x.cap]))[j]? = some (.slice x.A x.len x.cap) := by
    intro l
    induction l with
    | nil => intro j x h; simp at h
    | cons y r ih =>
      intro j x h
      match j, h with
      | 0, h => simp at h; subst h; rfl
      | 1, h => simp at h; subst h; rfl
      | j + 2, h =>
        have e : (j + 2) / 2 = j / 2 + 1 := by omega
        rw [e] at h
        simp only [List.getElem?_cons_succ] at h
        exact ih j x h
  refine key _ j x ?_
  rw [List.getElem?_take, if_pos (by omega)]
  exact hx

/-! ### The lists of slices beside the net -/
structure Ot (B : Nat) (rs : Lot) (al wv : Value) (k : Nat) (wc : List Value) (w : World) : Prop where
  many : Many w B rs
  all : w.ownsRow B 28 1 al rs.length (rs.map (·.1))
  want : w.ownsRow B 28 1 wv k wc
  alwv : ∀ b, al.ownBlock = some b → wv.ownBlock ≠ some b
  short : ∀ (j : Nat) v zs, rs[j]? = some (v, zs) → zs.length ≤ 140737488351232
section
variable {w w' : World} {B : Nat} {rs : Lot} {al wv : Value} {k : Nat} {wc : List Value} {g base : Nat} {v : Value} {m1 m2 : Nat} {L : Way} {n : Nat} {sn : Ad → Int} {mn : Pr → Int}
theorem Ot.keeps {S : Nat → Prop} (h : Ot B rs al wv k wc w) (hk : Keeps S w w') (h1 : ∀ b, OwnM rs b → ¬ S b) (h2 : ∀ b, al.ownBlock = some b → ¬ S b) (h3 : ∀ b, wv.ownBlock = some b → ¬ S b) : Ot B rs al wv k wc w' :=
  ⟨h.many.keeps hk h1, owns_keeps h.all hk h2, owns_keeps h.want hk h3, h.alwv, h.short⟩
theorem Ot.grew (h : Ot B rs al wv k wc w) (hk : Keeps None w w') : Ot B rs al wv k wc w' := h.keeps hk (fun _ _ f => f) (fun _ _ f => f) (fun _ _ f => f)
theorem Ot.manyLt (h : Ot B rs al wv k wc w) {b : Nat} (hb : OwnM rs b) : B ≤ b ∧ b < w.heap.size := by
  obtain ⟨i, v, zs, e, hb⟩ := hb
  exact (h.many.row i v zs e).lt b hb
theorem mine_off (hN : Nt w g base v m1 m2 L n sn mn) {t s m : Nat} {su : Value} {xs : List Value} (hrow : w.ownsRow B t s su m xs) (h1 : t ≠ 68) (h2 : t ≠ 33) : ∀ b, su.ownBlock = some b → ¬ Mine g m1 m2 v b := fun b hb => by
  obtain ⟨cur, hc⟩ := owns_obj hrow hb
  have hg := hN.blk.raw
  obtain ⟨e1, k1, q1⟩ := hN.sent.obj
  obtain ⟨e2, k2, q2⟩ := hN.many.obj
  rintro (e | e | e | e)
  · rw [e, hg] at hc; cases hc; exact h1 rfl
  · rw [e, q1] at hc; cases hc
  · rw [e, q2] at hc; cases hc
  · obtain ⟨cur', hc'⟩ := owns_obj hN.row e
    rw [hc] at hc'; cases hc'; exact h2 rfl
theorem mine_blk (hN : Nt w g base v m1 m2 L n sn mn) {t b : Nat} {xs : List Value} (hb : Blk w b t xs) (h1 : t ≠ 68) (h2 : t ≠ 33) : ¬ Mine g m1 m2 v b := by
  have hc := hb.raw
  have hg := hN.blk.raw
  obtain ⟨e1, k1, q1⟩ := hN.sent.obj
  obtain ⟨e2, k2, q2⟩ := hN.many.obj
  rintro (e | e | e | e)
  · rw [e, hg] at hc; cases hc; exact h1 rfl
  · rw [e, q1] at hc; cases hc
  · rw [e, q2] at hc; cases hc
  · obtain ⟨cur', hc'⟩ := owns_obj hN.row e
    rw [hc] at hc'; cases hc'; exact h2 rfl
theorem Ot.mine (h : Ot B rs al wv k wc w) (hN : Nt w g base v m1 m2 L n sn mn) (hk : Keeps (Mine g m1 m2 v) w w') : Ot B rs al wv k wc w' :=
  h.keeps hk (fun b ⟨i, u, zs, e, hb⟩ => hN.byte_off (h.many.row i u zs e) hb) (mine_off hN h.all (by decide) (by decide)) (mine_off hN h.want (by decide) (by decide))
theorem Many.snoc {u : Value} {zs : List Int} (h : Many w B rs) (hu : Row .u8 5 w B u zs) (hf : ∀ b, OwnM rs b → u.ownBlock ≠ some b) : Many w B (rs ++ [(u, zs)]) := by
  refine ⟨fun i v ys e => ?_, fun i j v ys x xs b e1 e2 hij hb hx => ?_⟩
  · by_cases hi : i < rs.length
    · rw [List.getElem?_append_left hi] at e
      exact h.row i v ys e
    · rw [List.getElem?_append_right (by omega)] at e
      have : i - rs.length = 0 := by
        have := (List.getElem?_eq_some_iff.1 e).1
        simp at this; omega
      rw [this] at e
      simp at e
      rw [← e.1, ← e.2]
      exact hu
  · have last : ∀ {i : Nat} {v : Value} {ys : List Int}, (rs ++ [(u, zs)])[i]? = some (v, ys) → rs[i]? = some (v, ys) ∨ (i = rs.length ∧ v = u) := fun {i v ys} e => by
      by_cases hi : i < rs.length
      · rw [List.getElem?_append_left hi] at e
        exact .inl e
      · rw [List.getElem?_append_right (by omega)] at e
        have : i - rs.length = 0 := by
          have := (List.getElem?_eq_some_iff.1 e).1
          simp at this; omega
        rw [this] at e
        simp at e
        exact .inr ⟨by omega, e.1.symm⟩
    rcases last e1 with q1 | ⟨q1, rfl⟩ <;> rcases last e2 with q2 | ⟨q2, rfl⟩
    · exact h.far i j v ys x xs b q1 q2 hij hb hx
    · exact hf b ⟨i, v, ys, q1, hb⟩ hx
    · exact hf b ⟨j, x, xs, q2, hx⟩ hb
    · omega
theorem OwnM.snoc {u : Value} {zs : List Int} {b : Nat} (h : OwnM (rs ++ [(u, zs)]) b) : OwnM rs b ∨ u.ownBlock = some b := by
  obtain ⟨i, v, ys, e, hb⟩ := h
  by_cases hi : i < rs.length
  · rw [List.getElem?_append_left hi] at e
    exact .inl ⟨i, v, ys, e, hb⟩
  · rw [List.getElem?_append_right (by omega)] at e
    have : i - rs.length = 0 := by
      have := (List.getElem?_eq_some_iff.1 e).1
      simp at this; omega
    rw [this] at e
    simp at e
    rw [← e.1] at hb
    exact .inr hb
/-- One more slice comes to the list. -/
theorem Ot.push {w1 w2 : World} {u al' : Value} {zs : List Int} (h : Ot B rs al wv k wc w1) (hu : Row .u8 5 w1 B u zs) (hf : ∀ b, OwnM rs b → u.ownBlock ≠ some b) (hz : zs.length ≤ 140737488351232)
    (hown : w2.ownsRow B 28 1 al' (rs.length + 1) (rs.map (·.1) ++ [u])) (hk : Keeps (OwnB al) w1 w2) (hloc : al'.ownBlock = al.ownBlock ∨ al'.ownBlock = some w1.heap.size) : Ot B (rs ++ [(u, zs)]) al' wv k wc w2 := by
  have t1 : ∀ b, OwnM rs b → ¬ OwnB al b := fun b ⟨i, v, ys, e, hb⟩ hb' => rows_apart h.all (h.many.row i v ys e).raw (by decide) hb' hb
  have t2 : ∀ b, u.ownBlock = some b → ¬ OwnB al b := fun b hb hb' => rows_apart h.all hu.raw (by decide) hb' hb
  refine ⟨(h.many.keeps hk t1).snoc (hu.keeps hk t2) hf, by simpa using hown, owns_keeps h.want hk (fun b hb hb' => h.alwv b hb' hb), fun b hb hb' => ?_, fun j v ys e => ?_⟩
  · rcases hloc with e | e
    · exact h.alwv b (e ▸ hb) hb'
    · rw [e] at hb
      have := (World.ownsRow.lt h.want b hb').2
      have := Option.some.inj hb
      omega
  · by_cases hi : j < rs.length
    · rw [List.getElem?_append_left hi] at e
      exact h.short j v ys e
    · rw [List.getElem?_append_right (by omega)] at e
      have : j - rs.length = 0 := by
        have := (List.getElem?_eq_some_iff.1 e).1
        simp at this; omega
      rw [this] at e
      simp at e
      rw [← e.2]
      exact hz
/-- What is wanted grows. -/
theorem Ot.wish {w1 w2 : World} {wv' : Value} {k' : Nat} {wc' : List Value} (h : Ot B rs al wv k wc w1) (hown : w2.ownsRow B 28 1 wv' k' wc') (hk : Keeps (OwnB wv) w1 w2) (hloc : wv'.ownBlock = wv.ownBlock ∨ wv'.ownBlock = some w1.heap.size) : Ot B rs al wv' k' wc' w2 := by
  have t1 : ∀ b, OwnM rs b → ¬ OwnB wv b := fun b ⟨i, v, ys, e, hb⟩ hb' => rows_apart h.want (h.many.row i v ys e).raw (by decide) hb' hb
  refine ⟨h.many.keeps hk t1, owns_keeps h.all hk (fun b hb hb' => h.alwv b hb hb'), hown, fun b hb hb' => ?_, h.short⟩
  rcases hloc with e | e
  · exact h.alwv b hb (e ▸ hb')
  · rw [e] at hb'
    have := (World.ownsRow.lt h.all b hb).2
    have := Option.some.inj hb'
    omega
end
theorem away_more {w : World} {B : Nat} {rs : Lot} {L : Way} {x : Pk × List Int} (hM : Many w B rs) (h : ∀ b, OwnM rs b → ∀ x ∈ L, x.1.dv.ownBlock ≠ some b) (hd : ∀ b, x.1.dv.ownBlock = some b → w.heap.size ≤ b) : ∀ b, OwnM rs b → ∀ y ∈ L ++ [x], y.1.dv.ownBlock ≠ some b := by
  intro b hb y hy
  rcases List.mem_append.1 hy with k | k
  · exact h b hb y k
  · obtain rfl := List.mem_singleton.1 k
    intro e
    have := hd b e
    obtain ⟨i, v, zs, e1, e2⟩ := hb
    have := ((hM.row i v zs e1).lt b e2).2
    omega
/-- The state behind i rounds of the first loop. -/
structure Bk (w0 : World) (its : List By) (i : Nat) (g : Nat) (v : Value) (m1 m2 : Nat) (L : Way) (n : Nat) (sn : Ad → Int) (mn : Pr → Int) (rs : Lot) (al wv : Value) (w : World) : Prop where
  net : Nt w g w0.heap.size v m1 m2 L n sn mn
  most : n ≤ 6 * i
  way : Bs its i L
  sn : sn aA = (i : Int)
  mn : mn (aA, bA) = 2 * (i : Int)
  ot : Ot w0.heap.size rs al wv (2 * i) (wantCells its i) w
  away : ∀ b, OwnM rs b → ∀ x ∈ L, x.1.dv.ownBlock ≠ some b
  few : rs.length ≤ i
  short : ∀ x ∈ L, x.2.length ≤ 140737488351232
  keeps : Keeps None w0 w
theorem Bk.grew {w0 w w' : World} {its : List By} {i g : Nat} {v : Value} {m1 m2 : Nat} {L : Way} {n : Nat} {sn : Ad → Int} {mn : Pr → Int} {rs : Lot} {al wv : Value} (h : Bk w0 its i g v m1 m2 L n sn mn rs al wv w) (hk : Keeps None w w') : Bk w0 its i g v m1 m2 L n sn mn rs al wv w' :=
  ⟨h.net.grew hk, h.most, h.way, h.sn, h.mn, h.ot.grew hk, h.away, h.few, h.short, h.keeps.trans hk⟩
theorem mine_ge {w : World} {g base : Nat} {v : Value} {m1 m2 : Nat} {L : Way} {n : Nat} {sn : Ad → Int} {mn : Pr → Int} (h : Nt w g base v m1 m2 L n sn mn) : ∀ b, Mine g m1 m2 v b → base ≤ b := fun b hb => by
  have hg := h.hg
  rcases hb with (e | e | e | e)
  · omega
  · omega
  · omega
  · exact (World.ownsRow.lt h.row b e).1
theorem double_mid {w : World} {g base : Nat} {v : Value} {m1 m2 : Nat} {L R : Way} {x : Pk × List Int} {n : Nat} {sn : Ad → Int} {mn : Pr → Int} (a : Ad) (c : Int) (h : Nt w g base v m1 m2 (L ++ x :: R) n sn mn)
    (hno : ∀ y ∈ L, y.1.named a c = false) (hx : x.1.named a c = true) (hroom : mn x.1.pair < 64) (hL : ∀ y ∈ L ++ x :: R, IntV y.1.fr.2 ∧ IntV y.1.to.2 ∧ y.2.length ≤ 140737488351232) (hn : n ≤ 1000000000000) :
    Calls Try.prog 13 #[.pointer (some ⟨g, 0, Option.none⟩), adV a, .int .i64 c] w fun e w' => e = .returned (.int .i64 0) ∧
      ∃ v' d, Nt w' g base v' m1 m2 (L ++ x :: (R ++ [({x.1 with dv := d}, x.2)])) (n + 1) sn (upd mn x.1.pair (mn x.1.pair + 1)) ∧ Keeps (Mine g m1 m2 v) w w' ∧ ∀ b, d.ownBlock = some b → w.heap.size ≤ b := by
  have hp0 := place_mid L x R a c hno hx
  refine (double_any g base v m1 m2 _ n sn mn a c w h hL hn).mono ?_
  rintro e w' (⟨hp, _⟩ | ⟨i, y, zs, hp, hxy, rfl, hq⟩)
  · rw [hp0] at hp; omega
  · rw [hp0] at hp
    obtain rfl : L.length = i := by omega
    obtain rfl := mid_at hxy
    rcases hq with ⟨hf, _⟩ | ⟨_, v', d, hN, hk, _, hd⟩
    · simp only at hroom; omega
    · exact ⟨rfl, v', d, by simpa using hN, hk, hd⟩
theorem deliver_mid {w : World} {g base : Nat} {v : Value} {m1 m2 : Nat} {L R : Way} {x : Pk × List Int} {n : Nat} {sn : Ad → Int} {mn : Pr → Int} (a : Ad) (c : Int) (h : Nt w g base v m1 m2 (L ++ x :: R) n sn mn)
    (hno : ∀ y ∈ L, y.1.named a c = false) (hx : x.1.named a c = true) (hL : ∀ y ∈ L ++ x :: R, IntV y.1.fr.2 ∧ IntV y.1.to.2 ∧ 0 ≤ mn y.1.pair) (hn : n ≤ 1000000000000) :
    Calls Try.prog 14 #[.pointer (some ⟨g, 0, Option.none⟩), adV a, .int .i64 c] w fun e w' => e = .returned (.tuple #[x.1.val, .int .i64 0]) ∧
      ∃ v', Nt w' g base v' m1 m2 (L ++ R) (n + 1) sn (upd mn x.1.pair (mn x.1.pair - 1)) ∧ Keeps (Mine g m1 m2 v) w w' ∧ v'.ownBlock = v.ownBlock := by
  have hp0 := place_mid L x R a c hno hx
  refine (deliver_any g base v m1 m2 _ n sn mn a c w h hL (by omega)).mono ?_
  rintro e w' (⟨hp, _⟩ | ⟨i, y, zs, v', hp, hxy, rfl, hN, hk, hv⟩)
  · rw [hp0] at hp; omega
  · rw [hp0] at hp
    obtain rfl : L.length = i := by omega
    obtain rfl := mid_at hxy
    rw [mid_erase] at hN
    exact ⟨rfl, v', hN, hk, hv⟩
theorem Told.keeps {S : Nat → Prop} {w w' : World} {base : Nat} {v : Value} {L M : Way} (h : Told w base v L M) (hk : Keeps S w w') (h1 : ∀ b, v.ownBlock = some b → ¬ S b) (h2 : ∀ x ∈ M, ∀ b, x.1.dv.ownBlock = some b → ¬ S b) : Told w' base v L M :=
  ⟨h.same, owns_keeps h.row hk h1, fun x hx => (h.bytes x hx).keeps hk (h2 x hx), h.apart⟩
theorem Told.grew {w w' : World} {base : Nat} {v : Value} {L M : Way} (h : Told w base v L M) (hk : Keeps None w w') : Told w' base v L M := h.keeps hk (fun _ _ f => f) (fun _ _ _ _ f => f)
theorem Told.len {w : World} {base : Nat} {v : Value} {L M : Way} (h : Told w base v L M) : M.length = L.length := by have := congrArg List.length h.same; simpa using this
theorem Told.at_ {w : World} {base : Nat} {v : Value} {L M : Way} (h : Told w base v L M) {j : Nat} {x : Pk × List Int} (hx : M[j]? = some x) : ∃ y, L[j]? = some y ∧ y.1.fr = x.1.fr ∧ y.1.ct = x.1.ct ∧ y.1.to = x.1.to ∧ y.2 = x.2 := by
  have hj : j < L.length := by rw [← h.len]; exact (List.getElem?_eq_some_iff.1 hx).1
  have e : (M.map core)[j]? = (L.map core)[j]? := by rw [h.same]
  rw [List.getElem?_map, List.getElem?_map, hx, List.getElem?_eq_getElem hj] at e
  simp only [Option.map_some, Option.some.injEq] at e
  exact ⟨_, List.getElem?_eq_getElem hj, core_fr e.symm⟩

/-- The state behind the first loop; q bounds the list of slices. -/
structure B2 (w0 : World) (its : List By) (i : Nat) (g : Nat) (v : Value) (m1 m2 : Nat) (L : Way) (n : Nat) (sn : Ad → Int) (mn : Pr → Int) (q : Nat) (rs : Lot) (al wv : Value) (w : World) : Prop where
  net : Nt w g w0.heap.size v m1 m2 L n sn mn
  ot : Ot w0.heap.size rs al wv (2 * i) (wantCells its i) w
  away : ∀ b, OwnM rs b → ∀ x ∈ L, x.1.dv.ownBlock ≠ some b
  few : rs.length ≤ q
  keeps : Keeps None w0 w
theorem B2.grew {w0 w w' : World} {its : List By} {i g : Nat} {v : Value} {m1 m2 : Nat} {L : Way} {n : Nat} {sn : Ad → Int} {mn : Pr → Int} {q : Nat} {rs : Lot} {al wv : Value} (h : B2 w0 its i g v m1 m2 L n sn mn q rs al wv w) (hk : Keeps None w w') : B2 w0 its i g v m1 m2 L n sn mn q rs al wv w' :=
  ⟨h.net.grew hk, h.ot.grew hk, h.away, h.few, h.keeps.trans hk⟩
theorem B2.push {w0 w1 w2 : World} {its : List By} {i g : Nat} {v : Value} {m1 m2 : Nat} {L : Way} {n : Nat} {sn : Ad → Int} {mn : Pr → Int} {q : Nat} {rs : Lot} {al wv u al' : Value} {zs : List Int} (h : B2 w0 its i g v m1 m2 L n sn mn q rs al wv w1)
    (hu : Row .u8 5 w1 w0.heap.size u zs) (hf : ∀ b, OwnM rs b → u.ownBlock ≠ some b) (hz : zs.length ≤ 140737488351232) (haw : ∀ x ∈ L, ∀ b, u.ownBlock = some b → x.1.dv.ownBlock ≠ some b)
    (hown : w2.ownsRow w0.heap.size 28 1 al' (rs.length + 1) (rs.map (·.1) ++ [u])) (hk : Keeps (OwnB al) w1 w2) (hloc : al'.ownBlock = al.ownBlock ∨ al'.ownBlock = some w1.heap.size) :
    B2 w0 its i g v m1 m2 L n sn mn (q + 1) (rs ++ [(u, zs)]) al' wv w2 := by
  refine ⟨h.net.keeps hk (fun b hm hb => mine_off h.net h.ot.all (by decide) (by decide) b hb hm) (fun y hy b hb hb' => rows_apart h.ot.all (h.net.bytes y hy).raw (by decide) hb' hb), h.ot.push hu hf hz hown hk hloc, fun b hb y hy => ?_, by have := h.few; simp; omega, h.keeps.andThen hk (fun b hb e => by have := (World.ownsRow.lt h.ot.all b e).1; omega)⟩
  rcases hb.snoc with k | k
  · exact h.away b k y hy
  · exact haw y hy b k
theorem Ot.lies {B : Nat} {rs : Lot} {A : Option Addr} {n c k : Nat} {wv : Value} {wc : List Value} {w : World} (h : Ot B rs (.slice A n c) wv k wc w) : Lies w A rs := fun i v zs e => by
  have hil := (List.getElem?_eq_some_iff.1 e).1
  obtain ⟨gk, c', e', hc⟩ := owns_at h.all (by omega)
  cases e'
  exact ⟨gk, 0, rfl, fun ⟨j, u, ys, e1, e2⟩ => rows_apart h.all (h.many.row j u ys e1).raw (by decide) rfl e2, by rw [Nat.zero_add]; exact hc i v (by rw [List.getElem?_map, e]; rfl)⟩
theorem apart_two {M : Way} (h : M.Pairwise (fun x y => ∀ b, x.1.dv.ownBlock = some b → y.1.dv.ownBlock ≠ some b)) {j k : Nat} {x y : Pk × List Int} (hx : M[j]? = some x) (hy : M[k]? = some y) (hjk : j < k) : ∀ b, x.1.dv.ownBlock = some b → y.1.dv.ownBlock ≠ some b := by
  obtain ⟨h1, e1⟩ := List.getElem?_eq_some_iff.1 hx
  obtain ⟨h2, e2⟩ := List.getElem?_eq_some_iff.1 hy
  have := List.pairwise_iff_getElem.1 h j k h1 h2 hjk
  rw [e1, e2] at this
  exact this
theorem B2.more {w0 w : World} {its : List By} {i g : Nat} {v : Value} {m1 m2 : Nat} {L : Way} {n : Nat} {sn : Ad → Int} {mn : Pr → Int} {q q' : Nat} {rs : Lot} {al wv : Value} (h : B2 w0 its i g v m1 m2 L n sn mn q rs al wv w) (hq : q ≤ q') : B2 w0 its i g v m1 m2 L n sn mn q' rs al wv w :=
  ⟨h.net, h.ot, h.away, Nat.le_trans h.few hq, h.keeps⟩
theorem told_off {w : World} {g base B : Nat} {v u : Value} {m1 m2 : Nat} {L L' M : Way} {n : Nat} {sn : Ad → Int} {mn : Pr → Int} (hN : Nt w g base v m1 m2 L n sn mn) (hT : Told w B u L' M) (hv : ∀ b, v.ownBlock = some b → b < B) : ∀ b, u.ownBlock = some b → ¬ Mine g m1 m2 v b := fun b hb => by
  obtain ⟨cur, hc⟩ := owns_obj hT.row hb
  have hg := hN.blk.raw
  obtain ⟨e1, k1, q1⟩ := hN.sent.obj
  obtain ⟨e2, k2, q2⟩ := hN.many.obj
  rintro (e | e | e | e)
  · rw [e, hg] at hc; cases hc
  · rw [e, q1] at hc; cases hc
  · rw [e, q2] at hc; cases hc
  · have := (World.ownsRow.lt hT.row b hb).1
    have := hv b e
    omega
end Go.Proofs.Ytcplogdaepmpnaa
