/- Slices that the call itself owns: one law on append for whatever source, and what an owned row of numbers reads as. -/
import Derived.Test.YtghbgcmhahndkaaBase
import Derived.Maps.AppendAt
import Derived.Laws.AppendOwnNone
namespace Go.Proofs.Ytghbgcmhahndkaa
open Go.RowKit

/-- The value's own block alone. -/
def OwnB (v : Value) : Nat → Prop := fun k => v.ownBlock = some k

theorem OwnB.is {g o n c i : Nat} (h : OwnB (.slice (some ⟨g, o, Option.none⟩) n c) i) : i = g := (Option.some.inj h).symm
theorem Keeps.of_grown {w w' : World} {v : Value} (h : w.grownBy w' v.ownBlock) : Keeps (OwnB v) w w' := (Keeps.refl _ w).grown h (fun _ e _ => e)

/-- A row stays owned while its own block stays. -/
theorem owns_keeps {S : Nat → Prop} {w w' : World} {base e size n : Nat} {v : Value} {xs : List Value} (h : w.ownsRow base e size v n xs) (hk : Keeps S w w') (hS : ∀ g, v.ownBlock = some g → ¬ S g) : w'.ownsRow base e size v n xs := by
  refine ⟨h.1, ?_⟩
  rcases h.2 with hn | ⟨g, cap, cur, rfl, hb, hg, rest⟩
  · exact .inl hn
  · refine .inr ⟨g, cap, cur, rfl, hb, ?_, rest⟩
    rw [hk.block g (lt_of_block hg) (hS g rfl)]
    exact hg
theorem owns_grew {w w' : World} {base e size n : Nat} {v : Value} {xs : List Value} (h : w.ownsRow base e size v n xs) (hk : Keeps None w w') : w'.ownsRow base e size v n xs := owns_keeps h hk (fun _ _ f => f)
theorem owns_base {w : World} {base base' e size n : Nat} {v : Value} {xs : List Value} (h : w.ownsRow base e size v n xs) (hb : ∀ g, v.ownBlock = some g → base' ≤ g) : w.ownsRow base' e size v n xs := by
  refine ⟨h.1, ?_⟩
  rcases h.2 with hn | ⟨g, cap, cur, rfl, _, rest⟩
  · exact .inl hn
  · exact .inr ⟨g, cap, cur, rfl, hb g rfl, rest⟩

/-- append, whatever the source: nil, empty or not: the run. -/
theorem run_append_row {P : Program} (w : World) (base : Nat) (t ty e : TypeId) (i : TypeInfo) (z : Value) (size bytes : Nat) (ht : P.underlying t = some (.slice e)) (hi : P.info? e = some i) (hz : i.zero = some z)
    (hsize : i.size = size) (hby : i.bytes = bytes) (hzs : z.cells.size = size) (hsz : 0 < size)
    (v : Value) (n : Nat) (xs : List Value) (hown : w.ownsRow base e size v n xs)
    (A : Option Addr) (m c : Nat) (news : List Value) (hl : news.length = m * size) (hnil : A = Option.none → c = 0)
    (hsrc : 0 < news.length → ∃ ad, A = some ad ∧ ∀ j u, news[j]? = some u → w.cell? (ad.add j) = some u) (h1 : ∀ u ∈ news, u.oneCell' = true)
    (h63 : n + m ≤ maxLen) (hbytes : (n + m) * bytes ≤ 140737488355328) (hbase : base ≤ w.heap.size) :
    ∃ v' w', (Builtin.append_ #[t, t] ty #[v, .slice A m c]).run P w = .ok v' w' ∧ w'.ownsRow base e size v' (n + m) (xs ++ news) ∧ Keeps (OwnB v) w w' ∧ (v'.ownBlock = v.ownBlock ∨ v'.ownBlock = some w.heap.size) := by
  cases A with
  | none =>
    obtain rfl : c = 0 := hnil rfl
    have h0 : news = [] := by
      cases news with
      | nil => rfl
      | cons y ys => obtain ⟨ad, e, _⟩ := hsrc (by simp); cases e
    subst h0
    have hm : m = 0 := by
      rcases Nat.mul_eq_zero.1 hl.symm with h | h
      · exact h
      · omega
    subst hm
    exact ⟨v, w, run_append_owned_none w base t ty e i size ht hi v n xs hown, by simpa using hown, Keeps.refl _ _, .inl rfl⟩
  | some ad =>
    obtain ⟨v', w', hr, h2, h3, _, h5⟩ := run_append_own_at (P := P) w base t ty e i z size bytes ht hi hz hsize hby hzs hsz v n xs hown ad m c news hl
      (fun j u hu => by
        obtain ⟨ad', e, hc⟩ := hsrc (by have := (List.getElem?_eq_some_iff.1 hu).1; omega)
        cases e
        exact hc j u hu) h1 h63 hbytes hbase
    exact ⟨v', w', hr, h2, Keeps.of_grown h3, h5⟩

/-- The operation, guarded or not. -/
theorem wpList_append_row_w {P : Program} (w : World) {ops : Array Oper} {rest : List Oper} {o : Oper} {a : Act} {Q : Exit → Act → World → Prop} (hw : Region.wanted o (yielded ops a.tmps) = true) (s x : Operand) (t : TypeId)
    (ho : o.op = .call { callee := .builtin .append, args := #[s, x], argTypes := #[t, t] })
    (base : Nat) (e : TypeId) (i : TypeInfo) (z : Value) (size bytes : Nat) (ht : P.underlying t = some (.slice e)) (hi : P.info? e = some i) (hz : i.zero = some z)
    (hsize : i.size = size) (hby : i.bytes = bytes) (hzs : z.cells.size = size) (hsz : 0 < size)
    (v : Value) (n : Nat) (xs : List Value) (hs : a.eval s = v) (hown : w.ownsRow base e size v n xs)
    (A : Option Addr) (m c : Nat) (news : List Value) (hx : a.eval x = .slice A m c) (hl : news.length = m * size) (hnil : A = Option.none → c = 0)
    (hsrc : 0 < news.length → ∃ ad, A = some ad ∧ ∀ j u, news[j]? = some u → w.cell? (ad.add j) = some u) (h1 : ∀ u ∈ news, u.oneCell' = true)
    (h63 : n + m ≤ maxLen) (hbytes : (n + m) * bytes ≤ 140737488355328) (hbase : base ≤ w.heap.size)
    (h : ∀ v' w', w'.ownsRow base e size v' (n + m) (xs ++ news) → Keeps (OwnB v) w w' → (v'.ownBlock = v.ownBlock ∨ v'.ownBlock = some w.heap.size) → wpList P ops Q rest (a.put o.dst v') w') :
    wpList P ops Q (o :: rest) a w := by
  obtain ⟨v', w', hr, h2, h3, h4⟩ := run_append_row (P := P) w base t o.type e i z size bytes ht hi hz hsize hby hzs hsz v n xs hown A m c news hl hnil hsrc h1 h63 hbytes hbase
  refine BigFrame.wpList_want hw fun K hK => ?_
  unfold Oper.wp execOp
  simp only [ho, resolve, invoke, builtin, Sem.run_bind, Sem.run_pure, Result.andThen_ok, List.map_toArray, List.map_cons, List.map_nil, hs, hx, hr]
  exact hK _ _ (h v' w' h2 h3 h4)
theorem wpList_append_row {P : Program} (w : World) {ops : Array Oper} {rest : List Oper} {o : Oper} {a : Act} {Q : Exit → Act → World → Prop} (hgd : o.guard = Option.none) (s x : Operand) (t : TypeId)
    (ho : o.op = .call { callee := .builtin .append, args := #[s, x], argTypes := #[t, t] })
    (base : Nat) (e : TypeId) (i : TypeInfo) (z : Value) (size bytes : Nat) (ht : P.underlying t = some (.slice e)) (hi : P.info? e = some i) (hz : i.zero = some z)
    (hsize : i.size = size) (hby : i.bytes = bytes) (hzs : z.cells.size = size) (hsz : 0 < size)
    (v : Value) (n : Nat) (xs : List Value) (hs : a.eval s = v) (hown : w.ownsRow base e size v n xs)
    (A : Option Addr) (m c : Nat) (news : List Value) (hx : a.eval x = .slice A m c) (hl : news.length = m * size) (hnil : A = Option.none → c = 0)
    (hsrc : 0 < news.length → ∃ ad, A = some ad ∧ ∀ j u, news[j]? = some u → w.cell? (ad.add j) = some u) (h1 : ∀ u ∈ news, u.oneCell' = true)
    (h63 : n + m ≤ maxLen) (hbytes : (n + m) * bytes ≤ 140737488355328) (hbase : base ≤ w.heap.size)
    (h : ∀ v' w', w'.ownsRow base e size v' (n + m) (xs ++ news) → Keeps (OwnB v) w w' → (v'.ownBlock = v.ownBlock ∨ v'.ownBlock = some w.heap.size) → wpList P ops Q rest (a.put o.dst v') w') :
    wpList P ops Q (o :: rest) a w :=
  wpList_append_row_w w (by simp [Region.wanted, hgd]) s x t ho base e i z size bytes ht hi hz hsize hby hzs hsz v n xs hs hown A m c news hx hl hnil hsrc h1 h63 hbytes hbase h

/-- The source of an append of elements that are written out: the block that was just laid. -/
theorem src_new (w : World) (t : TypeId) (cs : List Value) (n : Nat) (hn : n = w.heap.size) : 0 < cs.length → ∃ ad, some (⟨n, 0, Option.none⟩ : Addr) = some ad ∧ ∀ j u, cs[j]? = some u → (w.alloc (.cells cs.toArray t)).cell? (ad.add j) = some u := by
  subst hn
  exact fun _ => ⟨_, rfl, fun j u hu => by rw [Addr.add_lit, Nat.zero_add]; exact (Blk.new w t cs).cell j u hu⟩

/-! ### Owned rows of numbers -/
/-- The value owns a row of these numbers. -/
def Row (k : IntKind) (e : TypeId) (w : World) (base : Nat) (v : Value) (zs : List Int) : Prop := w.ownsRow base e 1 v zs.length (zs.map (Value.int k))

theorem Row.raw {k : IntKind} {e base : Nat} {w : World} {v : Value} {zs : List Int} (h : Row k e w base v zs) : w.ownsRow base e 1 v zs.length (zs.map (Value.int k)) := h
theorem Row.nil (k : IntKind) (e : TypeId) (w : World) (base : Nat) : Row k e w base (.slice Option.none 0 0) [] := World.ownsRow_nil _ _ _ _
theorem Row.keeps {S : Nat → Prop} {k : IntKind} {e base : Nat} {w w' : World} {v : Value} {zs : List Int} (h : Row k e w base v zs) (hk : Keeps S w w') (hS : ∀ g, v.ownBlock = some g → ¬ S g) : Row k e w' base v zs := owns_keeps h hk hS
theorem Row.grew {k : IntKind} {e base : Nat} {w w' : World} {v : Value} {zs : List Int} (h : Row k e w base v zs) (hk : Keeps None w w') : Row k e w' base v zs := owns_grew h hk
theorem Row.rebase {k : IntKind} {e base base' : Nat} {w : World} {v : Value} {zs : List Int} (h : Row k e w base v zs) (hb : ∀ g, v.ownBlock = some g → base' ≤ g) : Row k e w base' v zs := owns_base h hb
theorem Row.cast {k : IntKind} {e base : Nat} {w : World} {v : Value} {zs ys : List Int} (h : Row k e w base v zs) (hz : zs = ys) : Row k e w base v ys := hz ▸ h
theorem Row.down {k : IntKind} {e base base' : Nat} {w : World} {v : Value} {zs : List Int} (h : Row k e w base v zs) (hb : base' ≤ base) : Row k e w base' v zs := h.rebase fun g hg => Nat.le_trans hb (World.ownsRow.lt h g hg).1
theorem Row.lt {k : IntKind} {e base : Nat} {w : World} {v : Value} {zs : List Int} (h : Row k e w base v zs) : ∀ g, v.ownBlock = some g → base ≤ g ∧ g < w.heap.size := World.ownsRow.lt h
theorem Row.of_append {k : IntKind} {e base n m : Nat} {w : World} {v : Value} {zs ys : List Int} (hn : zs.length = n) (hm : ys.length = m) (h : w.ownsRow base e 1 v (n + m) (zs.map (Value.int k) ++ ys.map (Value.int k))) : Row k e w base v (zs ++ ys) := by
  unfold Row; rw [List.length_append, List.map_append, hn, hm]; exact h

/-- What a row is: a slice at the head of its block, or nil; its cells; its room. -/
theorem Row.open_ {k : IntKind} {e base : Nat} {w : World} {v : Value} {zs : List Int} (h : Row k e w base v zs) :
    ∃ A c, v = .slice A zs.length c ∧ zs.length ≤ c ∧ Nums k w A zs ∧ (A = Option.none → c = 0) ∧ (∀ b o, A = some ⟨b, o, Option.none⟩ → v.ownBlock = some b ∧ base ≤ b ∧ b < w.heap.size) ∧ (∀ ad, A = some ad → ∃ b, ad = ⟨b, 0, Option.none⟩) := by
  have hlt := h.lt
  rcases h.2 with ⟨rfl, h0⟩ | ⟨g, cap, cur, rfl, hb, hg, hn, hc, hs, ht⟩
  · refine ⟨Option.none, 0, by rw [h0], by omega, ?_, fun _ => rfl, (fun b o e => by cases e), (fun ad e => by cases e)⟩
    obtain rfl := List.eq_nil_of_length_eq_zero h0
    exact Nums.nil _ _ _
  · refine ⟨_, cap, rfl, hn, ?_, (fun e => by cases e), (fun b o e => by cases e; exact ⟨rfl, hlt g rfl⟩), (fun ad e => by cases e; exact ⟨g, rfl⟩)⟩
    intro j hj
    refine ⟨g, 0, rfl, ?_⟩
    rw [Nat.zero_add, cell_of_row w g j cur e (0, 0) hg]
    have e1 : (cur.toList.take (zs.length * 1))[j]? = (zs.map (Value.int k))[j]? := by rw [ht]
    rw [List.getElem?_take, if_pos (by omega)] at e1
    rw [← Array.getElem?_toList, e1]
    simp [List.getD, hj]

/-- A row is a slice: by names that the walk can see. -/
theorem Row.slice {k : IntKind} {e base : Nat} {w : World} {v : Value} {zs : List Int} (h : Row k e w base v zs) : ∃ A c, v = .slice A zs.length c := by
  obtain ⟨A, c, e, _⟩ := h.open_; exact ⟨A, c, e⟩

/-- What is done to a row of the call's own turns nothing that was there. -/
theorem Keeps.own {k : IntKind} {e base : Nat} {w a b : World} {v : Value} {zs : List Int} (h : Keeps None w a) (hr : Row k e a base v zs) (hb : w.heap.size ≤ base) (hk : Keeps (OwnB v) a b) : Keeps None w b :=
  h.andThen hk (fun i hi e => by have := hr.lt i e; omega)

/-- A block that is known whole, as a row. -/
theorem Row.of_blk {k : IntKind} {t g base : Nat} {w : World} {zs : List Int} (h : Blk w g t (zs.map (Value.int k))) (hb : base ≤ g) (hm : zs.length ≤ maxLen) : Row k t w base (.slice (some ⟨g, 0, Option.none⟩) zs.length zs.length) zs :=
  ⟨by simp, .inr ⟨g, zs.length, _, rfl, hb, h, Nat.le_refl _, hm, by simp, by simp; exact List.take_of_length_le (by simp)⟩⟩

/-- A store into a row. -/
theorem Row.store {k : IntKind} {e base g n c : Nat} {w : World} {zs : List Int} (h : Row k e w base (.slice (some ⟨g, 0, Option.none⟩) n c) zs) (hn : zs.length = n) (j : Nat) (x : Int) :
    Row k e (w.setCell ⟨g, j, Option.none⟩ (.int k x)) base (.slice (some ⟨g, 0, Option.none⟩) n c) (zs.set j x) := by
  unfold Row at h ⊢
  rw [List.length_set, List.map_set]
  rw [hn] at h ⊢
  exact (World.ownsRow.stored h j _).1
theorem Row.free {k : IntKind} {e base g n c : Nat} {w : World} {zs : List Int} (h : Row k e w base (.slice (some ⟨g, 0, Option.none⟩) n c) zs) (j : Nat) : w.frozen? ⟨g, j, Option.none⟩ = false := by
  rcases h.2 with ⟨h', _⟩ | ⟨g', cap', cur, h', hb, hg, _⟩
  · simp at h'
  · cases h'; exact frozen_of_row w g j cur e hg

/-- A row that has an element. -/
theorem Row.pos {k : IntKind} {e base : Nat} {w : World} {v : Value} {zs : List Int} (h : Row k e w base v zs) (h0 : 0 < zs.length) : ∃ g c, v = .slice (some ⟨g, 0, Option.none⟩) zs.length c ∧ zs.length ≤ c ∧ base ≤ g ∧ g < w.heap.size := by
  obtain ⟨A, c, e1, h1, h2, h3, h4, h5⟩ := h.open_
  obtain ⟨b, o, e2, _⟩ := h2 0 h0
  obtain ⟨b', e3⟩ := h5 _ e2
  rw [e2] at e1 h4
  cases e3
  obtain ⟨-, q1, q2⟩ := h4 _ _ rfl
  exact ⟨b, c, e1, h1, q1, q2⟩

theorem Nums.row {k : IntKind} {e base : Nat} {w : World} {A : Option Addr} {n c : Nat} {zs : List Int} (h : Row k e w base (.slice A n c) zs) : Nums k w A zs ∧ zs.length = n ∧ n ≤ c ∧ (A = Option.none → c = 0) := by
  obtain ⟨A', c', e1, h1, h2, h3, _⟩ := h.open_
  cases e1
  exact ⟨h2, rfl, h1, h3⟩
end Go.Proofs.Ytghbgcmhahndkaa
