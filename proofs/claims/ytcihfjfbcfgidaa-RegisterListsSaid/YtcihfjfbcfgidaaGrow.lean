/- append onto an owned row, told apart: it stays in its block, or it lies in a new one and all that was there is as it was. -/
import Derived.Test.YtcihfjfbcfgidaaRow
namespace Go.Proofs.Ytcihfjfbcfgidaa
open Go.RowKit

/-- Where the new row lies, and what is as it was. -/
def Fine (v v' : Value) (w w' : World) : Prop := (v'.ownBlock = v.ownBlock ∧ Keeps (OwnB v) w w') ∨ (v'.ownBlock = some w.heap.size ∧ Keeps None w w')

theorem Fine.keeps {v v' : Value} {w w' : World} (h : Fine v v' w w') : Keeps (OwnB v) w w' := h.elim (fun h => h.2) (fun h => h.2.of_none)
theorem Fine.loc {v v' : Value} {w w' : World} (h : Fine v v' w w') : v'.ownBlock = v.ownBlock ∨ v'.ownBlock = some w.heap.size := h.imp (fun h => h.1) (fun h => h.1)

theorem run_append_fine {P : Program} (w : World) (base : Nat) (t ty e : TypeId) (i : TypeInfo) (z : Value) (size bytes : Nat) (ht : P.underlying t = some (.slice e)) (hi : P.info? e = some i) (hz : i.zero = some z)
    (hsize : i.size = size) (hby : i.bytes = bytes) (hzs : z.cells.size = size) (hsz : 0 < size)
    (v : Value) (n : Nat) (xs : List Value) (hown : w.ownsRow base e size v n xs)
    (ad : Addr) (m c : Nat) (news : List Value) (hl : news.length = m * size)
    (hsrc : ∀ j u, news[j]? = some u → w.cell? (ad.add j) = some u) (h1 : ∀ u ∈ news, u.oneCell' = true)
    (h63 : n + m ≤ maxLen) (hbytes : (n + m) * bytes ≤ 140737488355328) (hbase : base ≤ w.heap.size) :
    ∃ v' w', (Builtin.append_ #[t, t] ty #[v, .slice (some ad) m c]).run P w = .ok v' w' ∧ w'.ownsRow base e size v' (n + m) (xs ++ news) ∧ Fine v v' w w' := by
  obtain ⟨v', w', hr, h2, h3, _, h5⟩ := run_append_own_at (P := P) w base t ty e i z size bytes ht hi hz hsize hby hzs hsz v n xs hown ad m c news hl hsrc h1 h63 hbytes hbase
  refine ⟨v', w', hr, h2, ?_⟩
  subst hsize
  subst hby
  have hnone : ∀ o : Obj, Keeps None w (w.drew.alloc o) := fun o => (Keeps.refl None w).drew.alloc o
  rcases hown.2 with ⟨rfl, rfl⟩ | ⟨g, cap, cur, rfl, hbg, hg, hnc, hcm, hcs, htake⟩
  · rcases h5 with h5 | h5
    · exact .inl ⟨h5, Keeps.of_grown h3⟩
    · exact .inr ⟨h5, (Keeps.of_grown h3).mono fun k _ e => by simp [OwnB, Value.ownBlock] at e⟩
  · by_cases hroom : n + m ≤ cap
    · have hfit : n * i.size + news.length ≤ cur.size := by rw [hl, hcs, ← Nat.add_mul]; exact Nat.mul_le_mul_right _ hroom
      have hr2 := run_append_room (P := P) w t ty e i ht hi g n cap cur hg ad m c news hl hsrc h1 hroom hfit
      rw [hr2] at hr
      cases hr
      exact .inl ⟨rfl, Keeps.of_grown h3⟩
    · have holds : ∀ j u, xs[j]? = some u → w.cell? ((⟨g, 0, Option.none⟩ : Addr).add j) = some u := hown.cells (g := g) rfl
      have hr2 := run_append_grow (P := P) w t ty e i z ht hi hz ⟨g, 0, Option.none⟩ n cap xs hown.1 holds ad m c news hl hsrc (by omega) (by simp only [maxLen] at h63; omega) (growslice_fits (by omega) hbytes)
      rw [hr2] at hr
      cases hr
      exact .inr ⟨rfl, hnone _⟩

theorem wpList_append_fine {P : Program} (w : World) {ops : Array Oper} {rest : List Oper} {o : Oper} {a : Act} {Q : Exit → Act → World → Prop} (hgd : o.guard = Option.none) (s x : Operand) (t : TypeId)
    (ho : o.op = .call { callee := .builtin .append, args := #[s, x], argTypes := #[t, t] })
    (base : Nat) (e : TypeId) (i : TypeInfo) (z : Value) (size bytes : Nat) (ht : P.underlying t = some (.slice e)) (hi : P.info? e = some i) (hz : i.zero = some z)
    (hsize : i.size = size) (hby : i.bytes = bytes) (hzs : z.cells.size = size) (hsz : 0 < size)
    (v : Value) (n : Nat) (xs : List Value) (hs : a.eval s = v) (hown : w.ownsRow base e size v n xs)
    (ad : Addr) (m c : Nat) (news : List Value) (hx : a.eval x = .slice (some ad) m c) (hl : news.length = m * size)
    (hsrc : ∀ j u, news[j]? = some u → w.cell? (ad.add j) = some u) (h1 : ∀ u ∈ news, u.oneCell' = true)
    (h63 : n + m ≤ maxLen) (hbytes : (n + m) * bytes ≤ 140737488355328) (hbase : base ≤ w.heap.size)
    (h : ∀ v' w', w'.ownsRow base e size v' (n + m) (xs ++ news) → Fine v v' w w' → wpList P ops Q rest (a.put o.dst v') w') :
    wpList P ops Q (o :: rest) a w := by
  obtain ⟨v', w', hr, h2, h3⟩ := run_append_fine (P := P) w base t o.type e i z size bytes ht hi hz hsize hby hzs hsz v n xs hown ad m c news hl hsrc h1 h63 hbytes hbase
  refine BigFrame.wpList_want (by simp [Region.wanted, hgd]) fun K hK => ?_
  unfold Oper.wp execOp
  simp only [ho, resolve, invoke, builtin, Sem.run_bind, Sem.run_pure, Result.andThen_ok, List.map_toArray, List.map_cons, List.map_nil, hs, hx, hr]
  exact hK _ _ (h v' w' h2 h3)

/-- What was read through a row that has since been appended to, step by step, reads as ever. -/
theorem Nums.fine {k : IntKind} {e base : Nat} {w w' : World} {v v' : Value} {A : Option Addr} {zs ys' : List Int} (h : Nums k w A zs) (hA : ∀ ad, A = some ad → ∃ b, ad = ⟨b, 0, Option.none⟩)
    (hr : Row k e w' base v' ys') (hp : zs <+: ys') (hf : Fine v v' w w') : Nums k w' A zs := by
  rcases hf with ⟨h1, h2⟩ | ⟨_, h2⟩
  · intro j hj
    obtain ⟨b, o, e1, hc⟩ := h j hj
    obtain ⟨b', e2⟩ := hA _ e1
    cases e2
    by_cases hb : v.ownBlock = some b
    · have hb' : v'.ownBlock = some b := h1.trans hb
      obtain ⟨t, rfl⟩ := hp
      obtain ⟨g, c, rfl, -⟩ := hr.pos (by simp; omega)
      cases hb'
      obtain ⟨b3, o3, e3, hc3⟩ := (Nums.row hr).1 j (by simp; omega)
      cases e3
      refine ⟨_, _, e1, ?_⟩
      rw [hc3]
      simp [List.getD, List.getElem?_append_left hj]
    · exact ⟨b, 0, e1, h2.cell hc (fun e => hb e)⟩
  · exact h.grew h2
end Go.Proofs.Ytcihfjfbcfgidaa
