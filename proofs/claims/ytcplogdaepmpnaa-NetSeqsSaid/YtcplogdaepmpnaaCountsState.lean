/- NetCounts: what stands between two steps. -/
import Derived.Test.YtcplogdaepmpnaaStepsAt
namespace Go.Proofs.Ytcplogdaepmpnaa
open Go.RowKit

def Ads.cells (l : List Ad) : List Value := l.flatMap adCells
theorem Ads.cells_length (l : List Ad) : (Ads.cells l).length = l.length * 2 := by
  induction l with
  | nil => rfl
  | cons a r ih => rw [show Ads.cells (a :: r) = adCells a ++ Ads.cells r from rfl, List.length_append, ih]; simp [adCells]; omega
theorem Ads.cells_snoc (l : List Ad) (a : Ad) : Ads.cells (l ++ [a]) = Ads.cells l ++ adCells a := by simp [Ads.cells]
theorem Ads.cells_get : ∀ (l : List Ad) (j : Nat) (a : Ad), l[j]? = some a → (Ads.cells l)[j * 2]? = some (.bool a.1) ∧ (Ads.cells l)[j * 2 + 1]? = some (.int .i64 a.2)
  | [], j, a, h => by simp at h
  | y :: r, 0, a, h => by
    simp at h
    subst h
    exact ⟨rfl, rfl⟩
  | y :: r, j + 1, a, h => by
    simp at h
    obtain ⟨h1, h2⟩ := Ads.cells_get r j a h
    rw [show Ads.cells (y :: r) = adCells y ++ Ads.cells r from rfl]
    refine ⟨?_, ?_⟩
    · rw [List.getElem?_append_right (by simp [adCells]; omega), show (j + 1) * 2 - (adCells y).length = j * 2 by simp [adCells]; omega]
      exact h1
    · rw [List.getElem?_append_right (by simp [adCells]; omega), show (j + 1) * 2 + 1 - (adCells y).length = j * 2 + 1 by simp [adCells]; omega]
      exact h2
theorem Ads.of_owns {w : World} {base n c : Nat} {A : Option Addr} {l : List Ad} (h : w.ownsRow base 27 2 (.slice A n c) l.length (Ads.cells l)) : Ads w A l ∧ l.length = n := by
  rcases h.2 with ⟨e, h0⟩ | ⟨g, cap, cur, e, hb, hg, hn, hcap, hsz, hcur⟩
  · cases e
    have : l = [] := List.eq_nil_of_length_eq_zero h0
    subst this
    exact ⟨fun j a ha => by simp at ha, rfl⟩
  · cases e
    refine ⟨fun j a ha => ⟨g, 0, rfl, ?_⟩, rfl⟩
    obtain ⟨h1, h2⟩ := Ads.cells_get l j a ha
    rw [← hcur, List.getElem?_take] at h1 h2
    rw [Nat.zero_add, cell_of_row w g _ cur _ _ hg, cell_of_row w g _ cur _ _ hg]
    constructor
    · split at h1
      · simpa using h1
      · cases h1
    · split at h2
      · simpa using h2
      · cases h2

/-- The program's net and the list of senders, behind k steps. -/
structure Cs (w0 : World) (k : Nat) (g : Nat) (v : Value) (m1 m2 : Nat) (L : Way) (n : Nat) (sn : Ad → Int) (mn : Pr → Int) (su : Value) (S : List Ad) (w : World) : Prop where
  net : Nt w g w0.heap.size v m1 m2 L n sn mn
  inv : Inv L sn mn
  most : n ≤ 2 * k
  ok : ∀ x ∈ L, IntV x.1.fr.2 ∧ IntV x.1.to.2 ∧ x.2.length ≤ 140737488351232
  row : w.ownsRow w0.heap.size 27 2 su S.length (Ads.cells S)
  len : S.length ≤ k
  sent : ∀ a, sn a = (countF S a : Int)
  keeps : Keeps None w0 w
theorem Cs.grew {w0 w w' : World} {k g : Nat} {v : Value} {m1 m2 : Nat} {L : Way} {n : Nat} {sn : Ad → Int} {mn : Pr → Int} {su : Value} {S : List Ad} (h : Cs w0 k g v m1 m2 L n sn mn su S w) (hk : Keeps None w w') : Cs w0 k g v m1 m2 L n sn mn su S w' :=
  ⟨h.net.grew hk, h.inv, h.most, h.ok, owns_grew h.row hk, h.len, h.sent, h.keeps.trans hk⟩
theorem Cs.next {w0 w : World} {k g : Nat} {v : Value} {m1 m2 : Nat} {L : Way} {n : Nat} {sn : Ad → Int} {mn : Pr → Int} {su : Value} {S : List Ad} (h : Cs w0 k g v m1 m2 L n sn mn su S w) : Cs w0 (k + 1) g v m1 m2 L n sn mn su S w :=
  ⟨h.net, h.inv, by have := h.most; omega, h.ok, h.row, by have := h.len; omega, h.sent, h.keeps⟩
theorem row_mine {w0 w : World} {k g : Nat} {v : Value} {m1 m2 : Nat} {L : Way} {n : Nat} {sn : Ad → Int} {mn : Pr → Int} {su : Value} {S : List Ad} (h : Cs w0 k g v m1 m2 L n sn mn su S w) : ∀ b, su.ownBlock = some b → ¬ Mine g m1 m2 v b := fun b hb => by
  obtain ⟨cur, hc⟩ := owns_obj h.row hb
  have hg := h.net.blk.raw
  obtain ⟨e1, k1, h1⟩ := h.net.sent.obj
  obtain ⟨e2, k2, h2⟩ := h.net.many.obj
  rintro (e | e | e | e)
  · rw [e, hg] at hc; cases hc
  · rw [e, h1] at hc; cases hc
  · rw [e, h2] at hc; cases hc
  · obtain ⟨cur', hc'⟩ := owns_obj h.net.row e
    rw [hc] at hc'; cases hc'
theorem mine_new {w0 w : World} {k g : Nat} {v : Value} {m1 m2 : Nat} {L : Way} {n : Nat} {sn : Ad → Int} {mn : Pr → Int} {su : Value} {S : List Ad} (h : Cs w0 k g v m1 m2 L n sn mn su S w) : ∀ b, b < w0.heap.size → ¬ Mine g m1 m2 v b := fun b hb => by
  have hg := h.net.hg
  rintro (e | e | e | e)
  · omega
  · omega
  · omega
  · have := (World.ownsRow.lt h.net.row b e).1; omega
/-- The net has turned; the senders stay. -/
theorem Cs.turn {w0 w w' : World} {k g : Nat} {v v' : Value} {m1 m2 : Nat} {L L' : Way} {n n' : Nat} {sn sn' : Ad → Int} {mn mn' : Pr → Int} {su : Value} {S : List Ad} (h : Cs w0 k g v m1 m2 L n sn mn su S w) (hk : Keeps (Mine g m1 m2 v) w w')
    (hN : Nt w' g w0.heap.size v' m1 m2 L' n' sn' mn') (hI : Inv L' sn' mn') (hm : n' ≤ 2 * k) (ho : ∀ x ∈ L', IntV x.1.fr.2 ∧ IntV x.1.to.2 ∧ x.2.length ≤ 140737488351232) (hs : ∀ a, sn' a = (countF S a : Int)) : Cs w0 k g v' m1 m2 L' n' sn' mn' su S w' :=
  ⟨hN, hI, hm, ho, owns_keeps h.row hk (row_mine h), h.len, hs, h.keeps.andThen hk (fun b hb e => mine_new h b hb e)⟩
theorem Cs.mn0 {w0 w : World} {k g : Nat} {v : Value} {m1 m2 : Nat} {L : Way} {n : Nat} {sn : Ad → Int} {mn : Pr → Int} {su : Value} {S : List Ad} (h : Cs w0 k g v m1 m2 L n sn mn su S w) : ∀ x ∈ L, IntV x.1.fr.2 ∧ IntV x.1.to.2 ∧ 0 ≤ mn x.1.pair := fun x hx =>
  ⟨(h.ok x hx).1, (h.ok x hx).2.1, by rw [h.inv.many]; omega⟩
theorem Cs.off {w0 w w' : World} {k g : Nat} {v v' : Value} {m1 m2 : Nat} {L : Way} {n : Nat} {sn : Ad → Int} {mn : Pr → Int} {su : Value} {S : List Ad} (h : Cs w0 k g v m1 m2 L n sn mn su S w) (hk : Keeps (Mine g m1 m2 v) w w') {i : Nat} {x : Pk} {zs : List Int} (hx : L[i]? = some (x, zs))
    (hN : Nt w' g w0.heap.size v' m1 m2 (L.eraseIdx i) (n + 1) sn (upd mn x.pair (mn x.pair - 1)) ) (hm : n + 1 ≤ 2 * k) : Cs w0 k g v' m1 m2 (L.eraseIdx i) (n + 1) sn (upd mn x.pair (mn x.pair - 1)) su S w' :=
  h.turn hk hN (h.inv.off hx) hm (fun y hy => h.ok y (List.mem_of_mem_eraseIdx hy)) h.sent
theorem addrs_apart {w : World} {g base B m : Nat} {v su : Value} {m1 m2 : Nat} {L : Way} {n : Nat} {sn : Ad → Int} {mn : Pr → Int} {xs : List Value} (hN : Nt w g base v m1 m2 L n sn mn) (hrow : w.ownsRow B 27 2 su m xs) :
    (∀ b, Mine g m1 m2 v b → ¬ OwnB su b) ∧ ∀ x ∈ L, ∀ b, x.1.dv.ownBlock = some b → ¬ OwnB su b := by
  have hg := hN.blk.raw
  obtain ⟨e1, k1, h1⟩ := hN.sent.obj
  obtain ⟨e2, k2, h2⟩ := hN.many.obj
  refine ⟨fun b hm hb => ?_, fun x hx b hd hb => ?_⟩
  · obtain ⟨cur, hc⟩ := owns_obj hrow hb
    rcases hm with (e | e | e | e)
    · rw [e, hg] at hc; cases hc
    · rw [e, h1] at hc; cases hc
    · rw [e, h2] at hc; cases hc
    · obtain ⟨cur', hc'⟩ := owns_obj hN.row e
      rw [hc] at hc'; cases hc'
  · exact rows_apart hrow (hN.bytes x hx).raw (by decide) hb hd
/-- A packet was sent, or refused, and the sender is written down. -/
theorem Cs.after {w0 wb wc wd we : World} {k g : Nat} {v v' : Value} {m1 m2 : Nat} {L L' : Way} {n n' : Nat} {sn : Ad → Int} {mn mn' : Pr → Int} {su su' : Value} {S : List Ad} (h : Cs w0 (k + 1) g v m1 m2 L n sn mn su S wb) (hlen : S.length ≤ k) (a : Ad) (hk : Keeps (Mine g m1 m2 v) wb wc)
    (hN : Nt wc g w0.heap.size v' m1 m2 L' n' (upd sn a (sn a + 1)) mn') (hI : Inv L' (upd sn a (sn a + 1)) mn') (hm : n' ≤ 2 * (k + 1)) (ho : ∀ x ∈ L', IntV x.1.fr.2 ∧ IntV x.1.to.2 ∧ x.2.length ≤ 140737488351232) (hka : Keeps None wc wd) (hkb : Keeps (OwnB su) wd we)
    (hrow : we.ownsRow w0.heap.size 27 2 su' (S.length + 1) (Ads.cells S ++ adCells a)) : Cs w0 (k + 1) g v' m1 m2 L' n' (upd sn a (sn a + 1)) mn' su' (S ++ [a]) we := by
  have hr : wd.ownsRow w0.heap.size 27 2 su S.length (Ads.cells S) := owns_grew (owns_keeps h.row hk (row_mine h)) hka
  obtain ⟨q1, q2⟩ := addrs_apart (hN.grew hka) hr
  refine ⟨(hN.grew hka).keeps hkb q1 q2, hI, hm, ho, ?_, by simp; omega, fun b => ?_, ?_⟩
  · rw [Ads.cells_snoc, List.length_append]
    exact hrow
  · rw [countF_snoc]
    by_cases e : b = a
    · subst e
      rw [upd_same, h.sent]
      simp
    · rw [upd_other _ _ _ _ e, h.sent, if_neg (fun e2 => e e2.symm)]
      simp
  · exact ((h.keeps.andThen hk (fun b hb e => mine_new h b hb e)).trans hka).andThen hkb (fun b hb e => by
      have := (World.ownsRow.lt h.row b e).1
      omega)
end Go.Proofs.Ytcplogdaepmpnaa
