/- The plain law of the net: names are of one packet, pairs are counted. -/
import Derived.Test.YtcplogdaepmpnaaNetEq
namespace Go.Proofs.Ytcplogdaepmpnaa
open Go.RowKit

def pairsF (L : Way) (p : Pr) : Nat := L.countP (fun x => decide (x.1.pair = p))

structure Inv (L : Way) (sn : Ad → Int) (mn : Pr → Int) : Prop where
  uniq : ∀ x ∈ L, ∀ y ∈ L, x.1.fr = y.1.fr → x.1.ct = y.1.ct → core x = core y
  many : ∀ p, mn p = (pairsF L p : Int)
  room : ∀ p, mn p ≤ 64
  cts : ∀ x ∈ L, x.1.ct ≤ sn x.1.fr

theorem core_fr {x y : Pk × List Int} (h : core x = core y) : x.1.fr = y.1.fr ∧ x.1.ct = y.1.ct ∧ x.1.to = y.1.to ∧ x.2 = y.2 := by
  simp only [core, Prod.mk.injEq] at h
  exact ⟨h.1, h.2.1, h.2.2.1, h.2.2.2⟩

theorem Inv.nil : Inv [] (fun _ => 0) (fun _ => 0) := ⟨fun _ h => (by cases h), fun _ => rfl, fun _ => by omega, fun _ h => (by cases h)⟩
theorem Inv.clear {L : Way} {sn : Ad → Int} {mn : Pr → Int} (_ : Inv L sn mn) : Inv [] sn (fun _ => 0) := ⟨fun _ h => (by cases h), fun _ => rfl, fun _ => by omega, fun _ h => (by cases h)⟩
theorem Inv.lost {L : Way} {sn : Ad → Int} {mn : Pr → Int} (h : Inv L sn mn) (a : Ad) : Inv L (upd sn a (sn a + 1)) mn :=
  ⟨h.uniq, h.many, h.room, fun x hx => by
    have := h.cts x hx
    by_cases e : x.1.fr = a
    · rw [e, upd_same]; rw [e] at this; omega
    · rw [upd_other _ _ _ _ e]; exact this⟩

theorem pairs_snoc (L : Way) (x : Pk × List Int) (p : Pr) : pairsF (L ++ [x]) p = pairsF L p + (if x.1.pair = p then 1 else 0) := by
  unfold pairsF
  rw [List.countP_append]
  by_cases h : x.1.pair = p <;> simp [h]
theorem upd_inc {L : Way} {mn : Pr → Int} (h : ∀ p, mn p = (pairsF L p : Int)) (x : Pk × List Int) (p : Pr) : upd mn x.1.pair (mn x.1.pair + 1) p = (pairsF (L ++ [x]) p : Int) := by
  rw [pairs_snoc]
  by_cases e : p = x.1.pair
  · subst e
    rw [upd_same, h]
    simp
  · rw [upd_other _ _ _ _ e, h, if_neg (fun e2 => e e2.symm)]
    simp

/-- One more comes, of a name that is new or is one of these. -/
theorem Inv.come {L : Way} {sn : Ad → Int} {mn : Pr → Int} (h : Inv L sn mn) (x : Pk × List Int) (hm : mn x.1.pair < 64) (hc : x.1.ct ≤ sn x.1.fr)
    (hu : ∀ y ∈ L, y.1.fr = x.1.fr → y.1.ct = x.1.ct → core y = core x) : Inv (L ++ [x]) sn (upd mn x.1.pair (mn x.1.pair + 1)) := by
  refine ⟨fun y hy z hz e1 e2 => ?_, upd_inc h.many x, fun p => ?_, fun y hy => ?_⟩
  · rcases List.mem_append.1 hy with ky | ky <;> rcases List.mem_append.1 hz with kz | kz
    · exact h.uniq y ky z kz e1 e2
    · obtain rfl := List.mem_singleton.1 kz
      exact hu y ky e1 e2
    · obtain rfl := List.mem_singleton.1 ky
      exact (hu z kz e1.symm e2.symm).symm
    · rw [List.mem_singleton.1 ky, List.mem_singleton.1 kz]
  · by_cases e : p = x.1.pair
    · subst e
      rw [upd_same]
      omega
    · rw [upd_other _ _ _ _ e]
      exact h.room p
  · rcases List.mem_append.1 hy with hy | hy
    · exact h.cts y hy
    · rw [List.mem_singleton.1 hy]; exact hc

theorem Inv.send {L : Way} {sn : Ad → Int} {mn : Pr → Int} (h : Inv L sn mn) (p : Pk) (zs : List Int) (d : Value) (hm : mn p.pair < 64) :
    Inv (L ++ [({p with ct := sn p.fr + 1, dv := d}, zs)]) (upd sn p.fr (sn p.fr + 1)) (upd mn p.pair (mn p.pair + 1)) :=
  (h.lost p.fr).come ({p with ct := sn p.fr + 1, dv := d}, zs) hm (by show sn p.fr + 1 ≤ upd sn p.fr (sn p.fr + 1) p.fr; rw [upd_same]; omega) (fun y hy e1 e2 => by
    have := h.cts y hy
    simp only at e1 e2
    rw [e1] at this
    omega)

theorem Inv.double {L : Way} {sn : Ad → Int} {mn : Pr → Int} (h : Inv L sn mn) {x : Pk} {zs : List Int} (hx : (x, zs) ∈ L) (d : Value) (hm : mn x.pair < 64) :
    Inv (L ++ [({x with dv := d}, zs)]) sn (upd mn x.pair (mn x.pair + 1)) :=
  h.come ({x with dv := d}, zs) hm (h.cts (x, zs) hx) (fun y hy e1 e2 => by
    have := h.uniq y hy _ hx e1 e2
    simpa [core] using this)

theorem pairs_erase (L : Way) (i : Nat) (x : Pk × List Int) (hx : L[i]? = some x) (p : Pr) : (pairsF (L.eraseIdx i) p : Int) = (pairsF L p : Int) - (if x.1.pair = p then 1 else 0) := by
  obtain ⟨hl, hg⟩ := List.getElem?_eq_some_iff.1 hx
  have e : L = L.take i ++ (x :: L.drop (i + 1)) := by
    rw [← hg, List.getElem_cons_drop, List.take_append_drop]
  rw [List.eraseIdx_eq_take_drop_succ]
  unfold pairsF
  conv => rhs; rw [e]
  rw [List.countP_append, List.countP_append, List.countP_cons]
  by_cases h : x.1.pair = p
  · simp [h]; omega
  · simp [h]
theorem Inv.off {L : Way} {sn : Ad → Int} {mn : Pr → Int} (h : Inv L sn mn) {i : Nat} {x : Pk} {zs : List Int} (hx : L[i]? = some (x, zs)) : Inv (L.eraseIdx i) sn (upd mn x.pair (mn x.pair - 1)) := by
  refine ⟨fun y hy z hz => h.uniq y (List.mem_of_mem_eraseIdx hy) z (List.mem_of_mem_eraseIdx hz), fun p => ?_, fun p => ?_, fun y hy => h.cts y (List.mem_of_mem_eraseIdx hy)⟩
  · rw [pairs_erase L i _ hx]
    by_cases e : p = x.pair
    · subst e
      rw [upd_same, h.many]
      simp
    · rw [upd_other _ _ _ _ e, h.many, if_neg (fun e2 => e e2.symm)]
      simp
  · by_cases e : p = x.pair
    · subst e
      rw [upd_same]
      have := h.room x.pair
      omega
    · rw [upd_other _ _ _ _ e]
      exact h.room p
end Go.Proofs.Ytcplogdaepmpnaa
