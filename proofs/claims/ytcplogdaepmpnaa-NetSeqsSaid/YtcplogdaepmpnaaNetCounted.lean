/- cairnlaw16.counted: how often an address stands in a list. -/
import Derived.Test.YtcplogdaepmpnaaNetSame
namespace Go.Proofs.Ytcplogdaepmpnaa
open Go.RowKit

/-- Addresses lie there in a row. -/
def Ads (w : World) (A : Option Addr) (l : List Ad) : Prop := ∀ (j : Nat) (a : Ad), l[j]? = some a → ∃ b o, A = some ⟨b, o, Option.none⟩ ∧ w.cell? ⟨b, o + j * 2, Option.none⟩ = some (.bool a.1) ∧ w.cell? ⟨b, o + j * 2 + 1, Option.none⟩ = some (.int .i64 a.2)
theorem Ads.keeps {S : Nat → Prop} {w w' : World} {A : Option Addr} {l : List Ad} (h : Ads w A l) (hk : Keeps S w w') (hS : ∀ b o, A = some ⟨b, o, Option.none⟩ → ¬ S b) : Ads w' A l := fun j a ha => by
  obtain ⟨b, o, e, h1, h2⟩ := h j a ha
  exact ⟨b, o, e, hk.cell h1 (hS b o e), hk.cell h2 (hS b o e)⟩
theorem Ads.grew {w w' : World} {A : Option Addr} {l : List Ad} (h : Ads w A l) (hk : Keeps None w w') : Ads w' A l := h.keeps hk (fun _ _ _ => id)

def countF (l : List Ad) (a : Ad) : Nat := l.countP (fun x => decide (x = a))
theorem countF_snoc (l : List Ad) (x a : Ad) : countF (l ++ [x]) a = countF l a + (if x = a then 1 else 0) := by
  unfold countF
  rw [List.countP_append]
  by_cases h : x = a <;> simp [h]
theorem countF_le (l : List Ad) (a : Ad) : countF l a ≤ l.length := List.countP_le_length

set_option maxRecDepth 100000 in
set_option maxHeartbeats 4000000 in
theorem counted_any (A : Option Addr) (n cap : Nat) (l : List Ad) (a : Ad) (w : World) (hA : Ads w A l) (hn : l.length = n) (hr : n ≤ 17592186044416) :
    Calls Try.prog 23 #[.slice A n cap, adV a] w fun e w' => e = .returned (.int .i64 (countF l a : Int)) ∧ Keeps None w w' := by
  subst hn
  obtain ⟨a1, a2⟩ := a
  simp only [adV]
  have k0 := (Keeps.refl None w).alloc (.cells #[.bool a1, .int .i64 a2] 27)
  have hB := Blk.new w 27 [.bool a1, .int .i64 a2]
  go_enter Try.func23, Try.ntmps23
  go_wp2
  go_loopw [5, 6] (fun y i wr => ∃ k : Nat, k ≤ l.length ∧ i = .int .i64 k ∧ (∃ c : Nat, y = .int .i64 c ∧ c ≤ k ∧ Hid (c = countF (l.take k) (a1, a2))) ∧ Keeps None (w.alloc (.cells #[.bool a1, .int .i64 a2] 27)) wr) (fun _ i _ => l.length - (intOf i).toNat)
  case atStart => exact ⟨0, Nat.zero_le _, rfl, ⟨0, rfl, Nat.le_refl _, Lib.hid rfl⟩, Keeps.refl _ _⟩
  case round =>
    obtain ⟨k, hk, rfl, ⟨c, rfl, hck, hc⟩, hK⟩ := hrel
    have hb := hB.grew hK
    have d0 := hb.cell 0 _ rfl
    have d1 := hb.cell 1 _ rfl
    by_cases hlt : k < l.length
    · obtain ⟨⟨x1, x2⟩, hx⟩ : ∃ x, l[k]? = some x := ⟨_, List.getElem?_eq_getElem hlt⟩
      obtain ⟨b, o, rfl, e0, e1⟩ := hA.grew (k0.trans hK) k _ hx
      have HT := Lib.hid (take_succ_of hx)
      clear hx
      simp only at e0 e1
      by_cases h1 : x1 = a1
      · subst h1
        by_cases h2 : x2 = a2
        · subst h2
          have HC : Hid (c + 1 = countF (l.take (k + 1)) (x1, x2)) := Lib.hid (by rw [HT.out, countF_snoc, ← hc.out]; simp)
          have hw1 : IntKind.i64.wrap ((c : Int) + 1) = (c : Int) + 1 := by rw [IntKind.wrap_i64]; omega
          go_wp2_with fail
          go_quiet (fail)
          go_wp2_with fail
          go_roundw
          case rel => exact ⟨k + 1, by omega, by go_num, ⟨c + 1, by go_num, by omega, HC⟩, hK.drewN _⟩
          case measure => simp [intOf]; omega
        · obtain ⟨q1, q2⟩ := test_ne h2
          have HC : Hid (c = countF (l.take (k + 1)) (x1, a2)) := Lib.hid (by rw [HT.out, countF_snoc, ← hc.out]; simp [h2])
          go_wp2_with fail
          go_quiet (fail)
          go_wp2_with fail
          go_roundw
          case rel => exact ⟨k + 1, by omega, by go_num, ⟨c, rfl, by omega, HC⟩, hK.drewN _⟩
          case measure => simp [intOf]; omega
      · have q1 : (x1 == a1) = false := by simp [h1]
        have HC : Hid (c = countF (l.take (k + 1)) (a1, a2)) := Lib.hid (by rw [HT.out, countF_snoc, ← hc.out]; simp [h1])
        go_wp2_with fail
        go_quiet (fail)
        go_wp2_with fail
        go_roundw
        case rel => exact ⟨k + 1, by omega, by go_num, ⟨c, rfl, by omega, HC⟩, hK.drewN _⟩
        case measure => simp [intOf]; omega
    · obtain rfl : k = l.length := by omega
      go_wp2_with fail
      go_ret
      exact ⟨ret_int (by have := hc.out; rw [List.take_of_length_le (Nat.le_refl _)] at this; rw [this]), k0.trans hK⟩
end Go.Proofs.Ytcplogdaepmpnaa
