/- cairnlaw7.blocks: the blocks of a row of messages, in a list of their own. -/
import Derived.Test.YtcihfjfbcfgidaaToldState
import Derived.Deep.DeepCutAuto
namespace Go.Proofs.Ytcihfjfbcfgidaa
open Go.RowKit

/-- What a row of messages holds in its blocks. -/
def Dvs (w : World) (A : Option Addr) (ds : List Value) : Prop :=
  ∀ j u, ds[j]? = some u → ∃ b, A = some ⟨b, 0, Option.none⟩ ∧ w.cell? ⟨b, j * 30 + 15, Option.none⟩ = some u ∧ ∃ A n c, u = .slice A n c
theorem Dvs.grew {w w' : World} {A : Option Addr} {ds : List Value} (h : Dvs w A ds) (hk : Keeps None w w') : Dvs w' A ds := fun j u e => by
  obtain ⟨b, h1, h2, h3⟩ := h j u e
  exact ⟨b, h1, hk.cell h2 id, h3⟩

set_option maxRecDepth 100000 in
set_option maxHeartbeats 1600000 in
theorem blocks_any (A : Option Addr) (n cap : Nat) (ds : List Value) (w : World) (hD : Dvs w A ds) (hn : ds.length = n) (hr : n ≤ 1000) :
    Calls Try.prog 20 #[.slice A n cap] w fun e w' => ∃ al, e = .returned al ∧ w'.ownsRow w.heap.size 24 1 al n ds ∧ Keeps None w w' := by
  obtain ⟨i1, hj, hy0, hy1, hy2⟩ := info_parts Try.infoBs
  subst hn
  go_enter Try.func20, Try.ntmps20
  go_wp2_with fail
  go_loopw [3, 4] (fun al i wr => ∃ j : Nat, j ≤ ds.length ∧ i = .int .i64 (j : Int) ∧ wr.ownsRow w.heap.size 24 1 al j (ds.take j) ∧ Keeps None w wr) (fun _ i _ => ds.length - (intOf i).toNat)
  case atStart => exact ⟨0, by omega, rfl, World.ownsRow_nil _ _ _ _, Keeps.refl _ _⟩
  case round =>
    obtain ⟨j, hjl, rfl, hR, hK⟩ := hrel
    by_cases hlt : j < ds.length
    · obtain ⟨u, hu⟩ : ∃ u, ds[j]? = some u := ⟨_, List.getElem?_eq_getElem hlt⟩
      obtain ⟨b, rfl, hc, Au, nu, cu, rfl⟩ := (hD.grew hK) j u hu
      have HT := Lib.hid (take_succ_of hu)
      have hks := hK.size
      clear hu
      go_wp2_with (at_builtin; refine wpList_append_row _ rfl (.tmp 11) (.tmp 17) 35 rfl w.heap.size 24 i1 (.slice Option.none 0 0) 1 24 Try.underlying35 hj hy0 hy1 hy2 rfl (by decide) u3 j _ rfl (owns_grew hR ((Keeps.refl None _).alloc _)) (some ⟨wr.heap.size, 0, Option.none⟩) 1 1 [.slice Au nu cu] rfl rfl (fun e => by cases e) (src_new _ 24 _ _ rfl) (by intro u hu; simp at hu; subst hu; rfl) (by unfold maxLen; omega) (by omega) (by simp only [World.size_alloc]; omega) ?_; intro al' w2 hown hk2 hloc)
      have hk3 : Keeps None w w2 := (hK.alloc _).andThen hk2 (fun i hi e => by have := (World.ownsRow.lt hR i e).1; omega)
      rw [← HT.out] at hown
      clear hloc hk2
      go_roundw
      case rel => exact ⟨j + 1, by omega, by go_num, hown, hk3⟩
      case measure => simp [intOf]; omega
    · obtain rfl : j = ds.length := by omega
      rw [List.take_of_length_le (Nat.le_refl _)] at hR
      go_wp2_with fail
      go_ret
      exact ⟨_, rfl, hR, hK⟩
end Go.Proofs.Ytcihfjfbcfgidaa
