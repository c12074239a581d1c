/- cairnlaw1.opened: any bytes are opened as the document opens them. -/
import Derived.Test.YtnhhmkgcgogddaaRefSeal
namespace Go.Proofs.Ytnhhmkgcgogddaa
open Go.RowKit

/-- True is answered, and nothing that was there is turned. -/
def TrueEnd (w : World) (e : Ending) (w' : World) : Prop := e = .returned (.bool true) ∧ Keeps None w w'

theorem SameB_self (xs : List Int) : SameB xs xs = true := by simp [SameB]

theorem sealF_len (zs : List Int) (h : zs.length ≤ 131072) : (sealF zs).length = zs.length + 12 := by
  unfold sealF
  rw [if_neg (by omega)]
  simp only [List.length_append, fourF_len]
  omega
theorem sealF_long (zs : List Int) (h : 131072 < zs.length) : sealF zs = [] := by unfold sealF; rw [if_pos h]
theorem sealF_bytes (zs : List Int) (hb : Bytes zs) : Bytes (sealF zs) := by
  unfold sealF
  split
  · intro c hc; cases hc
  · exact (((fourF_bytes _).append (fourF_bytes _)).append hb).append (fourF_bytes _)
theorem openF_le (zs : List Int) : (openF zs).1.length ≤ zs.length := by
  unfold openF
  repeat' split
  all_goals first | (simp; done) | (simp; omega)
theorem openF_bytes (zs : List Int) (hb : Bytes zs) : Bytes (openF zs).1 := by
  unfold openF
  repeat' split
  all_goals first | (intro c hc; cases hc; done) | exact (hb.drop 8).take _

set_option maxRecDepth 100000 in
set_option maxHeartbeats 1600000 in
theorem opened_any (A : Option Addr) (n cap : Nat) (zs : List Int) (w : World) (hA : Nums .u8 w A zs) (hb : Bytes zs) (hn : zs.length = n) (hr : n ≤ 140737488351232) (hc : n ≤ cap) :
    Calls Try.prog 23 #[.slice A n cap] w (TrueEnd w) := by
  subst hn
  go_enter Try.func23, Try.ntmps23
  go_wp2_with fail
  refine (lend_any A zs.length cap zs w hA rfl hr).mono ?_
  rintro e w1 ⟨g, rfl, hg0, hg, hK1⟩
  have hgl := hg.lt
  go_wp2_with fail
  refine (open_any (some ⟨g, 0, Option.none⟩) zs.length (zs.length + 5) zs w1 (lentCells_nums hg) hb rfl hr (by omega)).mono ?_
  rintro e w2 ⟨v, rfl, hv, hk2⟩
  have hK2 := hK1.trans hk2
  have hg2 := hg.grew hk2
  go_wp2_with fail
  refine (back_any g zs.length zs A zs.length cap w2 hg2 rfl (hA.grew hK2) rfl hr).mono ?_
  rintro e w3 ⟨rfl, -, hk3⟩
  have hK3 : Keeps None w w3 := hK2.andThen hk3 (fun i hi e => by cases e; omega)
  have hv3 : Row .u8 5 w3 w.heap.size v (openF zs).1 := (hv.keeps hk3 (fun i hi e => by have := hv.lt i hi; cases e; omega)).down hK1.size
  clear hv hg hg2 hk2 hk3
  go_wp2_with fail
  refine (refopen_any A zs.length cap zs w3 (hA.grew hK3) hb rfl hr hc).mono ?_
  rintro e w4 ⟨u, rfl, hu, hk4⟩
  have hK4 := hK3.trans hk4
  have hv4 := hv3.grew hk4
  have hle := openF_le zs
  obtain ⟨o1, eo1⟩ : ∃ o1, o1 = (openF zs).1 := ⟨_, rfl⟩
  obtain ⟨o2, eo2⟩ : ∃ o2, o2 = (openF zs).2 := ⟨_, rfl⟩
  rw [← eo1] at hv4 hu hle
  rw [← eo2]
  clear eo1 eo2 hv3
  obtain ⟨A5, c5, rfl, -, hn5, -⟩ := hv4.open_
  obtain ⟨A6, c6, rfl, -, hn6, -⟩ := hu.open_
  have t1 : (o2 == o2) = true := by simp
  go_wp2_with fail
  refine (same_any A5 o1.length c5 o1 A6 o1.length c6 o1 w4 hn5 rfl hn6 rfl (by omega)).mono ?_
  rintro e w5 ⟨rfl, hd5⟩
  rw [SameB_self]
  go_wp2
  go_ret
  exact ⟨ret_bool (by simp), hK4.trans (hd5.keeps None)⟩
end Go.Proofs.Ytnhhmkgcgogddaa
