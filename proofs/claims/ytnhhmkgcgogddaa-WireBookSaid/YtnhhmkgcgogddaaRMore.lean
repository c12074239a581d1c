/- The reader's Text, More, End, Err; Read. -/
import Derived.Test.YtnhhmkgcgogddaaRBytEnd
import Derived.Test.YtnhhmkgcgogddaaPutting
namespace Go.Proofs.Ytnhhmkgcgogddaa
open Go.RowKit
set_option linter.unusedVariables false

theorem bytStep_bytes (zs : List Int) (s : St) (hb : Bytes zs) : Bytes (bytStep zs s).1 := by
  unfold bytStep
  split
  · unfold bytD
    split <;> rename_i h
    · split at h
      · split at h
        · cases h; exact fun c hc => hb c (List.mem_of_mem_drop (List.mem_of_mem_take hc))
        · cases h
      · cases h
    · exact fun c hc => by cases hc
  · exact fun c hc => by cases hc

def TextEnd (r : List Int × St) (g base : Nat) (v : Value) (zs : List Int) (w : World) (e : Ending) (w' : World) : Prop := e = .returned (.string (strOfNums r.1)) ∧ r.2.at w' g base v zs ∧ Keeps (One g) w w'

set_option maxRecDepth 100000 in
set_option maxHeartbeats 1600000 in
theorem rtext_any (g base : Nat) (v : Value) (zs : List Int) (s : St) (w : World) (h : s.at w g base v zs) (hr : zs.length ≤ 140737488351232) (hb : Bytes zs) :
    Calls Try.prog 55 #[.pointer (some ⟨g, 0, Option.none⟩)] w (TextEnd (bytStep zs s) g base v zs w) := by
  obtain ⟨r, hr'⟩ : ∃ r, r = bytStep zs s := ⟨_, rfl⟩
  have hB := rByt_any g base v zs s w h hr hb
  rw [← hr'] at hB ⊢
  have HB := Lib.hid hB
  clear hr' hB
  go_enter Try.func55, Try.ntmps55
  go_wp2_with fail
  refine HB.out.mono ?_
  rintro e w2 ⟨v2, rfl, hv2, hs2, hk2⟩
  obtain ⟨A2, c2, rfl, -, hN2, -⟩ := hv2.open_
  have hcv := conv_nums w2 A2 r.1.length c2 r.1 hN2 rfl
  go_wp2_with fail
  go_ret
  exact ⟨rfl, hs2, hk2⟩

set_option maxRecDepth 100000 in
set_option maxHeartbeats 1600000 in
theorem rmore_any (g base : Nat) (v : Value) (zs : List Int) (s : St) (w : World) (h : s.at w g base v zs) (hr : zs.length ≤ 140737488351232) :
    Calls Try.prog 34 #[.pointer (some ⟨g, 0, Option.none⟩)] w fun e w' => e = .returned (.bool (decide (s.err = 0) && decide (s.p < zs.length))) ∧ Drew w w' := by
  obtain ⟨p, err, place⟩ := s
  have h : Rd w g base v zs p err place := h
  obtain ⟨A, cv, rfl, -⟩ := h.row.open_
  have c0 := h.blk.cell 0 _ rfl
  have c1 := h.blk.cell 1 _ rfl
  have c2 := h.blk.cell 2 _ rfl
  by_cases he : err = 0
  · obtain ⟨t1, t2⟩ := test_eq he
    have hE : Hid (decide ((⟨p, err, place⟩ : St).err = 0) = true) := Lib.hid (decide_eq_true he)
    clear he
    go_enter Try.func34, Try.ntmps34
    go_wp2_with fail
    go_quiet (fail)
    go_wp2_with fail
    go_ret
    exact ⟨by rw [hE.out]; simp, _, rfl⟩
  · obtain ⟨t1, t2⟩ := test_ne he
    have hE : Hid (decide ((⟨p, err, place⟩ : St).err = 0) = false) := Lib.hid (decide_eq_false he)
    clear he
    go_enter Try.func34, Try.ntmps34
    go_wp2_with fail
    go_quiet (fail)
    go_wp2_with fail
    go_ret
    exact ⟨by rw [hE.out]; simp, _, rfl⟩

def endStep (zs : List Int) (s : St) : St := if s.err = 0 ∧ s.p < zs.length then ⟨s.p, 11, s.p⟩ else s

set_option maxRecDepth 100000 in
set_option maxHeartbeats 1600000 in
theorem rend_any (g base : Nat) (v : Value) (zs : List Int) (s : St) (w : World) (h : s.at w g base v zs) (hr : zs.length ≤ 140737488351232) :
    Calls Try.prog 35 #[.pointer (some ⟨g, 0, Option.none⟩)] w fun e w' => e = .returned (.tuple #[]) ∧ (endStep zs s).at w' g base v zs ∧ Keeps (One g) w w' := by
  by_cases hm : s.err = 0 ∧ s.p < zs.length
  · have hE : Hid (endStep zs s = ⟨s.p, 11, s.p⟩) := Lib.hid (if_pos hm)
    have hM : Hid ((decide (s.err = 0) && decide (s.p < zs.length)) = true) := Lib.hid (by simp [hm])
    go_enter Try.func35, Try.ntmps35
    go_wp2_with fail
    refine (rmore_any g base v zs s w h hr).mono ?_
    rintro e w2 ⟨rfl, hd2⟩
    rw [hM.out]
    have h2 : Rd w2 g base v zs s.p s.err s.place := h.grew (hd2.keeps None)
    have c1 := h2.blk.cell 1 _ rfl
    have c2 := h2.blk.cell 2 _ rfl
    have c3 := h2.blk.cell 3 _ rfl
    have f2 := h2.blk.free 2
    have f3 := h2.blk.free 3
    have kk : Keeps (One g) w2 ((w2.setCell ⟨g, 2, Option.none⟩ (.int .i64 11)).setCell ⟨g, 3, Option.none⟩ (.int .i64 s.p)) := ((Keeps.refl (One g) w2).setCell ⟨g, 2, Option.none⟩ _ (fun _ => rfl)).setCell ⟨g, 3, Option.none⟩ _ (fun _ => rfl)
    have h3 : Rd ((w2.setCell ⟨g, 2, Option.none⟩ (.int .i64 11)).setCell ⟨g, 3, Option.none⟩ (.int .i64 s.p)) g base v zs s.p 11 s.p := ⟨(h2.blk.set 2 _).set 3 _, h2.row.keeps kk (fun b e f => h2.ne b e f), h2.hb, h2.ne, h2.le⟩
    have hk := (hd2.keeps (One g)).trans kk
    clear hm
    go_wp2_with fail
    go_end0
    rw [hE.out]
    exact ⟨rfl, h3, hk⟩
  · have hE : Hid (endStep zs s = s) := Lib.hid (if_neg hm)
    have hM : Hid ((decide (s.err = 0) && decide (s.p < zs.length)) = false) := Lib.hid (by simpa using hm)
    go_enter Try.func35, Try.ntmps35
    go_wp2_with fail
    refine (rmore_any g base v zs s w h hr).mono ?_
    rintro e w2 ⟨rfl, hd2⟩
    rw [hM.out]
    go_wp2_with fail
    go_end0
    rw [hE.out]
    exact ⟨rfl, h.grew (hd2.keeps None), hd2.keeps _⟩

set_option maxRecDepth 100000 in
set_option maxHeartbeats 1600000 in
theorem rerr_any (g base : Nat) (v : Value) (zs : List Int) (s : St) (w : World) (h : s.at w g base v zs) :
    Calls Try.prog 36 #[.pointer (some ⟨g, 0, Option.none⟩)] w fun e w' => e = .returned (.tuple #[.int .i64 s.place, .int .i64 s.err]) ∧ Drew w w' := by
  obtain ⟨p, err, place⟩ := s
  have h : Rd w g base v zs p err place := h
  have c2 := h.blk.cell 2 _ rfl
  have c3 := h.blk.cell 3 _ rfl
  go_enter Try.func36, Try.ntmps36
  go_wp2_with fail
  go_quiet (fail)
  go_wp2_with fail
  go_ret2
  exact ⟨rfl, _, rfl⟩

set_option maxRecDepth 100000 in
set_option maxHeartbeats 1600000 in
theorem read_any (A : Option Addr) (n cap : Nat) (zs : List Int) (w : World) (hA : Nums .u8 w A zs) (hn : zs.length = n) (hr : n ≤ 140737488351232) :
    Calls Try.prog 31 #[.slice A n cap] w fun e w' => ∃ g v, e = .returned (.pointer (some ⟨g, 0, Option.none⟩)) ∧ (⟨0, 0, 0⟩ : St).at w' g w.heap.size v zs ∧ Keeps None w w' := by
  subst hn
  go_enter Try.func31, Try.ntmps31
  go_wp2_with fail
  refine (clone_any A zs.length cap zs w hA rfl hr).mono ?_
  rintro e w2 ⟨v, rfl, hv, hk⟩
  obtain ⟨A2, c2, rfl⟩ := hv.slice
  have hlt := hv.lt
  have hsz := hk.size
  go_wp2_with fail
  go_ret
  exact ⟨w2.heap.size, .slice A2 zs.length c2, rfl, ⟨Blk.new w2 87 [.slice A2 zs.length c2, .int .i64 0, .int .i64 0, .int .i64 0], hv.grew ((Keeps.refl _ _).alloc _), hsz, fun b e => by have := (hlt b e).2; omega, Nat.zero_le _⟩, hk.alloc _⟩
end Go.Proofs.Ytnhhmkgcgogddaa
