/- The reference's More, End; one call of both readers. -/
import Derived.Test.YtnhhmkgcgogddaaRReadB
namespace Go.Proofs.Ytnhhmkgcgogddaa
open Go.RowKit Go.Proofs.YtnhhmkgcgogddaaW.PrintLast
set_option linter.unusedVariables false

set_option maxRecDepth 100000 in
set_option maxHeartbeats 1600000 in
theorem refmore_any (r : Nat) (A : Option Addr) (n cap : Nat) (s : St) (w : World) (h : RR w r A n cap s) (hr : n ≤ 140737488351232) :
    Calls Try.prog 56 #[.pointer (some ⟨r, 0, Option.none⟩)] w fun e w' => e = .returned (.bool (decide (s.err = 0) && decide (s.p < n))) ∧ Drew w w' := by
  obtain ⟨p, err, place⟩ := s
  have c0 := h.blk.cell 0 _ rfl
  have c1 := h.blk.cell 1 _ rfl
  have c2 := h.blk.cell 2 _ rfl
  by_cases he : err = 0
  · obtain ⟨t1, t2⟩ := test_eq he
    have hE : Hid (decide ((⟨p, err, place⟩ : St).err = 0) = true) := Lib.hid (decide_eq_true he)
    clear he
    go_enter Try.func56, Try.ntmps56
    go_wp2_with fail
    go_quiet (fail)
    go_wp2_with fail
    go_ret
    exact ⟨by rw [hE.out]; simp, _, rfl⟩
  · obtain ⟨t1, t2⟩ := test_ne he
    have hE : Hid (decide ((⟨p, err, place⟩ : St).err = 0) = false) := Lib.hid (decide_eq_false he)
    clear he
    go_enter Try.func56, Try.ntmps56
    go_wp2_with fail
    go_quiet (fail)
    go_wp2_with fail
    go_ret
    exact ⟨by rw [hE.out]; simp, _, rfl⟩

set_option maxRecDepth 100000 in
set_option maxHeartbeats 1600000 in
theorem refend_any (zs : List Int) (r : Nat) (A : Option Addr) (cap : Nat) (s : St) (w : World) (h : RR w r A zs.length cap s) (hr : zs.length ≤ 140737488351232) :
    Calls Try.prog 57 #[.pointer (some ⟨r, 0, Option.none⟩)] w fun e w' => e = .returned (.tuple #[]) ∧ RR w' r A zs.length cap (endStep zs s) ∧ Keeps (One r) w w' := by
  by_cases hm : s.err = 0 ∧ s.p < zs.length
  · have hE : Hid (endStep zs s = ⟨s.p, 11, s.p⟩) := Lib.hid (if_pos hm)
    have hM : Hid ((decide (s.err = 0) && decide (s.p < zs.length)) = true) := Lib.hid (by simp [hm])
    go_enter Try.func57, Try.ntmps57
    go_wp2_with fail
    refine (refmore_any r A zs.length cap s w h hr).mono ?_
    rintro e w2 ⟨rfl, hd2⟩
    rw [hM.out]
    have h2 := h.grew (hd2.keeps None)
    have c1 := h2.blk.cell 1 _ rfl
    clear hm
    go_wp2_with fail
    refine (fail_any r A zs.length cap s 11 s.p w2 h2).mono ?_
    rintro e w3 ⟨rfl, h3, hk3⟩
    go_wp2_with fail
    go_end0
    rw [hE.out]
    exact ⟨rfl, h3, (hd2.keeps _).trans hk3⟩
  · have hE : Hid (endStep zs s = s) := Lib.hid (if_neg hm)
    have hM : Hid ((decide (s.err = 0) && decide (s.p < zs.length)) = false) := Lib.hid (by simpa using hm)
    go_enter Try.func57, Try.ntmps57
    go_wp2_with fail
    refine (refmore_any r A zs.length cap s w h hr).mono ?_
    rintro e w2 ⟨rfl, hd2⟩
    rw [hM.out]
    go_wp2_with fail
    go_end0
    rw [hE.out]
    exact ⟨rfl, h.grew (hd2.keeps None), hd2.keeps _⟩

def callStep (zs : List Int) (kind : Int) (s : St) : St :=
  if kind = 1 then (numStep zs s).2 else if kind = 2 then (intStep zs s).2 else if kind = 3 ∨ kind = 4 then (bytStep zs s).2 else if kind = 6 then endStep zs s else s

/-- What one call of both leaves. -/
def Called (s' : St) (g base : Nat) (v : Value) (zs : List Int) (r : Nat) (A : Option Addr) (cap : Nat) (w : World) (e : Ending) (w' : World) : Prop :=
  e = .returned (.bool true) ∧ s'.at w' g base v zs ∧ RR w' r A zs.length cap s' ∧ Keeps (Two2 g r) w w'
theorem sameB_refl (l : List Int) : SameB l l = true := by simp [SameB]
theorem Rd.tell {w w' : World} {g base : Nat} {v : Value} {zs : List Int} {s : St} {r : Nat} (h : s.at w g base v zs) (hk : Keeps (One r) w w') (hg : g ≠ r) (hv : ∀ b, v.ownBlock = some b → b ≠ r) : s.at w' g base v zs := Rd.keeps h hk hg (fun b e f => hv b e f)

theorem bytStep_len (zs : List Int) (s : St) : (bytStep zs s).1.length ≤ zs.length := by
  unfold bytStep
  split
  · unfold bytD
    split <;> rename_i h
    · split at h
      · split at h
        · cases h; simp only [List.length_take, List.length_drop]; omega
        · cases h
      · cases h
    · simp
  · simp

set_option maxRecDepth 100000 in
set_option maxHeartbeats 3200000 in
theorem call_num (g base : Nat) (v : Value) (zs : List Int) (s : St) (r : Nat) (A : Option Addr) (cap : Nat) (w : World) (h : s.at w g base v zs) (hR : RR w r A zs.length cap s) (hA : Nums .u8 w A zs) (hr : zs.length ≤ 140737488351232) (hb : Bytes zs) (hc : zs.length ≤ cap) (hg : g ≠ r) (hv : ∀ b, v.ownBlock = some b → b ≠ r) (hoff : 0 < zs.length → Off A (One r)) (hoffg : 0 < zs.length → Off A (One g)) :
    Calls Try.prog 28 #[.agg #[.pointer (some ⟨g, 0, Option.none⟩), .pointer (some ⟨r, 0, Option.none⟩)], .int .i64 1] w (Called ((numStep zs s).2) g base v zs r A cap w) := by
  obtain ⟨x, hx⟩ : ∃ x, x = numStep zs s := ⟨_, rfl⟩
  obtain ⟨R, hRR⟩ : ∃ R, R = Called ((numStep zs s).2) g base v zs r A cap w := ⟨_, rfl⟩
  rw [← hRR]
  rw [← hx] at hRR
  have HX := Lib.hid hx
  have HR := Lib.hid hRR
  have HB := Lib.hid hb
  clear hRR hb hx
  have hgl : g < w.heap.size := Blk.lt (Rd.blk h)
  have hrl := hR.blk.lt
  have hvl : ∀ b, v.ownBlock = some b → b < w.heap.size := fun b e => ((Rd.row h).lt b e).2
  have HV := Lib.hid hv
  clear hv hvl
  have hk1 : Keeps None w (w.alloc (.cells #[.pointer (some ⟨g, 0, Option.none⟩), .pointer (some ⟨r, 0, Option.none⟩)] 50)) := (Keeps.refl _ _).alloc _
  have hbx := Blk.new w 50 [.pointer (some ⟨g, 0, Option.none⟩), .pointer (some ⟨r, 0, Option.none⟩)]
  obtain ⟨tb, htb⟩ : ∃ tb, tb = w.heap.size := ⟨_, rfl⟩
  go_enter Try.func28, Try.ntmps28
  go_wp2_with fail
  obtain ⟨w1, hw1⟩ : ∃ w1, w1 = w.alloc (.cells #[.pointer (some ⟨g, 0, Option.none⟩), .pointer (some ⟨r, 0, Option.none⟩)] 50) := ⟨_, rfl⟩
  rw [← htb] at hbx hgl hrl ⊢
  have hbx : Blk w1 tb 50 [.pointer (some ⟨g, 0, Option.none⟩), .pointer (some ⟨r, 0, Option.none⟩)] := by rw [hw1]; exact hbx
  rw [← hw1] at hk1 ⊢
  clear hw1 htb
  have h1 : s.at w1 g base v zs := Rd.grew h hk1
  have hR1 := hR.grew hk1
  have hA1 := hA.grew hk1
  have hP := rNum_any g base v zs s w1 h1 hr HB.out
  rw [← HX.out] at hP
  refine hP.mono ?_
  rintro e w2 ⟨rfl, h2, hk2⟩
  have hbx2 := hbx.keeps hk2 (fun e => by have : tb = g := e; omega)
  have hR2 := hR1.keeps hk2 (fun e => hg (by have : r = g := e; omega))
  have hA2 := hA1.keeps0 hk2 hoffg
  have b1 := hbx2.cell 1 _ rfl
  have hQ := refread_num zs r A zs.length cap s w2 hR2 hA2 rfl hr HB.out hoff
  rw [← HX.out] at hQ
  obtain ⟨xn, xs⟩ := x
  simp only at h2
  clear hP
  go_wp2_with fail
  refine hQ.mono ?_
  rintro e w3 ⟨rfl, hR3, hk3⟩
  simp only at hR3
  clear hQ
  have hbx3 := hbx2.keeps hk3 (fun e => by have : tb = r := e; omega)
  have h3 : xs.at w3 g base v zs := Rd.tell h2 hk3 hg HV.out
  have hK3 : Keeps (Two2 g r) w w3 := (hk1.of_none.trans (hk2.mono (fun k _ e => .inl e))).trans (hk3.mono (fun k _ e => .inr e))
  have k3a : Keeps None w3 (w3.alloc (.cells #[.int .i64 1, .int .i64 xn, .slice Option.none 0 0] 32)) := (Keeps.refl _ _).alloc _
  have hbx3a := hbx3.grew k3a
  have h3a : xs.at (w3.alloc (.cells #[.int .i64 1, .int .i64 xn, .slice Option.none 0 0] 32)) g base v zs := Rd.grew h3 k3a
  have hR3a := hR3.grew k3a
  have hK3a := hK3.trans k3a.of_none
  have b0 := hbx3a.cell 0 _ rfl
  have b1 := hbx3a.cell 1 _ rfl
  go_wp2_with fail
  refine (rerr_any g base v zs xs _ h3a).mono ?_
  rintro e w4 ⟨rfl, hd4⟩
  have hbx4 := hbx3a.grew (hd4.keeps None)
  have h4 : xs.at w4 g base v zs := Rd.grew h3a (hd4.keeps None)
  have hR4 := hR3a.grew (hd4.keeps None)
  have hK4 := hK3a.trans (hd4.keeps _)
  have HFIN := Lib.hid (show R (.returned (.bool true)) w4 from by rw [HR.out]; exact ⟨rfl, h4, hR4, hK4⟩)
  have b0 := hbx4.cell 0 _ rfl
  have b1 := hbx4.cell 1 _ rfl
  have c2 := hR4.blk.cell 2 _ rfl
  have c3 := hR4.blk.cell 3 _ rfl
  go_wp2_with fail
  exact HFIN.out

set_option maxRecDepth 100000 in
set_option maxHeartbeats 3200000 in
theorem call_int (g base : Nat) (v : Value) (zs : List Int) (s : St) (r : Nat) (A : Option Addr) (cap : Nat) (w : World) (h : s.at w g base v zs) (hR : RR w r A zs.length cap s) (hA : Nums .u8 w A zs) (hr : zs.length ≤ 140737488351232) (hb : Bytes zs) (hc : zs.length ≤ cap) (hg : g ≠ r) (hv : ∀ b, v.ownBlock = some b → b ≠ r) (hoff : 0 < zs.length → Off A (One r)) (hoffg : 0 < zs.length → Off A (One g)) :
    Calls Try.prog 28 #[.agg #[.pointer (some ⟨g, 0, Option.none⟩), .pointer (some ⟨r, 0, Option.none⟩)], .int .i64 2] w (Called ((intStep zs s).2) g base v zs r A cap w) := by
  obtain ⟨x, hx⟩ : ∃ x, x = intStep zs s := ⟨_, rfl⟩
  obtain ⟨R, hRR⟩ : ∃ R, R = Called ((intStep zs s).2) g base v zs r A cap w := ⟨_, rfl⟩
  rw [← hRR]
  rw [← hx] at hRR
  have HX := Lib.hid hx
  have HR := Lib.hid hRR
  have HB := Lib.hid hb
  clear hRR hb hx
  have hgl : g < w.heap.size := Blk.lt (Rd.blk h)
  have hrl := hR.blk.lt
  have hvl : ∀ b, v.ownBlock = some b → b < w.heap.size := fun b e => ((Rd.row h).lt b e).2
  have HV := Lib.hid hv
  clear hv hvl
  have hk1 : Keeps None w (w.alloc (.cells #[.pointer (some ⟨g, 0, Option.none⟩), .pointer (some ⟨r, 0, Option.none⟩)] 50)) := (Keeps.refl _ _).alloc _
  have hbx := Blk.new w 50 [.pointer (some ⟨g, 0, Option.none⟩), .pointer (some ⟨r, 0, Option.none⟩)]
  obtain ⟨tb, htb⟩ : ∃ tb, tb = w.heap.size := ⟨_, rfl⟩
  go_enter Try.func28, Try.ntmps28
  go_wp2_with fail
  obtain ⟨w1, hw1⟩ : ∃ w1, w1 = w.alloc (.cells #[.pointer (some ⟨g, 0, Option.none⟩), .pointer (some ⟨r, 0, Option.none⟩)] 50) := ⟨_, rfl⟩
  rw [← htb] at hbx hgl hrl ⊢
  have hbx : Blk w1 tb 50 [.pointer (some ⟨g, 0, Option.none⟩), .pointer (some ⟨r, 0, Option.none⟩)] := by rw [hw1]; exact hbx
  rw [← hw1] at hk1 ⊢
  clear hw1 htb
  have h1 : s.at w1 g base v zs := Rd.grew h hk1
  have hR1 := hR.grew hk1
  have hA1 := hA.grew hk1
  have hP := rInt_any g base v zs s w1 h1 hr HB.out
  rw [← HX.out] at hP
  refine hP.mono ?_
  rintro e w2 ⟨rfl, h2, hk2⟩
  have hbx2 := hbx.keeps hk2 (fun e => by have : tb = g := e; omega)
  have hR2 := hR1.keeps hk2 (fun e => hg (by have : r = g := e; omega))
  have hA2 := hA1.keeps0 hk2 hoffg
  have b1 := hbx2.cell 1 _ rfl
  have hQ := refread_int zs r A zs.length cap s w2 hR2 hA2 rfl hr HB.out hoff
  rw [← HX.out] at hQ
  obtain ⟨xn, xs⟩ := x
  simp only at h2
  clear hP
  go_wp2_with fail
  refine hQ.mono ?_
  rintro e w3 ⟨rfl, hR3, hk3⟩
  simp only at hR3
  clear hQ
  have hbx3 := hbx2.keeps hk3 (fun e => by have : tb = r := e; omega)
  have h3 : xs.at w3 g base v zs := Rd.tell h2 hk3 hg HV.out
  have hK3 : Keeps (Two2 g r) w w3 := (hk1.of_none.trans (hk2.mono (fun k _ e => .inl e))).trans (hk3.mono (fun k _ e => .inr e))
  have k3a : Keeps None w3 (w3.alloc (.cells #[.int .i64 2, .int .i64 xn, .slice Option.none 0 0] 32)) := (Keeps.refl _ _).alloc _
  have hbx3a := hbx3.grew k3a
  have h3a : xs.at (w3.alloc (.cells #[.int .i64 2, .int .i64 xn, .slice Option.none 0 0] 32)) g base v zs := Rd.grew h3 k3a
  have hR3a := hR3.grew k3a
  have hK3a := hK3.trans k3a.of_none
  have b0 := hbx3a.cell 0 _ rfl
  have b1 := hbx3a.cell 1 _ rfl
  go_wp2_with fail
  refine (rerr_any g base v zs xs _ h3a).mono ?_
  rintro e w4 ⟨rfl, hd4⟩
  have hbx4 := hbx3a.grew (hd4.keeps None)
  have h4 : xs.at w4 g base v zs := Rd.grew h3a (hd4.keeps None)
  have hR4 := hR3a.grew (hd4.keeps None)
  have hK4 := hK3a.trans (hd4.keeps _)
  have HFIN := Lib.hid (show R (.returned (.bool true)) w4 from by rw [HR.out]; exact ⟨rfl, h4, hR4, hK4⟩)
  have b0 := hbx4.cell 0 _ rfl
  have b1 := hbx4.cell 1 _ rfl
  have c2 := hR4.blk.cell 2 _ rfl
  have c3 := hR4.blk.cell 3 _ rfl
  go_wp2_with fail
  exact HFIN.out

set_option maxRecDepth 100000 in
set_option maxHeartbeats 3200000 in
theorem call_bytes (g base : Nat) (v : Value) (zs : List Int) (s : St) (r : Nat) (A : Option Addr) (cap : Nat) (w : World) (h : s.at w g base v zs) (hR : RR w r A zs.length cap s) (hA : Nums .u8 w A zs) (hr : zs.length ≤ 140737488351232) (hb : Bytes zs) (hc : zs.length ≤ cap) (hg : g ≠ r) (hv : ∀ b, v.ownBlock = some b → b ≠ r) (hoff : 0 < zs.length → Off A (One r)) (hoffg : 0 < zs.length → Off A (One g)) :
    Calls Try.prog 28 #[.agg #[.pointer (some ⟨g, 0, Option.none⟩), .pointer (some ⟨r, 0, Option.none⟩)], .int .i64 3] w (Called ((bytStep zs s).2) g base v zs r A cap w) := by
  obtain ⟨x, hx⟩ : ∃ x, x = bytStep zs s := ⟨_, rfl⟩
  obtain ⟨R, hRR⟩ : ∃ R, R = Called ((bytStep zs s).2) g base v zs r A cap w := ⟨_, rfl⟩
  rw [← hRR]
  rw [← hx] at hRR
  have HX := Lib.hid hx
  have HR := Lib.hid hRR
  have HB := Lib.hid hb
  clear hRR hb hx
  have hgl : g < w.heap.size := Blk.lt (Rd.blk h)
  have hrl := hR.blk.lt
  have hvl : ∀ b, v.ownBlock = some b → b < w.heap.size := fun b e => ((Rd.row h).lt b e).2
  have HV := Lib.hid hv
  clear hv hvl
  have hk1 : Keeps None w (w.alloc (.cells #[.pointer (some ⟨g, 0, Option.none⟩), .pointer (some ⟨r, 0, Option.none⟩)] 50)) := (Keeps.refl _ _).alloc _
  have hbx := Blk.new w 50 [.pointer (some ⟨g, 0, Option.none⟩), .pointer (some ⟨r, 0, Option.none⟩)]
  obtain ⟨tb, htb⟩ : ∃ tb, tb = w.heap.size := ⟨_, rfl⟩
  go_enter Try.func28, Try.ntmps28
  go_wp2_with fail
  obtain ⟨w1, hw1⟩ : ∃ w1, w1 = w.alloc (.cells #[.pointer (some ⟨g, 0, Option.none⟩), .pointer (some ⟨r, 0, Option.none⟩)] 50) := ⟨_, rfl⟩
  rw [← htb] at hbx hgl hrl ⊢
  have hbx : Blk w1 tb 50 [.pointer (some ⟨g, 0, Option.none⟩), .pointer (some ⟨r, 0, Option.none⟩)] := by rw [hw1]; exact hbx
  rw [← hw1] at hk1 ⊢
  clear hw1 htb
  have h1 : s.at w1 g base v zs := Rd.grew h hk1
  have hR1 := hR.grew hk1
  have hA1 := hA.grew hk1
  have hxl := bytStep_len zs s
  rw [← HX.out] at hxl
  have hP := rByt_any g base v zs s w1 h1 hr HB.out
  rw [← HX.out] at hP
  refine hP.mono ?_
  rintro e w2 ⟨v2, rfl, hv2, h2, hk2⟩
  have hbx2 := hbx.keeps hk2 (fun e => by have : tb = g := e; omega)
  have hR2 := hR1.keeps hk2 (fun e => hg (by have : r = g := e; omega))
  have hA2 := hA1.keeps0 hk2 hoffg
  have b1 := hbx2.cell 1 _ rfl
  have hQ := refread_byt zs r A zs.length cap s w2 hR2 hA2 rfl hr HB.out hoff 3 (by decide) (by decide) hc
  rw [← HX.out] at hQ
  obtain ⟨xl, xs⟩ := x
  simp only at h2 hxl
  simp only at hv2
  obtain ⟨A2, c2', rfl, -⟩ := hv2.open_
  clear hP
  go_wp2_with fail
  refine hQ.mono ?_
  rintro e w3 ⟨v3, rfl, hv3, hR3, hk3⟩
  simp only at hR3 hv3
  obtain ⟨A3, c3', rfl, -, n3, -⟩ := hv3.open_
  clear hQ
  have hbx3 := hbx2.keeps hk3 (fun e => by have : tb = r := e; omega)
  have h3 : xs.at w3 g base v zs := Rd.tell h2 hk3 hg HV.out
  have hK3 : Keeps (Two2 g r) w w3 := (hk1.of_none.trans (hk2.mono (fun k _ e => .inl e))).trans (hk3.mono (fun k _ e => .inr e))
  have k3a : Keeps None w3 (w3.alloc (.cells #[.int .i64 3, .int .i64 0, .slice A3 xl.length c3'] 32)) := (Keeps.refl _ _).alloc _
  have hbx3a := hbx3.grew k3a
  have h3a : xs.at (w3.alloc (.cells #[.int .i64 3, .int .i64 0, .slice A3 xl.length c3'] 32)) g base v zs := Rd.grew h3 k3a
  have hR3a := hR3.grew k3a
  have hK3a := hK3.trans k3a.of_none
  have n2a := ((hv2.keeps hk3 (fun b e f => by have : b = r := f; have := (hv2.lt b e).1; have := hbx.lt; omega)).open_)
  obtain ⟨A2', c2', ev2, -, n2b, -⟩ := n2a
  cases ev2
  have n2 := n2b.grew k3a
  have n3a := n3.grew k3a
  have b0 := hbx3a.cell 0 _ rfl
  have b1 := hbx3a.cell 1 _ rfl
  go_wp2_with fail
  refine (same_any _ xl.length _ xl A3 xl.length c3' xl _ n2 rfl n3a rfl (by omega)).mono ?_
  rintro e wq ⟨rfl, hdq⟩
  rw [sameB_refl]
  have hbx3a := hbx3a.grew (hdq.keeps None)
  have h3a : xs.at wq g base v zs := Rd.grew h3a (hdq.keeps None)
  have hR3a := hR3a.grew (hdq.keeps None)
  have hK3a := hK3a.trans (hdq.keeps _)
  have b0 := hbx3a.cell 0 _ rfl
  have b1 := hbx3a.cell 1 _ rfl
  go_wp2_with fail
  refine (rerr_any g base v zs xs _ h3a).mono ?_
  rintro e w4 ⟨rfl, hd4⟩
  have hbx4 := hbx3a.grew (hd4.keeps None)
  have h4 : xs.at w4 g base v zs := Rd.grew h3a (hd4.keeps None)
  have hR4 := hR3a.grew (hd4.keeps None)
  have hK4 := hK3a.trans (hd4.keeps _)
  have HFIN := Lib.hid (show R (.returned (.bool true)) w4 from by rw [HR.out]; exact ⟨rfl, h4, hR4, hK4⟩)
  have b0 := hbx4.cell 0 _ rfl
  have b1 := hbx4.cell 1 _ rfl
  have c2 := hR4.blk.cell 2 _ rfl
  have c3 := hR4.blk.cell 3 _ rfl
  go_wp2_with fail
  exact HFIN.out

set_option maxRecDepth 100000 in
set_option maxHeartbeats 3200000 in
theorem call_text (g base : Nat) (v : Value) (zs : List Int) (s : St) (r : Nat) (A : Option Addr) (cap : Nat) (w : World) (h : s.at w g base v zs) (hR : RR w r A zs.length cap s) (hA : Nums .u8 w A zs) (hr : zs.length ≤ 140737488351232) (hb : Bytes zs) (hc : zs.length ≤ cap) (hg : g ≠ r) (hv : ∀ b, v.ownBlock = some b → b ≠ r) (hoff : 0 < zs.length → Off A (One r)) (hoffg : 0 < zs.length → Off A (One g)) :
    Calls Try.prog 28 #[.agg #[.pointer (some ⟨g, 0, Option.none⟩), .pointer (some ⟨r, 0, Option.none⟩)], .int .i64 4] w (Called ((bytStep zs s).2) g base v zs r A cap w) := by
  obtain ⟨x, hx⟩ : ∃ x, x = bytStep zs s := ⟨_, rfl⟩
  obtain ⟨R, hRR⟩ : ∃ R, R = Called ((bytStep zs s).2) g base v zs r A cap w := ⟨_, rfl⟩
  rw [← hRR]
  rw [← hx] at hRR
  have HX := Lib.hid hx
  have HR := Lib.hid hRR
  have HB := Lib.hid hb
  clear hRR hb hx
  have hgl : g < w.heap.size := Blk.lt (Rd.blk h)
  have hrl := hR.blk.lt
  have hvl : ∀ b, v.ownBlock = some b → b < w.heap.size := fun b e => ((Rd.row h).lt b e).2
  have HV := Lib.hid hv
  clear hv hvl
  have hk1 : Keeps None w (w.alloc (.cells #[.pointer (some ⟨g, 0, Option.none⟩), .pointer (some ⟨r, 0, Option.none⟩)] 50)) := (Keeps.refl _ _).alloc _
  have hbx := Blk.new w 50 [.pointer (some ⟨g, 0, Option.none⟩), .pointer (some ⟨r, 0, Option.none⟩)]
  obtain ⟨tb, htb⟩ : ∃ tb, tb = w.heap.size := ⟨_, rfl⟩
  go_enter Try.func28, Try.ntmps28
  go_wp2_with fail
  obtain ⟨w1, hw1⟩ : ∃ w1, w1 = w.alloc (.cells #[.pointer (some ⟨g, 0, Option.none⟩), .pointer (some ⟨r, 0, Option.none⟩)] 50) := ⟨_, rfl⟩
  rw [← htb] at hbx hgl hrl ⊢
  have hbx : Blk w1 tb 50 [.pointer (some ⟨g, 0, Option.none⟩), .pointer (some ⟨r, 0, Option.none⟩)] := by rw [hw1]; exact hbx
  rw [← hw1] at hk1 ⊢
  clear hw1 htb
  have h1 : s.at w1 g base v zs := Rd.grew h hk1
  have hR1 := hR.grew hk1
  have hA1 := hA.grew hk1
  have hxl := bytStep_len zs s
  rw [← HX.out] at hxl
  have hP := rtext_any g base v zs s w1 h1 hr HB.out
  rw [← HX.out] at hP
  refine hP.mono ?_
  rintro e w2 ⟨rfl, h2, hk2⟩
  have hbx2 := hbx.keeps hk2 (fun e => by have : tb = g := e; omega)
  have hR2 := hR1.keeps hk2 (fun e => hg (by have : r = g := e; omega))
  have hA2 := hA1.keeps0 hk2 hoffg
  have b1 := hbx2.cell 1 _ rfl
  have hQ := refread_byt zs r A zs.length cap s w2 hR2 hA2 rfl hr HB.out hoff 4 (by decide) (by decide) hc
  rw [← HX.out] at hQ
  obtain ⟨xl, xs⟩ := x
  simp only at h2 hxl
  clear hP
  go_wp2_with fail
  refine hQ.mono ?_
  rintro e w3 ⟨v3, rfl, hv3, hR3, hk3⟩
  simp only at hR3 hv3
  obtain ⟨A3, c3', rfl, -, n3, -⟩ := hv3.open_
  clear hQ
  have hbx3 := hbx2.keeps hk3 (fun e => by have : tb = r := e; omega)
  have h3 : xs.at w3 g base v zs := Rd.tell h2 hk3 hg HV.out
  have hK3 : Keeps (Two2 g r) w w3 := (hk1.of_none.trans (hk2.mono (fun k _ e => .inl e))).trans (hk3.mono (fun k _ e => .inr e))
  have k3a : Keeps None w3 (w3.alloc (.cells #[.int .i64 4, .int .i64 0, .slice A3 xl.length c3'] 32)) := (Keeps.refl _ _).alloc _
  have hbx3a := hbx3.grew k3a
  have h3a : xs.at (w3.alloc (.cells #[.int .i64 4, .int .i64 0, .slice A3 xl.length c3'] 32)) g base v zs := Rd.grew h3 k3a
  have hR3a := hR3.grew k3a
  have hK3a := hK3.trans k3a.of_none
  have n3a := n3.grew k3a
  have hcv := conv_nums (w3.alloc (.cells #[.int .i64 4, .int .i64 0, .slice A3 xl.length c3'] 32)) A3 xl.length c3' xl n3a rfl
  have b0 := hbx3a.cell 0 _ rfl
  have b1 := hbx3a.cell 1 _ rfl
  go_wp2_with fail
  refine (rerr_any g base v zs xs _ h3a).mono ?_
  rintro e w4 ⟨rfl, hd4⟩
  have hbx4 := hbx3a.grew (hd4.keeps None)
  have h4 : xs.at w4 g base v zs := Rd.grew h3a (hd4.keeps None)
  have hR4 := hR3a.grew (hd4.keeps None)
  have hK4 := hK3a.trans (hd4.keeps _)
  have HFIN := Lib.hid (show R (.returned (.bool true)) w4 from by rw [HR.out]; exact ⟨rfl, h4, hR4, hK4⟩)
  have b0 := hbx4.cell 0 _ rfl
  have b1 := hbx4.cell 1 _ rfl
  have c2 := hR4.blk.cell 2 _ rfl
  have c3 := hR4.blk.cell 3 _ rfl
  go_wp2_with fail
  exact HFIN.out

set_option maxRecDepth 100000 in
set_option maxHeartbeats 3200000 in
theorem call_more (g base : Nat) (v : Value) (zs : List Int) (s : St) (r : Nat) (A : Option Addr) (cap : Nat) (w : World) (h : s.at w g base v zs) (hR : RR w r A zs.length cap s) (hA : Nums .u8 w A zs) (hr : zs.length ≤ 140737488351232) (hb : Bytes zs) (hc : zs.length ≤ cap) (hg : g ≠ r) (hv : ∀ b, v.ownBlock = some b → b ≠ r) (hoff : 0 < zs.length → Off A (One r)) (hoffg : 0 < zs.length → Off A (One g)) :
    Calls Try.prog 28 #[.agg #[.pointer (some ⟨g, 0, Option.none⟩), .pointer (some ⟨r, 0, Option.none⟩)], .int .i64 5] w (Called (s) g base v zs r A cap w) := by
  obtain ⟨x, hx⟩ : ∃ x, x = s := ⟨_, rfl⟩
  obtain ⟨R, hRR⟩ : ∃ R, R = Called (s) g base v zs r A cap w := ⟨_, rfl⟩
  rw [← hRR]
  rw [← hx] at hRR
  have HX := Lib.hid hx
  have HR := Lib.hid hRR
  have HB := Lib.hid hb
  clear hRR hb hx
  have hgl : g < w.heap.size := Blk.lt (Rd.blk h)
  have hrl := hR.blk.lt
  have hvl : ∀ b, v.ownBlock = some b → b < w.heap.size := fun b e => ((Rd.row h).lt b e).2
  have HV := Lib.hid hv
  clear hv hvl
  have hk1 : Keeps None w (w.alloc (.cells #[.pointer (some ⟨g, 0, Option.none⟩), .pointer (some ⟨r, 0, Option.none⟩)] 50)) := (Keeps.refl _ _).alloc _
  have hbx := Blk.new w 50 [.pointer (some ⟨g, 0, Option.none⟩), .pointer (some ⟨r, 0, Option.none⟩)]
  obtain ⟨tb, htb⟩ : ∃ tb, tb = w.heap.size := ⟨_, rfl⟩
  go_enter Try.func28, Try.ntmps28
  go_wp2_with fail
  obtain ⟨w1, hw1⟩ : ∃ w1, w1 = w.alloc (.cells #[.pointer (some ⟨g, 0, Option.none⟩), .pointer (some ⟨r, 0, Option.none⟩)] 50) := ⟨_, rfl⟩
  rw [← htb] at hbx hgl hrl ⊢
  have hbx : Blk w1 tb 50 [.pointer (some ⟨g, 0, Option.none⟩), .pointer (some ⟨r, 0, Option.none⟩)] := by rw [hw1]; exact hbx
  rw [← hw1] at hk1 ⊢
  clear hw1 htb
  have h1 : s.at w1 g base v zs := Rd.grew h hk1
  have hR1 := hR.grew hk1
  have hA1 := hA.grew hk1
  have b0 := hbx.cell 0 _ rfl
  have b1 := hbx.cell 1 _ rfl
  obtain ⟨M, hM⟩ : ∃ M, M = (decide (s.err = 0) && decide (s.p < zs.length)) := ⟨_, rfl⟩
  have HM := Lib.hid hM
  clear hM
  refine start_ (ds := []) (S := (fun w' => w'.cell? ⟨tb, 0, Option.none⟩ = some (.pointer (some ⟨g, 0, Option.none⟩)) ∧ w'.cell? ⟨tb, 1, Option.none⟩ = some (.pointer (some ⟨r, 0, Option.none⟩)))) #[false, false, false, false, false, false, false, false] (by kernel_rfl) rfl rfl ⟨b0, b1⟩ (fun hS0 => ?_)
  refine pure_ (i := 0) (N := some 72) (v := .pointer (some ⟨tb, 0, Option.none⟩)) #[true, false, false, false, false, false, false, false] rfl rfl (by kernel_rfl) (fun _ _ _ h => h) (Or.inl ⟨wanted_none rfl, fun w => by go_simp⟩) rfl ?_
  try simp only [Act.put, List.setIfInBounds_toArray, List.set_cons_zero, List.set_cons_succ]
  refine take_ (i := 1) (N := some 73) (v := .pointer (some ⟨g, 0, Option.none⟩)) #[true, true, false, false, false, false, false, false] rfl rfl (by kernel_rfl) (fun _ _ _ h => h) (Or.inl ⟨wanted_none rfl, by intro w' hSw; go_split_ands; go_simp⟩) hS0 rfl ?_
  try simp only [Act.put, List.setIfInBounds_toArray, List.set_cons_zero, List.set_cons_succ]
  refine pure_ (i := 3) (N := some 75) (v := .pointer (some ⟨tb, 1, Option.none⟩)) #[true, true, false, true, false, false, false, false] rfl rfl (by kernel_rfl) (fun _ _ _ h => h) (Or.inl ⟨wanted_none rfl, fun w => by go_simp⟩) rfl ?_
  try simp only [Act.put, List.setIfInBounds_toArray, List.set_cons_zero, List.set_cons_succ]
  refine take_ (i := 4) (N := some 76) (v := .pointer (some ⟨r, 0, Option.none⟩)) #[true, true, false, true, true, false, false, false] rfl rfl (by kernel_rfl) (fun _ _ _ h => h) (Or.inl ⟨wanted_none rfl, by intro w' hSw; go_split_ands; go_simp⟩) hS0 rfl ?_
  try simp only [Act.put, List.setIfInBounds_toArray, List.set_cons_zero, List.set_cons_succ]
  refine one_ (i := 2) (oi := ({ dst := some 74, op := Op.call { callee := Callee.value (Operand.func 34), args := #[Operand.tmp 73], argTypes := #[47] }, type := 4, pos := "law.go:136", after := #[{ on := 1, ground := Ground.data }], guard := Option.none } : Oper)) (N := some 74) #[true, true, true, true, true, false, false, false] rfl rfl (by kernel_rfl) (by simp) ?_
  intro KK hKK
  refine goes_ Try.func34 (by kernel_rfl) rfl #[.pointer (some ⟨g, 0, Option.none⟩)] (wanted_none rfl) rfl rfl (by simp [Act.eval]) ?_
  refine (rmore_any g base v zs s _ (Rd.grew h1 (Keeps.refl None _).drew) hr).mono ?_
  rintro e w2 ⟨rfl, hd2⟩
  rw [← HM.out]
  have k12 : Keeps None w1 w2 := (Keeps.refl None w1).drew.trans (hd2.keeps None)
  refine ⟨_, rfl, hKK.out _ _ (⟨k12.cell b0 id, k12.cell b1 id⟩) (fun hS1 => ?_)⟩
  try simp only [Act.put, List.setIfInBounds_toArray, List.set_cons_zero, List.set_cons_succ]
  refine one_ (i := 5) (oi := ({ dst := some 77, op := Op.call { callee := Callee.value (Operand.func 56), args := #[Operand.tmp 76], argTypes := #[48] }, type := 4, pos := "law.go:136", after := #[{ on := 4, ground := Ground.data }, { on := 2, ground := Ground.chain }], guard := Option.none } : Oper)) (N := some 77) #[true, true, true, true, true, true, false, false] rfl rfl (by kernel_rfl) (by simp) ?_
  intro KK hKK
  refine goes_ Try.func56 (by kernel_rfl) rfl #[.pointer (some ⟨r, 0, Option.none⟩)] (wanted_none rfl) rfl rfl (by simp [Act.eval]) ?_
  refine (refmore_any r A zs.length cap s w2 (hR1.grew k12) hr).mono ?_
  rintro e w3 ⟨rfl, hd3⟩
  rw [← HM.out]
  have k13 : Keeps None w1 w3 := k12.trans (hd3.keeps None)
  refine ⟨_, rfl, hKK.out _ _ (⟨k13.cell b0 id, k13.cell b1 id⟩) (fun hS2 => ?_)⟩
  try simp only [Act.put, List.setIfInBounds_toArray, List.set_cons_zero, List.set_cons_succ]
  refine pure_ (i := 6) (N := some 78) (v := .bool true) #[true, true, true, true, true, true, true, false] rfl rfl (by kernel_rfl) (fun _ _ _ h => h) (Or.inl ⟨wanted_none rfl, fun w => by go_simp⟩) rfl ?_
  try simp only [Act.put, List.setIfInBounds_toArray, List.set_cons_zero, List.set_cons_succ]
  refine pure_ (i := 7) (N := some 5) (v := .bool true) #[true, true, true, true, true, true, true, true] rfl rfl (by kernel_rfl) (fun _ _ _ h => h) (Or.inl ⟨wanted_none rfl, fun w => by rfl⟩) rfl ?_
  try simp only [Act.put, List.setIfInBounds_toArray, List.set_cons_zero, List.set_cons_succ]
  refine done_ (by kernel_rfl) ?_
  have hbx3a := hbx.grew k13
  have h3a : s.at w3 g base v zs := Rd.grew h1 k13
  have hR3a := hR1.grew k13
  have hK3a : Keeps (Two2 g r) w w3 := hk1.of_none.trans k13.of_none
  have b0 := hbx3a.cell 0 _ rfl
  have b1 := hbx3a.cell 1 _ rfl
  go_wp2_with fail
  refine (rerr_any g base v zs s _ h3a).mono ?_
  rintro e w4 ⟨rfl, hd4⟩
  have hbx4 := hbx3a.grew (hd4.keeps None)
  have h4 : s.at w4 g base v zs := Rd.grew h3a (hd4.keeps None)
  have hR4 := hR3a.grew (hd4.keeps None)
  have hK4 := hK3a.trans (hd4.keeps _)
  have HFIN := Lib.hid (show R (.returned (.bool true)) w4 from by rw [HR.out, HX.out]; exact ⟨rfl, h4, hR4, hK4⟩)
  have b0 := hbx4.cell 0 _ rfl
  have b1 := hbx4.cell 1 _ rfl
  have c2 := hR4.blk.cell 2 _ rfl
  have c3 := hR4.blk.cell 3 _ rfl
  go_wp2_with fail
  exact HFIN.out

set_option maxRecDepth 100000 in
set_option maxHeartbeats 3200000 in
theorem call_end (g base : Nat) (v : Value) (zs : List Int) (s : St) (r : Nat) (A : Option Addr) (cap : Nat) (w : World) (h : s.at w g base v zs) (hR : RR w r A zs.length cap s) (hA : Nums .u8 w A zs) (hr : zs.length ≤ 140737488351232) (hb : Bytes zs) (hc : zs.length ≤ cap) (hg : g ≠ r) (hv : ∀ b, v.ownBlock = some b → b ≠ r) (hoff : 0 < zs.length → Off A (One r)) (hoffg : 0 < zs.length → Off A (One g)) :
    Calls Try.prog 28 #[.agg #[.pointer (some ⟨g, 0, Option.none⟩), .pointer (some ⟨r, 0, Option.none⟩)], .int .i64 6] w (Called (endStep zs s) g base v zs r A cap w) := by
  obtain ⟨x, hx⟩ : ∃ x, x = endStep zs s := ⟨_, rfl⟩
  obtain ⟨R, hRR⟩ : ∃ R, R = Called (endStep zs s) g base v zs r A cap w := ⟨_, rfl⟩
  rw [← hRR]
  rw [← hx] at hRR
  have HX := Lib.hid hx
  have HR := Lib.hid hRR
  have HB := Lib.hid hb
  clear hRR hb hx
  have hgl : g < w.heap.size := Blk.lt (Rd.blk h)
  have hrl := hR.blk.lt
  have hvl : ∀ b, v.ownBlock = some b → b < w.heap.size := fun b e => ((Rd.row h).lt b e).2
  have HV := Lib.hid hv
  clear hv hvl
  have hk1 : Keeps None w (w.alloc (.cells #[.pointer (some ⟨g, 0, Option.none⟩), .pointer (some ⟨r, 0, Option.none⟩)] 50)) := (Keeps.refl _ _).alloc _
  have hbx := Blk.new w 50 [.pointer (some ⟨g, 0, Option.none⟩), .pointer (some ⟨r, 0, Option.none⟩)]
  obtain ⟨tb, htb⟩ : ∃ tb, tb = w.heap.size := ⟨_, rfl⟩
  go_enter Try.func28, Try.ntmps28
  go_wp2_with fail
  obtain ⟨w1, hw1⟩ : ∃ w1, w1 = w.alloc (.cells #[.pointer (some ⟨g, 0, Option.none⟩), .pointer (some ⟨r, 0, Option.none⟩)] 50) := ⟨_, rfl⟩
  rw [← htb] at hbx hgl hrl ⊢
  have hbx : Blk w1 tb 50 [.pointer (some ⟨g, 0, Option.none⟩), .pointer (some ⟨r, 0, Option.none⟩)] := by rw [hw1]; exact hbx
  rw [← hw1] at hk1 ⊢
  clear hw1 htb
  have h1 : s.at w1 g base v zs := Rd.grew h hk1
  have hR1 := hR.grew hk1
  have hA1 := hA.grew hk1
  refine (rend_any g base v zs s w1 h1 hr).mono ?_
  rintro e w2 ⟨rfl, h2, hk2⟩
  have hbx2 := hbx.keeps hk2 (fun e => by have : tb = g := e; omega)
  have hR2 := hR1.keeps hk2 (fun e => hg (by have : r = g := e; omega))
  have b1 := hbx2.cell 1 _ rfl
  go_wp2_with fail
  refine (refend_any zs r A cap s w2 hR2 hr).mono ?_
  rintro e w3 ⟨rfl, hR3a, hk3⟩
  rw [← HX.out] at h2 hR3a
  have hbx3a := hbx2.keeps hk3 (fun e => by have : tb = r := e; omega)
  have h3a : x.at w3 g base v zs := Rd.tell h2 hk3 hg HV.out
  have hK3a : Keeps (Two2 g r) w w3 := (hk1.of_none.trans (hk2.mono (fun k _ e => .inl e))).trans (hk3.mono (fun k _ e => .inr e))
  have b0 := hbx3a.cell 0 _ rfl
  have b1 := hbx3a.cell 1 _ rfl
  go_wp2_with fail
  refine (rerr_any g base v zs x _ h3a).mono ?_
  rintro e w4 ⟨rfl, hd4⟩
  have hbx4 := hbx3a.grew (hd4.keeps None)
  have h4 : x.at w4 g base v zs := Rd.grew h3a (hd4.keeps None)
  have hR4 := hR3a.grew (hd4.keeps None)
  have hK4 := hK3a.trans (hd4.keeps _)
  have HFIN := Lib.hid (show R (.returned (.bool true)) w4 from by rw [HR.out]; exact ⟨rfl, h4, hR4, hK4⟩)
  have b0 := hbx4.cell 0 _ rfl
  have b1 := hbx4.cell 1 _ rfl
  have c2 := hR4.blk.cell 2 _ rfl
  have c3 := hR4.blk.cell 3 _ rfl
  go_wp2_with fail
  exact HFIN.out

set_option maxRecDepth 100000 in
set_option maxHeartbeats 3200000 in
theorem call_other (g base : Nat) (v : Value) (zs : List Int) (s : St) (r : Nat) (A : Option Addr) (cap : Nat) (w : World) (h : s.at w g base v zs) (hR : RR w r A zs.length cap s) (hA : Nums .u8 w A zs) (hr : zs.length ≤ 140737488351232) (hb : Bytes zs) (hc : zs.length ≤ cap) (hg : g ≠ r) (hv : ∀ b, v.ownBlock = some b → b ≠ r) (hoff : 0 < zs.length → Off A (One r)) (hoffg : 0 < zs.length → Off A (One g)) (kind : Int) (n1 : ¬ kind = 1) (n2 : ¬ kind = 2) (n3 : ¬ kind = 3) (n4 : ¬ kind = 4) (n5 : ¬ kind = 5) (n6 : ¬ kind = 6) :
    Calls Try.prog 28 #[.agg #[.pointer (some ⟨g, 0, Option.none⟩), .pointer (some ⟨r, 0, Option.none⟩)], .int .i64 kind] w (Called (s) g base v zs r A cap w) := by
  obtain ⟨x, hx⟩ : ∃ x, x = s := ⟨_, rfl⟩
  obtain ⟨R, hRR⟩ : ∃ R, R = Called (s) g base v zs r A cap w := ⟨_, rfl⟩
  rw [← hRR]
  rw [← hx] at hRR
  have HX := Lib.hid hx
  have HR := Lib.hid hRR
  have HB := Lib.hid hb
  clear hRR hb hx
  have hgl : g < w.heap.size := Blk.lt (Rd.blk h)
  have hrl := hR.blk.lt
  have hvl : ∀ b, v.ownBlock = some b → b < w.heap.size := fun b e => ((Rd.row h).lt b e).2
  have HV := Lib.hid hv
  clear hv hvl
  have hk1 : Keeps None w (w.alloc (.cells #[.pointer (some ⟨g, 0, Option.none⟩), .pointer (some ⟨r, 0, Option.none⟩)] 50)) := (Keeps.refl _ _).alloc _
  have hbx := Blk.new w 50 [.pointer (some ⟨g, 0, Option.none⟩), .pointer (some ⟨r, 0, Option.none⟩)]
  obtain ⟨tb, htb⟩ : ∃ tb, tb = w.heap.size := ⟨_, rfl⟩
  obtain ⟨t1, -⟩ := test_ne n1
  obtain ⟨t2, -⟩ := test_ne n2
  obtain ⟨t3, -⟩ := test_ne n3
  obtain ⟨t4, -⟩ := test_ne n4
  obtain ⟨t5, -⟩ := test_ne n5
  obtain ⟨t6, -⟩ := test_ne n6
  have hb0 := hbx.cell 0 _ rfl
  go_enter Try.func28, Try.ntmps28
  go_wp2_with fail
  obtain ⟨w1, hw1⟩ : ∃ w1, w1 = w.alloc (.cells #[.pointer (some ⟨g, 0, Option.none⟩), .pointer (some ⟨r, 0, Option.none⟩)] 50) := ⟨_, rfl⟩
  rw [← htb] at hbx hgl hrl ⊢
  have hbx : Blk w1 tb 50 [.pointer (some ⟨g, 0, Option.none⟩), .pointer (some ⟨r, 0, Option.none⟩)] := by rw [hw1]; exact hbx
  rw [← hw1] at hk1 ⊢
  clear hw1 htb
  have h1 : s.at w1 g base v zs := Rd.grew h hk1
  have hR1 := hR.grew hk1
  have hA1 := hA.grew hk1
  have hbx3a := hbx
  have h3a := h1
  have hR3a := hR1
  have hK3a : Keeps (Two2 g r) w w1 := hk1.of_none
  have b0 := hbx3a.cell 0 _ rfl
  have b1 := hbx3a.cell 1 _ rfl
  refine (rerr_any g base v zs s _ h3a).mono ?_
  rintro e w4 ⟨rfl, hd4⟩
  have hbx4 := hbx3a.grew (hd4.keeps None)
  have h4 : s.at w4 g base v zs := Rd.grew h3a (hd4.keeps None)
  have hR4 := hR3a.grew (hd4.keeps None)
  have hK4 := hK3a.trans (hd4.keeps _)
  have HFIN := Lib.hid (show R (.returned (.bool true)) w4 from by rw [HR.out, HX.out]; exact ⟨rfl, h4, hR4, hK4⟩)
  have b0 := hbx4.cell 0 _ rfl
  have b1 := hbx4.cell 1 _ rfl
  have c2 := hR4.blk.cell 2 _ rfl
  have c3 := hR4.blk.cell 3 _ rfl
  go_wp2_with fail
  exact HFIN.out

theorem call_any (g base : Nat) (v : Value) (zs : List Int) (s : St) (r : Nat) (A : Option Addr) (cap : Nat) (w : World) (h : s.at w g base v zs) (hR : RR w r A zs.length cap s) (hA : Nums .u8 w A zs) (hr : zs.length ≤ 140737488351232) (hb : Bytes zs) (hc : zs.length ≤ cap) (hg : g ≠ r) (hv : ∀ b, v.ownBlock = some b → b ≠ r) (hoff : 0 < zs.length → Off A (One r)) (hoffg : 0 < zs.length → Off A (One g)) (kind : Int) :
    Calls Try.prog 28 #[.agg #[.pointer (some ⟨g, 0, Option.none⟩), .pointer (some ⟨r, 0, Option.none⟩)], .int .i64 kind] w (Called (callStep zs kind s) g base v zs r A cap w) := by
  unfold callStep
  by_cases n1 : kind = 1
  · subst n1; exact call_num g base v zs s r A cap w h hR hA hr hb hc hg hv hoff hoffg
  · rw [if_neg n1]
    by_cases n2 : kind = 2
    · subst n2; exact call_int g base v zs s r A cap w h hR hA hr hb hc hg hv hoff hoffg
    · rw [if_neg n2]
      by_cases n3 : kind = 3
      · subst n3; exact call_bytes g base v zs s r A cap w h hR hA hr hb hc hg hv hoff hoffg
      · by_cases n4 : kind = 4
        · subst n4; exact call_text g base v zs s r A cap w h hR hA hr hb hc hg hv hoff hoffg
        · rw [if_neg (fun h => h.elim n3 n4)]
          by_cases n6 : kind = 6
          · subst n6; exact call_end g base v zs s r A cap w h hR hA hr hb hc hg hv hoff hoffg
          · rw [if_neg n6]
            by_cases n5 : kind = 5
            · subst n5; exact call_more g base v zs s r A cap w h hR hA hr hb hc hg hv hoff hoffg
            · exact call_other g base v zs s r A cap w h hR hA hr hb hc hg hv hoff hoffg kind n1 n2 n3 n4 n5 n6
end Go.Proofs.Ytnhhmkgcgogddaa
