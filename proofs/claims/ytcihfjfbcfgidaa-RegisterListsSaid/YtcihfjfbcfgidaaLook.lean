/- look: both machines tell the same of themselves. -/
import Derived.Test.YtcihfjfbcfgidaaMade7
import Derived.Handy
namespace Go.Proofs.Ytcihfjfbcfgidaa
open Go.RowKit Go.Maps Go.Proofs.YtcihfjfbcfgidaaW.PrintLast
set_option linter.unusedVariables false

def dErr : Ph → Int
  | .ended e _ _ => e
  | _ => 0
def dTag : Ph → Int × Int
  | .ended _ t _ => t
  | _ => (0, 0)
theorem doneV_cells {w : World} {h : Hd} {ph : Ph} {u : Value} (hu : ∃ A c, u = .slice A (doneD ph).length c ∧ Nums .u8 w A (doneD ph)) : ∃ A c, doneV h ph u = .tuple #[.agg (resCells (dErr ph) (dTag ph) (.slice A (doneD ph).length c)).toArray, .bool ph.over] ∧ Nums .u8 w A (doneD ph) := by
  cases ph with
  | ended e t d =>
    obtain ⟨A, c, rfl, hN⟩ := hu
    exact ⟨A, c, rfl, hN⟩
  | fresh => exact ⟨Option.none, 0, rfl, Nums.nil _ _ _⟩
  | asking qs => exact ⟨Option.none, 0, rfl, Nums.nil _ _ _⟩
  | laying a b c => exact ⟨Option.none, 0, rfl, Nums.nil _ _ _⟩
theorem doneD_len {w : World} {base : Nat} {X : Nat → Prop} {g : Nat} {h : Hd} {round : Int} {ph : Ph} (hM : Mach w base X g h round ph) : (doneD ph).length ≤ MB := by
  cases ph with
  | ended e t d =>
    obtain ⟨_, _, _, _, _, _, _, _, hst⟩ := hM.out
    obtain ⟨_, _, _, _, hl⟩ := hst
    exact hl
  | fresh => exact Nat.zero_le _
  | asking qs => exact Nat.zero_le _
  | laying a b c => exact Nat.zero_le _

set_option maxRecDepth 100000 in
set_option maxHeartbeats 6400000 in
theorem look_any (base : Nat) (X : Nat → Prop) (g : Nat) (Z W : Nat → Prop) (r : Nat) (h : Hd) (round : Int) (ph : Ph) (w : World) (hB : Bo w base X g Z W r h round ph) :
    Calls Try.prog 22 #[bothV g r] w fun e w' => e = .returned (.bool true) ∧ Keeps None w w' := by
  obtain ⟨x, hx⟩ : ∃ x, x = w.heap.size := ⟨_, rfl⟩
  obtain ⟨W1, hW1⟩ : ∃ W, W = w.alloc (.cells #[.iface 104 (.pointer (some ⟨g, 0, Option.none⟩)), .pointer (some ⟨r, 0, Option.none⟩)] 75) := ⟨_, rfl⟩
  have kk1 : Keeps None w W1 := by rw [hW1]; exact (Keeps.refl _ _).alloc _
  have hX : Blk W1 x 75 [.iface 104 (.pointer (some ⟨g, 0, Option.none⟩)), .pointer (some ⟨r, 0, Option.none⟩)] := by rw [hW1, hx]; exact Blk.new _ _ _
  have hB1 := hB.grew kk1
  have hdl := doneD_len hB1.p
  have x0 := hX.cell 0 _ rfl
  simp only [bothV]
  go_enter Try.func22, Try.ntmps22
  go_upto_region 1 with (fail)
  rw [← hW1, ← hx]
  clear hW1 hx
  go_wp2_with fail
  refine (mach_done g base X h round ph W1 hB1.p).mono ?_
  rintro e w2 ⟨u, rfl, hU, hk2⟩
  obtain ⟨A0, c0, rfl⟩ := hU.slice
  obtain ⟨A1, c1, hv1, hN1⟩ := doneV_cells (h := h) ⟨A0, c0, rfl, (Nums.row hU).1⟩
  rw [hv1]
  obtain ⟨e, he⟩ : ∃ e, e = dErr ph := ⟨_, rfl⟩
  obtain ⟨t1, ht1⟩ : ∃ t, t = (dTag ph).1 := ⟨_, rfl⟩
  obtain ⟨t2, ht2⟩ : ∃ t, t = (dTag ph).2 := ⟨_, rfl⟩
  obtain ⟨ds, hds⟩ : ∃ d, d = doneD ph := ⟨_, rfl⟩
  obtain ⟨b, hb⟩ : ∃ b, b = ph.over := ⟨_, rfl⟩
  rw [← he, ← hds, ← hb]
  simp only [resCells, ← ht1, ← ht2]
  rw [← hds] at hN1 hdl
  have HV := Lib.hid (And.intro he (And.intro ht1 (And.intro ht2 (And.intro hds hb))))
  clear he ht1 ht2 hds hb hv1 hU
  go_upto_region 2 with (fail)
  obtain ⟨y1, hy1⟩ : ∃ y, y = w2.heap.size := ⟨_, rfl⟩
  obtain ⟨W3, hW3⟩ : ∃ W, W = w2.alloc (.cells #[.int .i64 e, .string ⟨#[]⟩, .int .i64 0, .int .i64 0, .int .i64 0, .slice Option.none 0 0, .slice A1 ds.length c1, .int .i64 0, .int .i64 t1, .int .i64 t2, .int .i64 0] 46) := ⟨_, rfl⟩
  have kk3 : Keeps None w2 W3 := by rw [hW3]; exact (Keeps.refl _ _).alloc _
  have hR1 : Blk W3 y1 46 [.int .i64 e, .string ⟨#[]⟩, .int .i64 0, .int .i64 0, .int .i64 0, .slice Option.none 0 0, .slice A1 ds.length c1, .int .i64 0, .int .i64 t1, .int .i64 t2, .int .i64 0] := by rw [hW3, hy1]; exact Blk.new _ _ _
  rw [← hW3, ← hy1]
  clear hW3 hy1 x0
  have k13 := hk2.trans kk3
  have hN1 := hN1.grew kk3
  have hX3 := hX.grew k13
  have hB3 := hB1.grew k13
  have x1 := hX3.cell 1 _ rfl
  go_wp2_with fail
  refine (refdone_any base r Z W h round ph W3 hB3.r).mono ?_
  rintro e' w4 ⟨u, rfl, hk4, hu⟩
  obtain ⟨A2, c2, hv2, hN2⟩ := doneV_cells (h := h) hu
  rw [hv2, ← HV.out.1, ← HV.out.2.2.2.1, ← HV.out.2.2.2.2]
  simp only [resCells, ← HV.out.2.1, ← HV.out.2.2.1]
  rw [← HV.out.2.2.2.1] at hN2
  clear hv2 hu
  go_upto_region 3 with (fail)
  obtain ⟨y2, hy2⟩ : ∃ y, y = w4.heap.size := ⟨_, rfl⟩
  obtain ⟨w5, hw5⟩ : ∃ W, W = w4.alloc (.cells #[.int .i64 e, .string ⟨#[]⟩, .int .i64 0, .int .i64 0, .int .i64 0, .slice Option.none 0 0, .slice A2 ds.length c2, .int .i64 0, .int .i64 t1, .int .i64 t2, .int .i64 0] 46) := ⟨_, rfl⟩
  have kk5 : Keeps None w4 w5 := by rw [hw5]; exact (Keeps.refl _ _).alloc _
  have hR2 : Blk w5 y2 46 [.int .i64 e, .string ⟨#[]⟩, .int .i64 0, .int .i64 0, .int .i64 0, .slice Option.none 0 0, .slice A2 ds.length c2, .int .i64 0, .int .i64 t1, .int .i64 t2, .int .i64 0] := by rw [hw5, hy2]; exact Blk.new _ _ _
  rw [← hw5, ← hy2]
  clear hw5 hy2 x1
  have k35 := hk4.trans kk5
  have hN1 := hN1.grew k35
  have hN2 := hN2.grew k35
  have hX5 := hX3.grew k35
  have hR1 := hR1.grew k35
  have hM5 := hB3.p.grew k35
  have x0 := hX5.cell 0 _ rfl
  have x1 := hX5.cell 1 _ rfl
  obtain ⟨gv, rsz, bv, p, av, vv, u1, u2, uer, hBr, -⟩ := (hB3.r.grew k35).out
  have m8 := hBr.cell 8 _ rfl
  have k05 := (kk1.trans k13).trans k35
  clear hX hX3 hX5 hB1 hB3 hBr
  refine start_ (ds := []) (S := (fun w' => Keeps None w5 w')) #[false, false, false, false, false, false, false, false, false, false, false, false, false, false, false, false, false, false, false, false] (by kernel_rfl) rfl rfl ((Keeps.refl _ _).drew) (fun hS0 => ?_)
  refine pure_ (i := 0) (N := some 19) (v := .bool b) #[true, false, false, false, false, false, false, false, false, false, false, false, false, false, false, false, false, false, false, false] rfl rfl (by kernel_rfl) (fun _ _ _ h => h) (Or.inl ⟨wanted_none rfl, fun w => by rfl⟩) rfl ?_
  try simp only [Act.put, List.setIfInBounds_toArray, List.set_cons_zero, List.set_cons_succ]
  refine pure_ (i := 1) (N := some 20) (v := .bool b) #[true, true, false, false, false, false, false, false, false, false, false, false, false, false, false, false, false, false, false, false] rfl rfl (by kernel_rfl) (fun _ _ _ h => h) (Or.inl ⟨wanted_none rfl, fun w => by rfl⟩) rfl ?_
  try simp only [Act.put, List.setIfInBounds_toArray, List.set_cons_zero, List.set_cons_succ]
  refine pure_ (i := 2) (N := some 21) (v := .bool true) #[true, true, true, false, false, false, false, false, false, false, false, false, false, false, false, false, false, false, false, false] rfl rfl (by kernel_rfl) (fun _ _ _ h => h) (Or.inl ⟨wanted_none rfl, fun w => by cases b <;> go_simp⟩) rfl ?_
  try simp only [Act.put, List.setIfInBounds_toArray, List.set_cons_zero, List.set_cons_succ]
  refine pure_ (i := 3) (N := some 22) (v := .bool true) #[true, true, true, true, false, false, false, false, false, false, false, false, false, false, false, false, false, false, false, false] rfl rfl (by kernel_rfl) (fun _ _ _ h => h) (Or.inl ⟨wanted_none rfl, fun w => by rfl⟩) rfl ?_
  try simp only [Act.put, List.setIfInBounds_toArray, List.set_cons_zero, List.set_cons_succ]
  refine take_ (i := 4) (N := some 23) (v := .agg #[.int .i64 e, .string ⟨#[]⟩, .int .i64 0, .int .i64 0, .int .i64 0, .slice Option.none 0 0, .slice A1 ds.length c1, .int .i64 0, .int .i64 t1, .int .i64 t2, .int .i64 0]) #[true, true, true, true, true, false, false, false, false, false, false, false, false, false, false, false, false, false, false, false] rfl rfl (by kernel_rfl) (fun _ _ _ h => h) (Or.inl ⟨by rfl, by intro w' hSw; exact exec_load_mid 46 (.tmp 3) rfl y1 0 rfl [.int .i64 e, .string ⟨#[]⟩, .int .i64 0, .int .i64 0, .int .i64 0, .slice Option.none 0 0, .slice A1 ds.length c1, .int .i64 0, .int .i64 t1, .int .i64 t2, .int .i64 0] _ (fun i v hv => by rw [Nat.zero_add]; exact hSw.cell (hR1.cell i v hv) id) Try.underlying46 rfl (by kernel_rfl)⟩) hS0 rfl ?_
  try simp only [Act.put, List.setIfInBounds_toArray, List.set_cons_zero, List.set_cons_succ]
  refine take_ (i := 5) (N := some 24) (v := .agg #[.int .i64 e, .string ⟨#[]⟩, .int .i64 0, .int .i64 0, .int .i64 0, .slice Option.none 0 0, .slice A2 ds.length c2, .int .i64 0, .int .i64 t1, .int .i64 t2, .int .i64 0]) #[true, true, true, true, true, true, false, false, false, false, false, false, false, false, false, false, false, false, false, false] rfl rfl (by kernel_rfl) (fun _ _ _ h => h) (Or.inl ⟨by rfl, by intro w' hSw; exact exec_load_mid 46 (.tmp 5) rfl y2 0 rfl [.int .i64 e, .string ⟨#[]⟩, .int .i64 0, .int .i64 0, .int .i64 0, .slice Option.none 0 0, .slice A2 ds.length c2, .int .i64 0, .int .i64 t1, .int .i64 t2, .int .i64 0] _ (fun i v hv => by rw [Nat.zero_add]; exact hSw.cell (hR2.cell i v hv) id) Try.underlying46 rfl (by kernel_rfl)⟩) hS0 rfl ?_
  try simp only [Act.put, List.setIfInBounds_toArray, List.set_cons_zero, List.set_cons_succ]
  refine one_ (i := 6) (oi := ({ dst := some 25, op := Op.call { callee := Callee.value (Operand.func 42), args := #[Operand.tmp 23, Operand.tmp 24], argTypes := #[46, 46] }, type := 4, pos := "law.go:173", after := #[{ on := 4, ground := Ground.data }, { on := 5, ground := Ground.data }, { on := 3, ground := Ground.chain }, { on := 3, ground := Ground.guard }], guard := some (3, true) } : Oper)) (N := some 25) #[true, true, true, true, true, true, true, false, false, false, false, false, false, false, false, false, false, false, false, false] rfl rfl (by kernel_rfl) (by decide) ?_
  intro KK hKK
  refine goes_ Try.func42 (by kernel_rfl) rfl #[.agg #[.int .i64 e, .string ⟨#[]⟩, .int .i64 0, .int .i64 0, .int .i64 0, .slice Option.none 0 0, .slice A1 ds.length c1, .int .i64 0, .int .i64 t1, .int .i64 t2, .int .i64 0], .agg #[.int .i64 e, .string ⟨#[]⟩, .int .i64 0, .int .i64 0, .int .i64 0, .slice Option.none 0 0, .slice A2 ds.length c2, .int .i64 0, .int .i64 t1, .int .i64 t2, .int .i64 0]] (by rfl) rfl rfl (by simp [Act.eval]) ?_
  refine (sameresult_any e t1 t2 ds A1 c1 A2 c2 _ (hN1.grew hS0) (hN2.grew hS0) hdl).mono ?_
  rintro ee wS ⟨rfl, hkS⟩
  refine ⟨_, rfl, hKK.out _ _ (hS0.trans hkS) (fun hS1 => ?_)⟩
  try simp only [Act.put, List.setIfInBounds_toArray, List.set_cons_zero, List.set_cons_succ]
  refine pure_ (i := 7) (N := some 26) (v := .bool true) #[true, true, true, true, true, true, true, true, false, false, false, false, false, false, false, false, false, false, false, false] rfl rfl (by kernel_rfl) (fun _ _ _ h => h) (Or.inl ⟨wanted_none rfl, fun w => by go_simp⟩) rfl ?_
  try simp only [Act.put, List.setIfInBounds_toArray, List.set_cons_zero, List.set_cons_succ]
  refine pure_ (i := 8) (N := some 27) (v := .bool true) #[true, true, true, true, true, true, true, true, true, false, false, false, false, false, false, false, false, false, false, false] rfl rfl (by kernel_rfl) (fun _ _ _ h => h) (Or.inl ⟨wanted_none rfl, fun w => by rfl⟩) rfl ?_
  try simp only [Act.put, List.setIfInBounds_toArray, List.set_cons_zero, List.set_cons_succ]
  refine pure_ (i := 9) (N := some 28) (v := .pointer (some ⟨x, 0, Option.none⟩)) #[true, true, true, true, true, true, true, true, true, true, false, false, false, false, false, false, false, false, false, false] rfl rfl (by kernel_rfl) (fun _ _ _ h => h) (Or.inl ⟨by rfl, fun w => by go_simp⟩) rfl ?_
  try simp only [Act.put, List.setIfInBounds_toArray, List.set_cons_zero, List.set_cons_succ]
  refine take_ (i := 10) (N := some 29) (v := .iface 104 (.pointer (some ⟨g, 0, Option.none⟩))) #[true, true, true, true, true, true, true, true, true, true, true, false, false, false, false, false, false, false, false, false] rfl rfl (by kernel_rfl) (fun _ _ _ h => h) (Or.inl ⟨by rfl, by intro w' hSw; have q := hSw.cell x0 id; go_simp⟩) hS1 rfl ?_
  try simp only [Act.put, List.setIfInBounds_toArray, List.set_cons_zero, List.set_cons_succ]
  refine pure_ (i := 12) (N := some 31) (v := .pointer (some ⟨x, 1, Option.none⟩)) #[true, true, true, true, true, true, true, true, true, true, true, false, true, false, false, false, false, false, false, false] rfl rfl (by kernel_rfl) (fun _ _ _ h => h) (Or.inl ⟨by rfl, fun w => by go_simp⟩) rfl ?_
  try simp only [Act.put, List.setIfInBounds_toArray, List.set_cons_zero, List.set_cons_succ]
  refine take_ (i := 13) (N := some 32) (v := .pointer (some ⟨r, 0, Option.none⟩)) #[true, true, true, true, true, true, true, true, true, true, true, false, true, true, false, false, false, false, false, false] rfl rfl (by kernel_rfl) (fun _ _ _ h => h) (Or.inl ⟨by rfl, by intro w' hSw; have q := hSw.cell x1 id; go_simp⟩) hS1 rfl ?_
  try simp only [Act.put, List.setIfInBounds_toArray, List.set_cons_zero, List.set_cons_succ]
  refine pure_ (i := 14) (N := some 33) (v := .pointer (some ⟨r, 0, Option.none⟩)) #[true, true, true, true, true, true, true, true, true, true, true, false, true, true, true, false, false, false, false, false] rfl rfl (by kernel_rfl) (fun _ _ _ h => h) (Or.inl ⟨by rfl, fun w => by go_simp⟩) rfl ?_
  try simp only [Act.put, List.setIfInBounds_toArray, List.set_cons_zero, List.set_cons_succ]
  refine pure_ (i := 15) (N := some 34) (v := .pointer (some ⟨r, 8, Option.none⟩)) #[true, true, true, true, true, true, true, true, true, true, true, false, true, true, true, true, false, false, false, false] rfl rfl (by kernel_rfl) (fun _ _ _ h => h) (Or.inl ⟨by rfl, fun w => by go_simp⟩) rfl ?_
  try simp only [Act.put, List.setIfInBounds_toArray, List.set_cons_zero, List.set_cons_succ]
  refine take_ (i := 16) (N := some 35) (v := .int .i64 round) #[true, true, true, true, true, true, true, true, true, true, true, false, true, true, true, true, true, false, false, false] rfl rfl (by kernel_rfl) (fun _ _ _ h => h) (Or.inl ⟨by rfl, by intro w' hSw; have q := hSw.cell m8 id; go_simp⟩) hS1 rfl ?_
  try simp only [Act.put, List.setIfInBounds_toArray, List.set_cons_zero, List.set_cons_succ]
  refine one_ (i := 11) (oi := ({ dst := some 30, op := Op.call { callee := Callee.invoke (Operand.tmp 29) "Round", args := #[], argTypes := #[] }, type := 3, pos := "law.go:173", after := #[{ on := 10, ground := Ground.data }, { on := 8, ground := Ground.chain }, { on := 8, ground := Ground.guard }], guard := some (8, true) } : Oper)) (N := some 30) #[true, true, true, true, true, true, true, true, true, true, true, true, true, true, true, true, true, false, false, false] rfl rfl (by kernel_rfl) (by decide) ?_
  intro KK hKK
  refine call_ 86 #[.pointer (some ⟨g, 0, Option.none⟩)] (by rfl) rfl (by go_simp; go_invoke; go_simp) ?_
  refine (mach_round g base X h round ph _ (hM5.grew hS1)).mono ?_
  rintro ee wR ⟨rfl, hwR⟩
  rw [hwR]
  refine ⟨_, rfl, hKK.out _ _ hS1 (fun hS2 => ?_)⟩
  try simp only [Act.put, List.setIfInBounds_toArray, List.set_cons_zero, List.set_cons_succ]
  refine pure_ (i := 17) (N := some 36) (v := .bool true) #[true, true, true, true, true, true, true, true, true, true, true, true, true, true, true, true, true, true, false, false] rfl rfl (by kernel_rfl) (fun _ _ _ h => h) (Or.inl ⟨by rfl, fun w => by go_simp⟩) rfl ?_
  try simp only [Act.put, List.setIfInBounds_toArray, List.set_cons_zero, List.set_cons_succ]
  refine pure_ (i := 18) (N := some 37) (v := .bool true) #[true, true, true, true, true, true, true, true, true, true, true, true, true, true, true, true, true, true, true, false] rfl rfl (by kernel_rfl) (fun _ _ _ h => h) (Or.inl ⟨wanted_none rfl, fun w => by go_simp⟩) rfl ?_
  try simp only [Act.put, List.setIfInBounds_toArray, List.set_cons_zero, List.set_cons_succ]
  refine pure_ (i := 19) (N := some 2) (v := .bool true) #[true, true, true, true, true, true, true, true, true, true, true, true, true, true, true, true, true, true, true, true] rfl rfl (by kernel_rfl) (fun _ _ _ h => h) (Or.inl ⟨wanted_none rfl, fun w => by rfl⟩) rfl ?_
  try simp only [Act.put, List.setIfInBounds_toArray, List.set_cons_zero, List.set_cons_succ]
  refine done_ (by kernel_rfl) ?_
  have hk6 := hS2
  go_wp2_with fail
  go_ret
  exact ⟨rfl, k05.trans hk6⟩
end Go.Proofs.Ytcihfjfbcfgidaa
