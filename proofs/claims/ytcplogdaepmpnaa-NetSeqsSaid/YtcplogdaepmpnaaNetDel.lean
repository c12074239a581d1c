/- slices.Delete at packets, one element. Printed by wip/mkdelete.sh. -/
import Derived.Test.YtcplogdaepmpnaaNetDelete
namespace Go.Proofs.Ytcplogdaepmpnaa
open Go.RowKit Go.Maps Go.ChangeMaps Go.WideElems Go.Proofs.YtcplogdaepmpnaaW.PrintLast

theorem zeroPk (w : World) : (zeroValue 33).run Try.prog w = .ok (.agg #[.bool false, .int .i64 0, .int .i64 0, .bool false, .int .i64 0, .slice Option.none 0 0]) w := by kernel_rfl

set_option maxRecDepth 100000 in
set_option maxHeartbeats 4000000 in
theorem delete_any (base gw cap i : Nat) (L : Way) (w : World) (hrow : w.ownsRow base 33 6 (.slice (some ⟨gw, 0, Option.none⟩) L.length cap) L.length L.cells) (hi : i < L.length) (hv : ∀ x ∈ L, x.1.dv.oneCell' = true) :
    Calls Try.prog 33 #[.slice (some ⟨gw, 0, Option.none⟩) L.length cap, .int .i64 (i : Int), .int .i64 ((i : Int) + 1)] w fun e w' =>
      e = .returned (.slice (some ⟨gw, 0, Option.none⟩) (L.length - 1) cap) ∧ w'.ownsRow base 33 6 (.slice (some ⟨gw, 0, Option.none⟩) (L.length - 1) cap) (L.length - 1) (Way.cells (L.eraseIdx i)) ∧ Keeps (One gw) w w' := by
  obtain ⟨i0, hi0, hz0, hz1, hz2⟩ := info_parts infoPkAll
  rcases hrow.2 with ⟨e, _⟩ | ⟨g', cap', cur, e, hb, hg, hn, hcap, hsz, hcur⟩
  · cases e
  cases e
  have hcl := Way.cells_length L
  -- the append
  obtain ⟨news, hnews⟩ : ∃ news, news = Way.cells (L.drop (i + 1)) := ⟨_, rfl⟩
  have hnl : news.length = (L.length - (i + 1)) * 6 := by rw [hnews, Way.cells_length, List.length_drop]
  obtain ⟨A2, hA2⟩ : ∃ A2 : Addr, A2 = (if cap = i + 1 then ⟨gw, 0, Option.none⟩ else ⟨gw, (i + 1) * 6, Option.none⟩) := ⟨_, rfl⟩
  have hsl : ∀ w : World, (Instr.slice 39 (.slice (some ⟨gw, 0, Option.none⟩) L.length cap) (some (.int .i64 ((i : Int) + 1))) Option.none Option.none).run Try.prog w = .ok (.slice (some A2) (L.length - (i + 1)) (cap - (i + 1))) w := fun w => by
    have := run_slice_tail w Try.underlying39 infoPk gw L.length cap (i + 1) (by omega)
    rw [← hA2] at this
    exact this
  have hget : ∀ j u, news[j]? = some u → w.drew.cell? (A2.add j) = some u := fun j u hu => by
    have hj : j < news.length := (List.getElem?_eq_some_iff.1 hu).1
    have hc : ¬ cap = i + 1 := by omega
    rw [if_neg hc] at hA2
    subst hA2
    have hadd : (⟨gw, (i + 1) * 6, Option.none⟩ : Addr).add j = ⟨gw, (i + 1) * 6 + j, Option.none⟩ := by unfold Addr.add; split <;> simp_all
    rw [hadd]
    show w.cell? _ = _
    rw [cell_of_row w gw _ cur _ _ hg]
    rw [hnews, ← Way.cells_drop, List.getElem?_drop, ← hcur, List.getElem?_take] at hu
    split at hu
    · simpa using hu
    · cases hu
  have hone : ∀ u ∈ L.cells, u.oneCell' = true := fun u hu => by
    obtain ⟨x, hx, hu⟩ := List.mem_flatMap.1 hu
    exact Pk.cells_one (hv x hx) u hu
  have hone' : ∀ u ∈ news, u.oneCell' = true := fun u hu => hone u (by
    rw [hnews, ← Way.cells_drop] at hu
    exact List.mem_of_mem_drop hu)
  obtain ⟨C1, hC1⟩ : ∃ C1, C1 = cur.toList.take (i * 6) ++ news ++ cur.toList.drop (i * 6 + news.length) := ⟨_, rfl⟩
  have happ : ∀ ty, (Builtin.append_ #[39, 39] ty #[.slice (some ⟨gw, 0, Option.none⟩) i cap, .slice (some A2) (L.length - (i + 1)) (cap - (i + 1))]).run Try.prog w.drew = .ok (.slice (some ⟨gw, 0, Option.none⟩) (L.length - 1) cap) (w.drew.setRow gw C1.toArray) := fun ty => by
    have h := run_append_room (P := Try.prog) w.drew 39 ty 33 i0 Try.underlying39 hi0 gw i cap cur hg A2 (L.length - (i + 1)) (cap - (i + 1)) news (by rw [hz1]; exact hnl) hget hone' (by omega) (by rw [hz1, hnl, hsz]; omega)
    rw [hz1, ← hC1, show i + (L.length - (i + 1)) = L.length - 1 by omega] at h
    exact h
  have hC1l : C1.length = cap * 6 := by
    rw [hC1]
    simp only [List.length_append, List.length_take, List.length_drop, Array.length_toList]
    omega
  have hC1t : C1.take ((L.length - 1) * 6) = Way.cells (L.eraseIdx i) := by
    rw [hC1, List.eraseIdx_eq_take_drop_succ, Way.cells_append, ← Way.cells_take, ← hnews, ← hcur, List.take_take, show min (i * 6) (L.length * 6) = i * 6 by omega]
    rw [List.take_left' (by rw [List.length_append, List.length_take, Array.length_toList]; omega)]
  have hw1 : (w.drew.setRow gw C1.toArray).heap[gw]? = some (.cells C1.toArray 33 (0, 0)) := setRow_heap w.drew gw cur _ _ _ hg
  obtain ⟨ZC, hZC⟩ : ∃ ZC : List Value, ZC = [.bool false, .int .i64 0, .int .i64 0, .bool false, .int .i64 0, .slice Option.none 0 0] := ⟨_, rfl⟩
  obtain ⟨C2, hC2⟩ : ∃ C2, C2 = C1.take ((L.length - 1) * 6) ++ ZC ++ C1.drop ((L.length - 1) * 6 + ZC.length) := ⟨_, rfl⟩
  have hsl3 := run_slice_three (P := Try.prog) w Try.underlying39 infoPk gw L.length cap i (i + 1) (by omega) (by omega) hn
  obtain ⟨v3, hsl3⟩ := hsl3
  have hslm : (Instr.slice 39 (.slice (some ⟨gw, 0, Option.none⟩) (L.length - 1) cap) (some (.int .i64 ((L.length - 1 : Nat) : Int))) (some (.int .i64 (L.length : Int))) Option.none).run Try.prog (w.drew.setRow gw C1.toArray) = .ok (.slice (some ⟨gw, (L.length - 1) * 6, Option.none⟩) 1 (cap - (L.length - 1))) (w.drew.setRow gw C1.toArray) := by
    have := run_slice_mid (w.drew.setRow gw C1.toArray) Try.underlying39 infoPk gw (L.length - 1) cap (L.length - 1) L.length (by omega) hn (by omega)
    rw [show L.length - (L.length - 1) = 1 by omega] at this
    exact this
  have hclr : ∀ ty, (Builtin.clear_ #[39] ty #[.slice (some ⟨gw, (L.length - 1) * 6, Option.none⟩) 1 (cap - (L.length - 1))]).run Try.prog (w.drew.setRow gw C1.toArray) = .ok (.tuple #[]) ((w.drew.setRow gw C1.toArray).setRow gw C2.toArray) := fun ty => by
    have := run_clear_one (w.drew.setRow gw C1.toArray) Try.underlying39 _ (zeroPk _) ZC (by rw [hZC]; rfl) gw ((L.length - 1) * 6) (cap - (L.length - 1)) C1.toArray 33 hw1 (by rw [hZC]; simp [hC1l]; omega) (by rw [hZC]; intro v hv; simp only [List.mem_cons, List.not_mem_nil, or_false] at hv; rcases hv with rfl | rfl | rfl | rfl | rfl | rfl <;> rfl) ty
    rw [List.toList_toArray, ← hC2] at this
    exact this
  have HC2 := Lib.hid hC2
  have HC1l := Lib.hid hC1l
  have HC1t := Lib.hid hC1t
  have HZC := Lib.hid hZC
  clear hC2 hC1l hC1t hZC hC1 hnews hnl hget hcur hsz hA2 hcl hz0 hz1 hz2
  have hne := test_ne (a := (i : Int)) (b := (i : Int) + 1) (by omega)
  obtain ⟨q1, q2⟩ := hne
  go_enter Try.func33, Try.ntmps33
  go_wp2_with (first
    | (with_reducible refine wpList_exec rfl (exec_slice Try.underlying39 (.tmp 8) (some (.tmp 9)) (some (.tmp 10)) (some (.tmp 12)) rfl _ hsl3) ?_))
  refine start_ (ds := [6, 7]) (S := (fun w' => w' = w.drew)) #[false, false, false, false, false, false, false, false] (by kernel_rfl) rfl rfl rfl (fun hS0 => ?_)
  refine pure_ (i := 0) (N := some 20) (v := .slice (some ⟨gw, 0, Option.none⟩) L.length cap) #[true, false, false, false, false, false, false, false] rfl rfl (by kernel_rfl) (fun _ _ _ h => h) (Or.inl ⟨wanted_none rfl, fun w => by rfl⟩) rfl ?_
  try simp only [Act.put, List.setIfInBounds_toArray, List.set_cons_zero, List.set_cons_succ]
  refine pure_ (i := 1) (N := some 21) (v := .int .i64 (i : Int)) #[true, true, false, false, false, false, false, false] rfl rfl (by kernel_rfl) (fun _ _ _ h => h) (Or.inl ⟨wanted_none rfl, fun w => by rfl⟩) rfl ?_
  try simp only [Act.put, List.setIfInBounds_toArray, List.set_cons_zero, List.set_cons_succ]
  refine pure_ (i := 2) (N := some 22) (v := .slice (some ⟨gw, 0, Option.none⟩) i cap) #[true, true, true, false, false, false, false, false] rfl rfl (by kernel_rfl) (fun _ _ _ h => h) (Or.inl ⟨wanted_none rfl, fun w => exec_slice Try.underlying39 (.tmp 20) Option.none (some (.tmp 21)) Option.none rfl _ (run_slice_head w Try.underlying39 infoPk ⟨gw, 0, Option.none⟩ L.length cap i (by omega))⟩) rfl ?_
  try simp only [Act.put, List.setIfInBounds_toArray, List.set_cons_zero, List.set_cons_succ]
  refine pure_ (i := 3) (N := some 23) (v := .slice (some ⟨gw, 0, Option.none⟩) L.length cap) #[true, true, true, true, false, false, false, false] rfl rfl (by kernel_rfl) (fun _ _ _ h => h) (Or.inl ⟨wanted_none rfl, fun w => by rfl⟩) rfl ?_
  try simp only [Act.put, List.setIfInBounds_toArray, List.set_cons_zero, List.set_cons_succ]
  refine pure_ (i := 4) (N := some 24) (v := .int .i64 ((i : Int) + 1)) #[true, true, true, true, true, false, false, false] rfl rfl (by kernel_rfl) (fun _ _ _ h => h) (Or.inl ⟨wanted_none rfl, fun w => by rfl⟩) rfl ?_
  try simp only [Act.put, List.setIfInBounds_toArray, List.set_cons_zero, List.set_cons_succ]
  refine pure_ (i := 5) (N := some 25) (v := .slice (some A2) (L.length - (i + 1)) (cap - (i + 1))) #[true, true, true, true, true, true, false, false] rfl rfl (by kernel_rfl) (fun _ _ _ h => h) (Or.inl ⟨wanted_none rfl, fun w => exec_slice Try.underlying39 (.tmp 23) (some (.tmp 24)) Option.none Option.none rfl _ (hsl w)⟩) rfl ?_
  try simp only [Act.put, List.setIfInBounds_toArray, List.set_cons_zero, List.set_cons_succ]
  refine last_ (i := 6) (oi := ({ dst := some 26, op := Op.call { callee := Callee.builtin Builtin.append, args := #[Operand.tmp 22, Operand.tmp 25], argTypes := #[39, 39] }, type := 39, pos := "slices.go:232", after := #[{ on := 2, ground := Ground.data }, { on := 5, ground := Ground.data }], guard := Option.none } : Oper)) (N := some 26) #[true, true, true, true, true, true, true, false] rfl rfl (by kernel_rfl) (by decide) ?_
  intro KK hKK
  refine value_ (wanted_none rfl) rfl (w1 := w.drew.setRow gw C1.toArray) (v := .slice (some ⟨gw, 0, Option.none⟩) (L.length - 1) cap) (exec_append (.tmp 22) (.tmp 25) rfl _ _ _ _ rfl rfl (happ _)) (hKK.out _ _ ?_)
  try simp only [Act.put, List.setIfInBounds_toArray, List.set_cons_zero, List.set_cons_succ]
  refine pure_ (i := 7) (N := some 0) (v := .slice (some ⟨gw, 0, Option.none⟩) (L.length - 1) cap) #[true, true, true, true, true, true, true, true] rfl rfl (by kernel_rfl) (fun _ _ _ h => h) (Or.inl ⟨wanted_none rfl, fun w => by rfl⟩) rfl ?_
  try simp only [Act.put, List.setIfInBounds_toArray, List.set_cons_zero]
  refine done_ (by kernel_rfl) ?_
  go_wp2_with (first
    | (with_reducible refine wpList_exec rfl (exec_slice Try.underlying39 (.tmp 27) (some (.tmp 29)) (some (.tmp 30)) Option.none rfl _ hslm) ?_)
    | (with_reducible refine wpList_exec rfl (exec_clear (.tmp 31) rfl _ _ _ rfl (hclr _)) ?_))
  go_ret
  have h1 := HC1l.out
  have hC2l : C2.length = cap * 6 := by
    rw [HC2.out, HZC.out]
    simp only [List.length_append, List.length_take, List.length_drop, List.length_cons, List.length_nil]
    omega
  have hC2t : C2.take ((L.length - 1) * 6) = Way.cells (L.eraseIdx i) := by
    rw [HC2.out, List.append_assoc, List.take_left' (by rw [List.length_take]; omega), HC1t.out]
  refine ⟨rfl, ⟨by rw [Way.cells_length, List.length_eraseIdx_of_lt hi], .inr ⟨gw, cap, C2.toArray, rfl, hb, ?_, by omega, hcap, by simpa using hC2l, by simpa using hC2t⟩⟩, ?_⟩
  · exact setRow_heap (w.drew.setRow gw C1.toArray) gw C1.toArray _ _ _ hw1
  · exact (((Keeps.refl (One gw) w).drew).setRow _ _ (fun _ => rfl)).setRow _ _ (fun _ => rfl)
end Go.Proofs.Ytcplogdaepmpnaa
