/- The reference's Read. -/
import Derived.Test.YtnhhmkgcgogddaaRRef
namespace Go.Proofs.Ytnhhmkgcgogddaa
open Go.RowKit Go.Proofs.YtnhhmkgcgogddaaW.PrintLast
set_option linter.unusedVariables false

theorem Try.sizeIt {a b c : Value} : (Try.prog.info? 32).map (·.size) = some (#[a, b, c] : Array Value).size := by kernel_rfl

def RefNum (kind : Int) (r1 : Int × St) (r : Nat) (A : Option Addr) (n cap : Nat) (w : World) (e : Ending) (w' : World) : Prop :=
  e = .returned (.agg #[.int .i64 kind, .int .i64 r1.1, .slice Option.none 0 0]) ∧ RR w' r A n cap r1.2 ∧ Keeps (One r) w w'

/-- The world behind the two items that Read lays. -/
def itemW (w : World) (kind : Int) : World := (w.alloc (.cells #[.int .i64 0, .int .i64 0, .slice Option.none 0 0] 32)).alloc (.cells #[.int .i64 kind, .int .i64 0, .slice Option.none 0 0] 32)
theorem itemW_facts (w : World) (kind : Int) : Keeps None w (itemW w kind) ∧ Blk (itemW w kind) w.heap.size 32 [.int .i64 0, .int .i64 0, .slice Option.none 0 0] ∧ Blk (itemW w kind) (w.heap.size + 1) 32 [.int .i64 kind, .int .i64 0, .slice Option.none 0 0] := by
  refine ⟨((Keeps.refl _ _).alloc _).alloc _, (Blk.new w 32 [.int .i64 0, .int .i64 0, .slice Option.none 0 0]).alloc _, ?_⟩
  have := Blk.new (w.alloc (.cells #[.int .i64 0, .int .i64 0, .slice Option.none 0 0] 32)) 32 [.int .i64 kind, .int .i64 0, .slice Option.none 0 0]
  rwa [World.size_alloc] at this
theorem numD_lt {d : Dec} {u m : Nat} (h : numD d = .ok u m) : u < 9223372036854775808 := by
  cases d with
  | ok u' m' =>
    by_cases q : u' < 9223372036854775808
    · rw [show numD (.ok u' m') = .ok u' m' from if_pos q] at h; cases h; exact q
    · rw [show numD (.ok u' m') = .err 11 from if_neg q] at h; cases h
  | err k => cases h
theorem RR.setRes {w : World} {r : Nat} {A : Option Addr} {n cap : Nat} {s : St} (h : RR w r A n cap s) {a : Addr} {u : Value} (ha : r ≠ a.block) : RR (w.setCell a u) r A n cap s := ⟨h.blk.other _ _ ha, h.le⟩
theorem and1 (u : Nat) (hu : u < 18446744073709551616) : bits .and .u64 (u : Int) 1 = ((u % 2 : Nat) : Int) := by
  rw [show (1 : Int) = ((1 : Nat) : Int) from rfl, bits_nat_and .u64 u 1 (by simp [IntKind.bits]; omega) (by simp [IntKind.bits]), Nat.and_one_is_mod, wrap_u64_nat _ (by omega)]

set_option maxRecDepth 100000 in
set_option maxHeartbeats 3200000 in
theorem refread_num (zs : List Int) (r : Nat) (A : Option Addr) (n cap : Nat) (s : St) (w : World) (h : RR w r A n cap s) (hA : Nums .u8 w A zs) (hn : zs.length = n) (hr : n ≤ 140737488351232) (hb : Bytes zs) (hoff : 0 < zs.length → Off A (One r)) :
    Calls Try.prog 52 #[.pointer (some ⟨r, 0, Option.none⟩), .int .i64 1] w (RefNum 1 (numStep zs s) r A n cap w) := by
  subst hn
  obtain ⟨p, err, place⟩ := s
  obtain ⟨R, hR⟩ : ∃ R, R = RefNum 1 (numStep zs ⟨p, err, place⟩) r A zs.length cap w := ⟨_, rfl⟩
  rw [← hR]
  have HR := Lib.hid hR
  have HB := Lib.hid hb
  clear hR hb
  have hrl := h.blk.lt
  obtain ⟨hk, hz, hx⟩ := itemW_facts w 1
  have h2 := h.grew hk
  have hA2 := hA.grew hk
  unfold itemW at hk hz hx h2 hA2
  have c2 := h2.blk.cell 2 _ rfl
  by_cases he : err = 0
  · obtain ⟨t1, t2⟩ := test_eq he
    subst he
    go_enter Try.func52, Try.ntmps52
    go_wp2_with fail
    refine (rrvar_any false zs r A zs.length cap ⟨p, 0, place⟩ _ h2 hA2 rfl hr HB.out hoff).mono ?_
    rintro e w3 (⟨u, m, hd, hu, hm1, hpm, rfl, hR3, hk3⟩ | ⟨k, hd, rfl, hR3, hk3⟩)
    · have hz3 := hz.keeps hk3 (fun e => by have : w.heap.size = r := e; omega)
      have hx3 := hx.keeps hk3 (fun e => by have : w.heap.size + 1 = r := e; omega)
      have hK3 := hk.of_none.trans hk3
      have hnd : numD (decF 0 0 (zs.drop p)) = .ok u m := by rw [← decS_false _ 0 0 (fun c hc => HB.out c (List.mem_of_mem_drop hc)) (by omega) (by simp)]; exact hd
      have hu63 : u < 9223372036854775808 := numD_lt hnd
      have HD := Lib.hid (show numStep zs ⟨p, 0, place⟩ = ((u : Int), ⟨p + m, 0, place⟩) from by unfold numStep; rw [if_pos rfl]; simp only; rw [hnd])
      have d1 := hR3.blk.cell 1 _ rfl
      have e1 := hR3.blk.free 1
      have z0 := hz3.cell 0 _ rfl
      have z1 := hz3.cell 1 _ rfl
      have z2 := hz3.cell 2 _ rfl
      have y0 := hz3.free 0
      have y1 := hz3.free 1
      have y2 := hz3.free 2
      have x0 := hx3.cell 0 _ rfl
      have x1 := hx3.cell 1 _ rfl
      have x2 := hx3.cell 2 _ rfl
      have v1 := hx3.free 1
      have hm0 : ((m : Int) == 0) = false := by simp; omega
      clear hd hnd
      go_wp2_with fail
      refine bodyPost_ret (results_cell_row rfl _ _ w.heap.size 32 #[.int .i64 1, .int .i64 u, .slice Option.none 0 0] (0, 0) _ rfl (((((hz3.other ⟨w.heap.size + 1, 1, Option.none⟩ (.int .i64 u) (by simp)).other ⟨r, 1, Option.none⟩ (.int .i64 ((p : Int) + (m : Int))) (by simp; omega)).set 0 (.int .i64 1)).set 1 (.int .i64 u)).set 2 (.slice Option.none 0 0)).raw Try.underlying32 rfl Try.sizeIt) rfl ?_
      rw [HR.out, HD.out]
      refine ⟨rfl, ?_, ?_⟩
      · have q : RR ((w3.setCell ⟨w.heap.size + 1, 1, Option.none⟩ (.int .i64 u)).setCell ⟨r, 1, Option.none⟩ (.int .i64 ((p : Int) + (m : Int)))) r A zs.length cap ⟨p + m, 0, place⟩ := ⟨(hR3.blk.other _ _ (by simp; omega)).set 1 _, hpm⟩
        exact ((q.setRes (by simp; omega)).setRes (by simp; omega)).setRes (by simp; omega)
      · exact ((((hK3.setCell ⟨w.heap.size + 1, 1, Option.none⟩ _ (fun h => by exfalso; simp only at h; omega)).setCell ⟨r, 1, Option.none⟩ _ (fun _ => rfl)).setCell _ _ (by simp)).setCell _ _ (by simp)).setCell _ _ (by simp)
    · have hz3 := hz.keeps hk3 (fun e => by have : w.heap.size = r := e; omega)
      have hx3 := hx.keeps hk3 (fun e => by have : w.heap.size + 1 = r := e; omega)
      have hK3 := hk.of_none.trans hk3
      have z0 := hz3.cell 0 _ rfl
      have z1 := hz3.cell 1 _ rfl
      have z2 := hz3.cell 2 _ rfl
      have y0 := hz3.free 0
      have y1 := hz3.free 1
      have y2 := hz3.free 2
      have x0 := hx3.cell 0 _ rfl
      have x1 := hx3.cell 1 _ rfl
      have x2 := hx3.cell 2 _ rfl
      have HD := Lib.hid (show numStep zs ⟨p, 0, place⟩ = (0, ⟨p, k, p⟩) from by unfold numStep; rw [if_pos rfl]; simp only; rw [← decS_false _ 0 0 (fun c hc => HB.out c (List.mem_of_mem_drop hc)) (by omega) (by simp), hd])
      clear hd
      go_wp2_with fail
      refine bodyPost_ret (results_cell_row rfl _ _ w.heap.size 32 #[.int .i64 1, .int .i64 0, .slice Option.none 0 0] (0, 0) _ rfl (((hz3.set 0 (.int .i64 1)).set 1 (.int .i64 0)).set 2 (.slice Option.none 0 0)).raw Try.underlying32 rfl Try.sizeIt) rfl ?_
      rw [HR.out, HD.out]
      refine ⟨rfl, ?_, ?_⟩
      · exact ((hR3.setRes (by simp; omega)).setRes (by simp; omega)).setRes (by simp; omega)
      · exact ((hK3.setCell _ _ (by simp)).setCell _ _ (by simp)).setCell _ _ (by simp)
  · obtain ⟨t1, t2⟩ := test_ne he
    have z0 := hz.cell 0 _ rfl
    have z1 := hz.cell 1 _ rfl
    have z2 := hz.cell 2 _ rfl
    have y0 := hz.free 0
    have y1 := hz.free 1
    have y2 := hz.free 2
    have x0 := hx.cell 0 _ rfl
    have x1 := hx.cell 1 _ rfl
    have x2 := hx.cell 2 _ rfl
    have HD := Lib.hid (show numStep zs ⟨p, err, place⟩ = (0, ⟨p, err, place⟩) from by unfold numStep; rw [if_neg he])
    clear he
    go_enter Try.func52, Try.ntmps52
    go_wp2_with fail
    refine bodyPost_ret (results_cell_row rfl _ _ w.heap.size 32 #[.int .i64 1, .int .i64 0, .slice Option.none 0 0] (0, 0) _ rfl ((Blk.new w 32 [.int .i64 1, .int .i64 0, .slice Option.none 0 0]).alloc _).raw Try.underlying32 rfl Try.sizeIt) rfl ?_
    rw [HR.out, HD.out]
    exact ⟨rfl, h.grew (((Keeps.refl _ _).alloc _).alloc _), ((Keeps.refl _ _).alloc _).alloc _⟩

set_option maxRecDepth 100000 in
set_option maxHeartbeats 3200000 in
theorem refread_int (zs : List Int) (r : Nat) (A : Option Addr) (n cap : Nat) (s : St) (w : World) (h : RR w r A n cap s) (hA : Nums .u8 w A zs) (hn : zs.length = n) (hr : n ≤ 140737488351232) (hb : Bytes zs) (hoff : 0 < zs.length → Off A (One r)) :
    Calls Try.prog 52 #[.pointer (some ⟨r, 0, Option.none⟩), .int .i64 2] w (RefNum 2 (intStep zs s) r A n cap w) := by
  subst hn
  obtain ⟨p, err, place⟩ := s
  obtain ⟨R, hR⟩ : ∃ R, R = RefNum 2 (intStep zs ⟨p, err, place⟩) r A zs.length cap w := ⟨_, rfl⟩
  rw [← hR]
  have HR := Lib.hid hR
  have HB := Lib.hid hb
  clear hR hb
  have hrl := h.blk.lt
  obtain ⟨hk, hz, hx⟩ := itemW_facts w 2
  have h2 := h.grew hk
  have hA2 := hA.grew hk
  unfold itemW at hk hz hx h2 hA2
  have c2 := h2.blk.cell 2 _ rfl
  by_cases he : err = 0
  · obtain ⟨t1, t2⟩ := test_eq he
    subst he
    go_enter Try.func52, Try.ntmps52
    go_wp2_with fail
    refine (rrvar_any true zs r A zs.length cap ⟨p, 0, place⟩ _ h2 hA2 rfl hr HB.out hoff).mono ?_
    rintro e w3 (⟨u, m, hd, hu, hm1, hpm, rfl, hR3, hk3⟩ | ⟨k, hd, rfl, hR3, hk3⟩)
    · have hz3 := hz.keeps hk3 (fun e => by have : w.heap.size = r := e; omega)
      have hx3 := hx.keeps hk3 (fun e => by have : w.heap.size + 1 = r := e; omega)
      have hK3 := hk.of_none.trans hk3
      have hnd : decF 0 0 (zs.drop p) = .ok u m := by rw [← decS_true]; exact hd
      have HD := Lib.hid (show intStep zs ⟨p, 0, place⟩ = (unzF u, ⟨p + m, 0, place⟩) from by unfold intStep; rw [if_pos rfl]; simp only; rw [hnd])
      have d1 := hR3.blk.cell 1 _ rfl
      have e1 := hR3.blk.free 1
      have z0 := hz3.cell 0 _ rfl
      have z1 := hz3.cell 1 _ rfl
      have z2 := hz3.cell 2 _ rfl
      have y0 := hz3.free 0
      have y1 := hz3.free 1
      have y2 := hz3.free 2
      have x0 := hx3.cell 0 _ rfl
      have x1 := hx3.cell 1 _ rfl
      have x2 := hx3.cell 2 _ rfl
      have v1 := hx3.free 1
      have hm0 : ((m : Int) == 0) = false := by simp; omega
      clear hd hnd
      have ha : bits .and .u64 (u : Int) 1 = ((u % 2 : Nat) : Int) := and1 u hu
      by_cases hev : u % 2 = 0
      · rw [hev] at ha
        have hun : unzF u = (u : Int) / 2 := by unfold unzF; rw [if_pos hev]; omega
        rw [hun] at HD
        clear hev hun
        go_wp2_with fail
        refine bodyPost_ret (results_cell_row rfl _ _ w.heap.size 32 #[.int .i64 2, .int .i64 ((u : Int) / 2), .slice Option.none 0 0] (0, 0) _ rfl (((((hz3.other ⟨w.heap.size + 1, 1, Option.none⟩ (.int .i64 ((u : Int) / 2)) (by simp)).other ⟨r, 1, Option.none⟩ (.int .i64 ((p : Int) + (m : Int))) (by simp; omega)).set 0 (.int .i64 2)).set 1 (.int .i64 ((u : Int) / 2))).set 2 (.slice Option.none 0 0)).raw Try.underlying32 rfl Try.sizeIt) rfl ?_
        rw [HR.out, HD.out]
        refine ⟨rfl, ?_, ?_⟩
        · have q : RR ((w3.setCell ⟨w.heap.size + 1, 1, Option.none⟩ (.int .i64 ((u : Int) / 2))).setCell ⟨r, 1, Option.none⟩ (.int .i64 ((p : Int) + (m : Int)))) r A zs.length cap ⟨p + m, 0, place⟩ := ⟨(hR3.blk.other _ _ (by simp; omega)).set 1 _, hpm⟩
          exact ((q.setRes (by simp; omega)).setRes (by simp; omega)).setRes (by simp; omega)
        · exact ((((hK3.setCell ⟨w.heap.size + 1, 1, Option.none⟩ _ (fun h => by exfalso; simp only at h; omega)).setCell ⟨r, 1, Option.none⟩ _ (fun _ => rfl)).setCell _ _ (by simp)).setCell _ _ (by simp)).setCell _ _ (by simp)
      · rw [show u % 2 = 1 by omega] at ha
        have hun : unzF u = -((u : Int) / 2) - 1 := by unfold unzF; rw [if_neg hev]; omega
        rw [hun] at HD
        clear hev hun
        go_wp2_with fail
        refine bodyPost_ret (results_cell_row rfl _ _ w.heap.size 32 #[.int .i64 2, .int .i64 (-((u : Int) / 2) - 1), .slice Option.none 0 0] (0, 0) _ rfl ((((((hz3.other ⟨w.heap.size + 1, 1, Option.none⟩ (.int .i64 ((u : Int) / 2)) (by simp)).other ⟨w.heap.size + 1, 1, Option.none⟩ (.int .i64 (-((u : Int) / 2) - 1)) (by simp)).other ⟨r, 1, Option.none⟩ (.int .i64 ((p : Int) + (m : Int))) (by simp; omega)).set 0 (.int .i64 2)).set 1 (.int .i64 (-((u : Int) / 2) - 1))).set 2 (.slice Option.none 0 0)).raw Try.underlying32 rfl Try.sizeIt) rfl ?_
        rw [HR.out, HD.out]
        refine ⟨rfl, ?_, ?_⟩
        · have q : RR (((w3.setCell ⟨w.heap.size + 1, 1, Option.none⟩ (.int .i64 ((u : Int) / 2))).setCell ⟨w.heap.size + 1, 1, Option.none⟩ (.int .i64 (-((u : Int) / 2) - 1))).setCell ⟨r, 1, Option.none⟩ (.int .i64 ((p : Int) + (m : Int)))) r A zs.length cap ⟨p + m, 0, place⟩ := ⟨((hR3.blk.other _ _ (by simp; omega)).other _ _ (by simp; omega)).set 1 _, hpm⟩
          exact ((q.setRes (by simp; omega)).setRes (by simp; omega)).setRes (by simp; omega)
        · exact (((((hK3.setCell ⟨w.heap.size + 1, 1, Option.none⟩ _ (fun h => by exfalso; simp only at h; omega)).setCell ⟨w.heap.size + 1, 1, Option.none⟩ _ (fun h => by exfalso; simp only at h; omega)).setCell ⟨r, 1, Option.none⟩ _ (fun _ => rfl)).setCell _ _ (by simp)).setCell _ _ (by simp)).setCell _ _ (by simp)
    · have hz3 := hz.keeps hk3 (fun e => by have : w.heap.size = r := e; omega)
      have hx3 := hx.keeps hk3 (fun e => by have : w.heap.size + 1 = r := e; omega)
      have hK3 := hk.of_none.trans hk3
      have z0 := hz3.cell 0 _ rfl
      have z1 := hz3.cell 1 _ rfl
      have z2 := hz3.cell 2 _ rfl
      have y0 := hz3.free 0
      have y1 := hz3.free 1
      have y2 := hz3.free 2
      have x0 := hx3.cell 0 _ rfl
      have x1 := hx3.cell 1 _ rfl
      have x2 := hx3.cell 2 _ rfl
      have HD := Lib.hid (show intStep zs ⟨p, 0, place⟩ = (0, ⟨p, k, p⟩) from by unfold intStep; rw [if_pos rfl]; simp only; rw [← decS_true, hd])
      clear hd
      go_wp2_with fail
      refine bodyPost_ret (results_cell_row rfl _ _ w.heap.size 32 #[.int .i64 2, .int .i64 0, .slice Option.none 0 0] (0, 0) _ rfl (((hz3.set 0 (.int .i64 2)).set 1 (.int .i64 0)).set 2 (.slice Option.none 0 0)).raw Try.underlying32 rfl Try.sizeIt) rfl ?_
      rw [HR.out, HD.out]
      refine ⟨rfl, ?_, ?_⟩
      · exact ((hR3.setRes (by simp; omega)).setRes (by simp; omega)).setRes (by simp; omega)
      · exact ((hK3.setCell _ _ (by simp)).setCell _ _ (by simp)).setCell _ _ (by simp)
  · obtain ⟨t1, t2⟩ := test_ne he
    have z0 := hz.cell 0 _ rfl
    have z1 := hz.cell 1 _ rfl
    have z2 := hz.cell 2 _ rfl
    have y0 := hz.free 0
    have y1 := hz.free 1
    have y2 := hz.free 2
    have x0 := hx.cell 0 _ rfl
    have x1 := hx.cell 1 _ rfl
    have x2 := hx.cell 2 _ rfl
    have HD := Lib.hid (show intStep zs ⟨p, err, place⟩ = (0, ⟨p, err, place⟩) from by unfold intStep; rw [if_neg he])
    clear he
    go_enter Try.func52, Try.ntmps52
    go_wp2_with fail
    refine bodyPost_ret (results_cell_row rfl _ _ w.heap.size 32 #[.int .i64 2, .int .i64 0, .slice Option.none 0 0] (0, 0) _ rfl ((Blk.new w 32 [.int .i64 2, .int .i64 0, .slice Option.none 0 0]).alloc _).raw Try.underlying32 rfl Try.sizeIt) rfl ?_
    rw [HR.out, HD.out]
    exact ⟨rfl, h.grew (((Keeps.refl _ _).alloc _).alloc _), ((Keeps.refl _ _).alloc _).alloc _⟩
end Go.Proofs.Ytnhhmkgcgogddaa
