/- cairnlaw7.value: a value's message. -/
import Derived.Test.YtcihfjfbcfgidaaTick
import Derived.Test.YtcihfjfbcfgidaaReadMade
import Derived.Laws.Tables
import Derived.Laws.Rows
namespace Go.Proofs.Ytcihfjfbcfgidaa
open Go.RowKit Go.Maps

/-- A message whose rest is zero. -/
def msgL (kind : Int) (fc : Bool) (fi : Int) (tc : Bool) (ti op rd q0 q1 q2 q3 s1 s2 : Int) (dv : Value) : List Value :=
  [.int .i64 kind, .bool fc, .int .i64 fi, .bool tc, .int .i64 ti, .int .i64 op, .int .i64 rd, .int .i64 q0, .int .i64 q1, .int .i64 q2, .int .i64 q3, .int .i64 s1, .int .i64 s2, .int .i64 0, .int .i64 0, dv, .int .i64 0, .int .i64 0, .int .i64 0, .string ⟨#[]⟩, .int .i64 0, .int .i64 0, .int .i64 0, .int .i64 0, .int .i64 0, .int .i64 0, .slice Option.none 0 0, .slice Option.none 0 0, .slice Option.none 0 0, .bool false]

set_option maxRecDepth 100000 in
set_option maxHeartbeats 1600000 in
theorem value_any (server round s1 s2 : Int) (A : Option Addr) (n c : Nat) (w : World) :
    Calls Try.prog 19 #[.int .i64 server, .int .i64 round, .agg #[.int .i64 s1, .int .i64 s2], .slice A n c] w fun e w' => e = .returned (.agg (msgL 11 false server true 3 1 round 1 3 1 0 s1 s2 (.slice A n c)).toArray) ∧ Keeps None w w' := by
  have hb := Blk.new w 23 [.int .i64 s1, .int .i64 s2]
  have hB := (hb.alloc (.cells (msgL 0 false 0 false 0 0 0 0 0 0 0 0 0 (.slice Option.none 0 0)).toArray 66))
  have kA := ((Keeps.refl None w).alloc (.cells #[.int .i64 s1, .int .i64 s2] 23)).alloc (.cells (msgL 0 false 0 false 0 0 0 0 0 0 0 0 0 (.slice Option.none 0 0)).toArray 66)
  have hZ : Blk ((w.alloc (.cells #[.int .i64 s1, .int .i64 s2] 23)).alloc (.cells (msgL 0 false 0 false 0 0 0 0 0 0 0 0 0 (.slice Option.none 0 0)).toArray 66)) (w.heap.size + 1) 66 (msgL 0 false 0 false 0 0 0 0 0 0 0 0 0 (.slice Option.none 0 0)) := by
    have := Blk.new (w.alloc (.cells #[.int .i64 s1, .int .i64 s2] 23)) 66 (msgL 0 false 0 false 0 0 0 0 0 0 0 0 0 (.slice Option.none 0 0))
    rwa [World.size_alloc] at this
  have c0 := hB.cell 0 _ rfl
  have c1 := hB.cell 1 _ rfl
  have hq1 : (Try.prog.info? 66).map (·.size) = some (msgL 11 false server true 3 1 round 1 3 1 0 s1 s2 (.slice A n c)).toArray.size := sizeMsg rfl
  have hq2 : (msgL 0 false 0 false 0 0 0 0 0 0 0 0 0 (.slice Option.none 0 0)).toArray.size = (msgL 11 false server true 3 1 round 1 3 1 0 s1 s2 (.slice A n c)).toArray.size := rfl
  have hq3 : (msgL 11 false server true 3 1 round 1 3 1 0 s1 s2 (.slice A n c)).toArray.all (·.oneCell') = true := by simp [msgL, Value.oneCell']
  simp only [msgL] at hZ hq1 hq2 hq3 c0 c1 kA
  go_enter Try.func19, Try.ntmps19
  go_wp2_with (with_reducible refine wpList_store_row rfl _ (.tmp 8) (.tmp 16) rfl (w.heap.size + 1) _ rfl rfl _ _ hZ.raw hq1 hq2 hq3 ?_)
  have hF := hZ.setRow (w := (w.alloc (.cells #[.int .i64 s1, .int .i64 s2] 23)).alloc (.cells (msgL 0 false 0 false 0 0 0 0 0 0 0 0 0 (.slice Option.none 0 0)).toArray 66)) (msgL 11 false server true 3 1 round 1 3 1 0 s1 s2 (.slice A n c))
  refine bodyPost_ret (results_cell_row rfl _ _ (w.heap.size + 1) _ _ (0, 0) _ rfl hF.raw Try.underlying66 rfl (sizeMsg rfl)) rfl ⟨rfl, kA.andThen ((Keeps.refl (One (w.heap.size + 1)) _).setRow _ _ (fun _ => rfl)) (fun i hi e => by simp only [One] at e; omega)⟩
end Go.Proofs.Ytcihfjfbcfgidaa
