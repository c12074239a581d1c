/- The machine's Round and Done ahead of its end; Begin. -/
import Derived.Test.YtcihfjfbcfgidaaTallyBlk
namespace Go.Proofs.Ytcihfjfbcfgidaa
open Go.RowKit Go.Maps

set_option maxRecDepth 100000 in
set_option maxHeartbeats 1600000 in
theorem round_any (g : Nat) (client op round need k0 k1 k2 k3 : Int) (v : Value) (wr : Bool) (bl : Value) (size : Int) (st : Value) (w : World) (hB : Blk w g 109 (mcells client op round need k0 k1 k2 k3 v wr bl size st)) :
    Calls Try.prog 86 #[.pointer (some ⟨g, 0, Option.none⟩)] w fun e w' => e = .returned (.int .i64 round) ∧ w' = w := by
  have c2 := hB.cell 2 _ rfl
  go_enter Try.func86, Try.ntmps86
  go_wp2
  go_ret
  exact ⟨rfl, rfl⟩

def resultZ : Value := .agg #[.int .i64 0, .string ⟨#[]⟩, .int .i64 0, .int .i64 0, .int .i64 0, .slice Option.none 0 0, .slice Option.none 0 0, .int .i64 0, .int .i64 0, .int .i64 0, .int .i64 0]
set_option maxRecDepth 100000 in
theorem results_d (tmps : Array Value) (w : World) (k : Nat) (b : Bool) (hp : tmps.getD 2 undef = .pointer (some ⟨k, 0, Option.none⟩)) (hb : tmps.getD 3 undef = .bool b) (hc : Blk w k 46 [.int .i64 0, .string ⟨#[]⟩, .int .i64 0, .int .i64 0, .int .i64 0, .slice Option.none 0 0, .slice Option.none 0 0, .int .i64 0, .int .i64 0, .int .i64 0, .int .i64 0]) :
    (results Try.f85 tmps).run Try.prog w = .ok (.tuple #[resultZ, .bool b]) w := by
  have hp' : tmps[2]?.getD undef = .pointer (some ⟨k, 0, Option.none⟩) := by simpa using hp
  have hb' : tmps[3]?.getD undef = .bool b := by simpa using hb
  have c0 := hc.cell 0 _ rfl
  have c1 := hc.cell 1 _ rfl
  have c2 := hc.cell 2 _ rfl
  have c3 := hc.cell 3 _ rfl
  have c4 := hc.cell 4 _ rfl
  have c5 := hc.cell 5 _ rfl
  have c6 := hc.cell 6 _ rfl
  have c7 := hc.cell 7 _ rfl
  have c8 := hc.cell 8 _ rfl
  have c9 := hc.cell 9 _ rfl
  have c10 := hc.cell 10 _ rfl
  simp [results, Try.results85, go_sem, hp', hb', c0, c1, c2, c3, c4, c5, c6, c7, c8, c9, c10, asAddr, resultZ]

set_option maxRecDepth 100000 in
set_option maxHeartbeats 1600000 in
theorem done_any (g : Nat) (client op round need k0 k1 k2 k3 : Int) (v : Value) (wr : Bool) (bl : Value) (size : Int) (tg : Nat) (w : World) (hB : Blk w g 109 (mcells client op round need k0 k1 k2 k3 v wr bl size (.iface 162 (.agg #[.pointer (some ⟨tg, 0, Option.none⟩)])))) :
    Calls Try.prog 85 #[.pointer (some ⟨g, 0, Option.none⟩)] w fun e w' => e = .returned (.tuple #[resultZ, .bool false]) ∧ Keeps None w w' := by
  have hZ := Blk.new w 46 [.int .i64 0, .string ⟨#[]⟩, .int .i64 0, .int .i64 0, .int .i64 0, .slice Option.none 0 0, .slice Option.none 0 0, .int .i64 0, .int .i64 0, .int .i64 0, .int .i64 0]
  have hB1 := hB.alloc (.cells #[.int .i64 0, .string ⟨#[]⟩, .int .i64 0, .int .i64 0, .int .i64 0, .slice Option.none 0 0, .slice Option.none 0 0, .int .i64 0, .int .i64 0, .int .i64 0, .int .i64 0] 46)
  have c12 := hB1.cell 12 _ rfl
  have hta : ∀ w, (Instr.typeAssert (.iface 162 (.agg #[.pointer (some ⟨tg, 0, Option.none⟩)])) 107 165 true).run Try.prog w = .ok (.tuple #[.agg #[.int .i64 0, .string ⟨#[]⟩, .int .i64 0, .int .i64 0, .int .i64 0, .slice Option.none 0 0, .slice Option.none 0 0, .int .i64 0, .int .i64 0, .int .i64 0, .int .i64 0], .bool false]) w := fun w => by kernel_rfl
  go_enter Try.func85, Try.ntmps85
  go_wp2_with fail
  have hF := hZ.alloc (.cells #[.int .i64 0, .string ⟨#[]⟩, .int .i64 0, .int .i64 0, .int .i64 0, .slice Option.none 0 0, .slice Option.none 0 0, .int .i64 0, .int .i64 0, .int .i64 0, .int .i64 0] 165)
  exact ⟨rfl, _, results_d _ _ w.heap.size false rfl rfl hF, rfl, ((Keeps.refl None w).alloc _).alloc _⟩
end Go.Proofs.Ytcihfjfbcfgidaa
