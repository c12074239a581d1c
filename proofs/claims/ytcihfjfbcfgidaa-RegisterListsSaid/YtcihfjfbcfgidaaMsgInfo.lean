/- A message's cells. -/
import Derived.Test.YtcihfjfbcfgidaaRegDone
namespace Go.Proofs.Ytcihfjfbcfgidaa
open Go.RowKit
/-- A message's cells: kind, from, to, op, round, key, stamp, held, block, command (9), bucket (3), commands, more. -/
def msgZ : Array Value := #[.int .i64 0, .bool false, .int .i64 0, .bool false, .int .i64 0, .int .i64 0, .int .i64 0, .int .i64 0, .int .i64 0, .int .i64 0, .int .i64 0, .int .i64 0, .int .i64 0, .int .i64 0, .int .i64 0, .slice none 0 0,
  .int .i64 0, .int .i64 0, .int .i64 0, .string ⟨#[]⟩, .int .i64 0, .int .i64 0, .int .i64 0, .int .i64 0, .int .i64 0, .int .i64 0, .slice none 0 0, .slice none 0 0, .slice none 0 0, .bool false]
theorem infoMsg : (Try.prog.info? 66).map (fun i => (i.zero, i.size, i.bytes)) = some (some (.agg msgZ), 30, 312) := by kernel_rfl
end Go.Proofs.Ytcihfjfbcfgidaa
