/- Equality of structs of numbers, as one step. -/
import Derived.Test.YtcihfjfbcfgidaaBase
import Derived.Laws.StructEq
namespace Go.Proofs.Ytcihfjfbcfgidaa
open Go.RowKit

set_option maxRecDepth 100000 in
theorem eql_stamp (a b c d : Int) (w : World) : (binOp .eql 23 (.agg #[.int .i64 a, .int .i64 b]) (.agg #[.int .i64 c, .int .i64 d])).run Try.prog w = .ok (.bool (decide (a = c ∧ b = d))) w := by
  by_cases h1 : a = c
  · obtain ⟨t1, t2⟩ := test_eq h1
    by_cases h2 : b = d
    · obtain ⟨t3, t4⟩ := test_eq h2
      rw [show decide (a = c ∧ b = d) = true from by simp [h1, h2]]
      clear h1 h2
      go_simp
    · obtain ⟨t3, t4⟩ := test_ne h2
      rw [show decide (a = c ∧ b = d) = false from by simp [h2]]
      clear h1 h2
      go_simp
  · obtain ⟨t1, t2⟩ := test_ne h1
    rw [show decide (a = c ∧ b = d) = false from by simp [h1]]
    clear h1
    go_simp
theorem neq_stamp (a b c d : Int) (w : World) : (binOp .neq 23 (.agg #[.int .i64 a, .int .i64 b]) (.agg #[.int .i64 c, .int .i64 d])).run Try.prog w = .ok (.bool (!decide (a = c ∧ b = d))) w := by
  by_cases h1 : a = c
  · obtain ⟨t1, t2⟩ := test_eq h1
    by_cases h2 : b = d
    · obtain ⟨t3, t4⟩ := test_eq h2
      rw [show decide (a = c ∧ b = d) = true from by simp [h1, h2]]
      clear h1 h2
      go_simp
    · obtain ⟨t3, t4⟩ := test_ne h2
      rw [show decide (a = c ∧ b = d) = false from by simp [h2]]
      clear h1 h2
      go_simp
  · obtain ⟨t1, t2⟩ := test_ne h1
    rw [show decide (a = c ∧ b = d) = false from by simp [h1]]
    clear h1
    go_simp
end Go.Proofs.Ytcihfjfbcfgidaa
