/-
  What functions of this program compute, as equations about the evaluator. No condition but those stated.
-/
import Derived.Test.YtehemoachikpgaaFacts
set_option linter.all false
section
namespace Go.Proofs.Ytehemoachikpgaa
open Go Go.PS
/-- A nil table has no rows, whatever is asked. -/
theorem nilAll (a b c : Int) : fstR (evalCall Try.prog hints 5030 3 [.int .i64 a, .int .i64 b, .int .i64 c] []) = some (.bool true) := by kernel_rfl
end Go.Proofs.Ytehemoachikpgaa
end
