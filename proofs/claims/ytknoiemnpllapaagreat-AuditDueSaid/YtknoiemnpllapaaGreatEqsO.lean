/-
  What functions of this program compute, as equations about the evaluator. No condition but those stated.
-/
import Derived.Test.YtknoiemnpllapaaGreatEqsM

set_option linter.all false
section
namespace Go.Proofs.YtknoiemnpllapaaGreat
open Go Go.PS
theorem c38b : (E38.map fun x => (x.1, x.2.1.take 2, (x.2.1.drop 3).take 8, x.2.1.length, x.2.2)) = some ((.tup [(.ptr (.heap 1) none 0), (.sl .sh 0 []), (.int Go.IntKind.i64 (0))]), [nd0, nd32], [nd4, nd5, nd6, nd7, nd8, nd9, nd6, nd10], 28, true) := by kernel_rfl
end Go.Proofs.YtknoiemnpllapaaGreat
end
