/-
  What functions of this program compute, as equations about the evaluator. No condition but those stated.
-/
import Derived.Test.YtknoiemnpllapaaGreatEqsM

set_option linter.all false
section
namespace Go.Proofs.YtknoiemnpllapaaGreat
open Go Go.PS
theorem c38a : (E38.bind fun x => x.2.1[2]?) = some nd30 := by kernel_rfl
end Go.Proofs.YtknoiemnpllapaaGreat
end
