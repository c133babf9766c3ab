/-
  What functions of this program compute, as equations about the evaluator. No condition but those stated.
-/
import Derived.Test.YtknoiemnpllapaaGreatEqsM

set_option linter.all false
section
namespace Go.Proofs.YtknoiemnpllapaaGreat
open Go Go.PS
theorem c38c : (E38.map fun x => (x.2.1.drop 12)) = some ([nd12, nd13, nd14, nd15, nd16, nd18, nd19, nd20, nd13, nd21, nd23, nd24, nd25, nd26, nd28, nd31]) := by kernel_rfl
end Go.Proofs.YtknoiemnpllapaaGreat
end
