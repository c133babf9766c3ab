/-
  What functions of this program compute, as equations about the evaluator. No condition but those stated.
-/
import Derived.Test.YtknoiemnpllapaaGreatEqsM

set_option linter.all false
section
namespace Go.Proofs.YtknoiemnpllapaaGreat
open Go Go.PS
theorem c44_4 : evalCall Tryz.prog hints0 200 44 [(.ptr (.heap 1) none 0), (.sl .sh 0 [])] hp22 = some ((.int Go.IntKind.i64 (0)), hp23, true) := by kernel_rfl
end Go.Proofs.YtknoiemnpllapaaGreat
end

section
namespace Go.Proofs.YtknoiemnpllapaaGreat
open Go Go.PS
theorem c44_5 : evalCall Tryz.prog hints0 200 44 [(.ptr (.heap 1) none 0), (.sl .sh 0 [])] hp24 = some ((.int Go.IntKind.i64 (0)), hp25, true) := by kernel_rfl
end Go.Proofs.YtknoiemnpllapaaGreat
end

section
namespace Go.Proofs.YtknoiemnpllapaaGreat
open Go Go.PS
theorem c45_11 : evalCall Tryz.prog hints0 200 45 [(.sl (.mu 7) 0 []), (.agg [(.int Go.IntKind.i64 (5)), (.int Go.IntKind.i64 (1)), (.int Go.IntKind.i64 (0)), (.int Go.IntKind.i64 (0)), (.bool false), (.bool false), (.bool true)]), (.str tb1), (.str tb2)] hp26 = some ((.sl (.mu 7) 1 [(.int Go.IntKind.i64 (5)), (.int Go.IntKind.i64 (1)), (.int Go.IntKind.i64 (60)), (.int Go.IntKind.i64 (61)), (.bool false), (.bool false), (.bool true)]), hp26, false) := by kernel_rfl
end Go.Proofs.YtknoiemnpllapaaGreat
end

section
namespace Go.Proofs.YtknoiemnpllapaaGreat
open Go Go.PS
theorem c44_6 : evalCall Tryz.prog hints0 200 44 [(.ptr (.heap 1) none 0), (.sl .sh 0 [])] hp26 = some ((.int Go.IntKind.i64 (0)), hp27, true) := by kernel_rfl
end Go.Proofs.YtknoiemnpllapaaGreat
end
