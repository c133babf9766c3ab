/-
  What functions of this program compute, as equations about the evaluator. No condition but those stated.
-/
import Derived.Test.YtknoiemnpllapaaGreatEqsM

set_option linter.all false
section
namespace Go.Proofs.YtknoiemnpllapaaGreat
open Go Go.PS
theorem c44_7 : evalCall Tryz.prog hints0 200 44 [(.ptr (.heap 1) none 0), (.sl .sh 0 [])] hp28 = some ((.int Go.IntKind.i64 (0)), hp29, true) := by kernel_rfl
end Go.Proofs.YtknoiemnpllapaaGreat
end

section
namespace Go.Proofs.YtknoiemnpllapaaGreat
open Go Go.PS
theorem c44_8 : evalCall Tryz.prog hints0 200 44 [(.ptr (.heap 1) none 0), (.sl .sh 0 [])] hp30 = some ((.int Go.IntKind.i64 (0)), hp31, true) := by kernel_rfl
end Go.Proofs.YtknoiemnpllapaaGreat
end

section
namespace Go.Proofs.YtknoiemnpllapaaGreat
open Go Go.PS
theorem c15_0 : evalCall Tryz.prog hints0 201 15 [(.agg [(.int Go.IntKind.i64 (20)), (.sl .sh 2 [(.int Go.IntKind.i64 (0)), (.int Go.IntKind.i64 (0)), (.int Go.IntKind.i64 (4)), (.int Go.IntKind.i64 (1)), (.int Go.IntKind.i64 (4)), (.int Go.IntKind.i64 (20))]), (.sl .sh 1 [(.int Go.IntKind.i64 (1)), (.int Go.IntKind.i64 (4)), (.int Go.IntKind.i64 (12))]), (.sl .sh 1 [(.int Go.IntKind.i64 (128)), (.int Go.IntKind.i64 (64)), (.int Go.IntKind.i64 (1)), (.int Go.IntKind.i64 (0)), (.int Go.IntKind.i64 (2)), (.int Go.IntKind.i64 (2)), (.int Go.IntKind.i64 (0)), (.int Go.IntKind.i64 (6)), (.int Go.IntKind.i64 (0)), (.int Go.IntKind.i64 (0))])])] [] = some ((.tup [(.str [67, 1, 20, 0, 2, 0, 0, 0, 4, 0, 1, 4, 0, 20, 0, 1, 1, 4, 0, 12, 0, 1, 128, 0, 64, 0, 1, 0, 0, 2, 2, 0, 6, 0, 0, 0, 186, 46]), (.int Go.IntKind.i64 (0))]), [], false) := by kernel_rfl
end Go.Proofs.YtknoiemnpllapaaGreat
end

section
namespace Go.Proofs.YtknoiemnpllapaaGreat
open Go Go.PS
theorem c9_0 : evalCall Tryz.prog hints0 201 9 [(.sl .sh 1 [(.int Go.IntKind.i64 (5)), (.int Go.IntKind.i64 (1)), (.int Go.IntKind.i64 (60)), (.int Go.IntKind.i64 (61)), (.bool false), (.bool false), (.bool true)]), (.agg [(.int Go.IntKind.i64 (20)), (.sl .sh 2 [(.int Go.IntKind.i64 (0)), (.int Go.IntKind.i64 (0)), (.int Go.IntKind.i64 (4)), (.int Go.IntKind.i64 (1)), (.int Go.IntKind.i64 (4)), (.int Go.IntKind.i64 (20))]), (.sl .sh 1 [(.int Go.IntKind.i64 (1)), (.int Go.IntKind.i64 (4)), (.int Go.IntKind.i64 (12))]), (.sl .sh 1 [(.int Go.IntKind.i64 (128)), (.int Go.IntKind.i64 (64)), (.int Go.IntKind.i64 (1)), (.int Go.IntKind.i64 (0)), (.int Go.IntKind.i64 (2)), (.int Go.IntKind.i64 (2)), (.int Go.IntKind.i64 (0)), (.int Go.IntKind.i64 (6)), (.int Go.IntKind.i64 (0)), (.int Go.IntKind.i64 (0))])])] hp32 = some ((.sl (.mu 7) 0 []), hp32, false) := by kernel_rfl
end Go.Proofs.YtknoiemnpllapaaGreat
end

section
namespace Go.Proofs.YtknoiemnpllapaaGreat
open Go Go.PS
theorem c9_1 : evalCall Tryz.prog hints0 201 9 [(.sl .sh 1 [(.int Go.IntKind.i64 (0)), (.int Go.IntKind.i64 (0)), (.int Go.IntKind.i64 (0)), (.int Go.IntKind.i64 (0)), (.bool false), (.bool false), (.bool false)]), (.agg [(.int Go.IntKind.i64 (20)), (.sl .sh 2 [(.int Go.IntKind.i64 (0)), (.int Go.IntKind.i64 (0)), (.int Go.IntKind.i64 (4)), (.int Go.IntKind.i64 (1)), (.int Go.IntKind.i64 (4)), (.int Go.IntKind.i64 (20))]), (.sl .sh 1 [(.int Go.IntKind.i64 (1)), (.int Go.IntKind.i64 (4)), (.int Go.IntKind.i64 (12))]), (.sl .sh 1 [(.int Go.IntKind.i64 (128)), (.int Go.IntKind.i64 (64)), (.int Go.IntKind.i64 (1)), (.int Go.IntKind.i64 (0)), (.int Go.IntKind.i64 (2)), (.int Go.IntKind.i64 (2)), (.int Go.IntKind.i64 (0)), (.int Go.IntKind.i64 (6)), (.int Go.IntKind.i64 (0)), (.int Go.IntKind.i64 (0))])])] hp32 = some ((.sl (.mu 7) 1 [(.int Go.IntKind.i64 (0)), (.int Go.IntKind.i64 (0)), (.int Go.IntKind.i64 (0)), (.int Go.IntKind.i64 (0)), (.bool false), (.bool false), (.bool false)]), hp32, false) := by kernel_rfl
end Go.Proofs.YtknoiemnpllapaaGreat
end
