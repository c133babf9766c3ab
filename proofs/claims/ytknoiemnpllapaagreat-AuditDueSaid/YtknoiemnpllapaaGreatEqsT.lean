/-
  What functions of this program compute, as equations about the evaluator. No condition but those stated.
-/
import Derived.Test.YtknoiemnpllapaaGreatEqsM

set_option linter.all false
section
namespace Go.Proofs.YtknoiemnpllapaaGreat
open Go Go.PS
theorem c39_0 : evalCall Tryz.prog hints0 200 39 [(.ptr (.heap 1) none 0)] hp13 = some ((.ptr (.heap 17) none 0), hp13, false) := by kernel_rfl
theorem c22_0 : evalCall Tryz.prog hints0 200 22 [(.ptr (.heap 17) none 0)] hp13 = some ((.int Go.IntKind.i64 (1)), hp13, false) := by kernel_rfl
theorem c22_1 : evalCall Tryz.prog hints0 200 22 [(.ptr (.heap 17) none 0)] hp14 = some ((.int Go.IntKind.i64 (1)), hp14, false) := by kernel_rfl
theorem c42_0 : evalCall Tryz.prog hints0 200 42 [(.ptr (.heap 1) none 0), (.int Go.IntKind.i64 (1))] hp14 = some ((.str tb1), hp14, false) := by kernel_rfl
theorem c43_0 : evalCall Tryz.prog hints0 200 43 [(.ptr (.heap 1) none 0)] hp14 = some ((.int Go.IntKind.i64 (0)), hp14, false) := by kernel_rfl
theorem c42_1 : evalCall Tryz.prog hints0 200 42 [(.ptr (.heap 1) none 0), (.int Go.IntKind.i64 (0))] hp15 = some ((.str []), hp15, false) := by kernel_rfl
theorem c11_0 : evalCall Tryz.prog hints0 200 11 [(.ptr (.heap 17) none 0), (.int Go.IntKind.i64 (0)), (.int Go.IntKind.i64 (0))] hp16 = some ((.agg [(.int Go.IntKind.i64 (0)), (.int Go.IntKind.i64 (0)), (.int Go.IntKind.i64 (0)), (.int Go.IntKind.i64 (0)), (.bool false), (.bool false), (.bool false)]), hp16, false) := by kernel_rfl
theorem c42_2 : evalCall Tryz.prog hints0 200 42 [(.ptr (.heap 1) none 0), (.int Go.IntKind.i64 (1))] hp16 = some ((.str tb1), hp16, false) := by kernel_rfl
theorem c11_1 : evalCall Tryz.prog hints0 200 11 [(.ptr (.heap 17) none 0), (.int Go.IntKind.i64 (0)), (.int Go.IntKind.i64 (1))] hp16 = some ((.agg [(.int Go.IntKind.i64 (0)), (.int Go.IntKind.i64 (1)), (.int Go.IntKind.i64 (0)), (.int Go.IntKind.i64 (0)), (.bool false), (.bool true), (.bool false)]), hp16, false) := by kernel_rfl
theorem c43_1 : evalCall Tryz.prog hints0 200 43 [(.ptr (.heap 1) none 0)] hp16 = some ((.int Go.IntKind.i64 (1)), hp16, false) := by kernel_rfl
theorem c42_3 : evalCall Tryz.prog hints0 200 42 [(.ptr (.heap 1) none 0), (.int Go.IntKind.i64 (0))] hp17 = some ((.str []), hp17, false) := by kernel_rfl
theorem c11_2 : evalCall Tryz.prog hints0 200 11 [(.ptr (.heap 17) none 0), (.int Go.IntKind.i64 (1)), (.int Go.IntKind.i64 (0))] hp18 = some ((.agg [(.int Go.IntKind.i64 (1)), (.int Go.IntKind.i64 (0)), (.int Go.IntKind.i64 (0)), (.int Go.IntKind.i64 (0)), (.bool false), (.bool false), (.bool false)]), hp18, false) := by kernel_rfl
end Go.Proofs.YtknoiemnpllapaaGreat
end

section
namespace Go.Proofs.YtknoiemnpllapaaGreat
open Go Go.PS
theorem c42_4 : evalCall Tryz.prog hints0 200 42 [(.ptr (.heap 1) none 0), (.int Go.IntKind.i64 (1))] hp18 = some ((.str tb1), hp18, false) := by kernel_rfl
theorem c11_3 : evalCall Tryz.prog hints0 200 11 [(.ptr (.heap 17) none 0), (.int Go.IntKind.i64 (1)), (.int Go.IntKind.i64 (1))] hp18 = some ((.agg [(.int Go.IntKind.i64 (1)), (.int Go.IntKind.i64 (1)), (.int Go.IntKind.i64 (0)), (.int Go.IntKind.i64 (0)), (.bool false), (.bool false), (.bool false)]), hp18, false) := by kernel_rfl
theorem c43_2 : evalCall Tryz.prog hints0 200 43 [(.ptr (.heap 1) none 0)] hp18 = some ((.int Go.IntKind.i64 (2)), hp18, false) := by kernel_rfl
theorem c42_5 : evalCall Tryz.prog hints0 200 42 [(.ptr (.heap 1) none 0), (.int Go.IntKind.i64 (0))] hp19 = some ((.str []), hp19, false) := by kernel_rfl
theorem c11_4 : evalCall Tryz.prog hints0 200 11 [(.ptr (.heap 17) none 0), (.int Go.IntKind.i64 (2)), (.int Go.IntKind.i64 (0))] hp20 = some ((.agg [(.int Go.IntKind.i64 (2)), (.int Go.IntKind.i64 (0)), (.int Go.IntKind.i64 (0)), (.int Go.IntKind.i64 (0)), (.bool false), (.bool false), (.bool false)]), hp20, false) := by kernel_rfl
theorem c42_6 : evalCall Tryz.prog hints0 200 42 [(.ptr (.heap 1) none 0), (.int Go.IntKind.i64 (1))] hp20 = some ((.str tb1), hp20, false) := by kernel_rfl
theorem c11_5 : evalCall Tryz.prog hints0 200 11 [(.ptr (.heap 17) none 0), (.int Go.IntKind.i64 (2)), (.int Go.IntKind.i64 (1))] hp20 = some ((.agg [(.int Go.IntKind.i64 (2)), (.int Go.IntKind.i64 (1)), (.int Go.IntKind.i64 (0)), (.int Go.IntKind.i64 (0)), (.bool false), (.bool false), (.bool false)]), hp20, false) := by kernel_rfl
theorem c43_3 : evalCall Tryz.prog hints0 200 43 [(.ptr (.heap 1) none 0)] hp20 = some ((.int Go.IntKind.i64 (3)), hp20, false) := by kernel_rfl
theorem c42_7 : evalCall Tryz.prog hints0 200 42 [(.ptr (.heap 1) none 0), (.int Go.IntKind.i64 (0))] hp21 = some ((.str []), hp21, false) := by kernel_rfl
theorem c11_6 : evalCall Tryz.prog hints0 200 11 [(.ptr (.heap 17) none 0), (.int Go.IntKind.i64 (3)), (.int Go.IntKind.i64 (0))] hp22 = some ((.agg [(.int Go.IntKind.i64 (3)), (.int Go.IntKind.i64 (0)), (.int Go.IntKind.i64 (0)), (.int Go.IntKind.i64 (0)), (.bool false), (.bool false), (.bool false)]), hp22, false) := by kernel_rfl
theorem c42_8 : evalCall Tryz.prog hints0 200 42 [(.ptr (.heap 1) none 0), (.int Go.IntKind.i64 (1))] hp22 = some ((.str tb1), hp22, false) := by kernel_rfl
theorem c11_7 : evalCall Tryz.prog hints0 200 11 [(.ptr (.heap 17) none 0), (.int Go.IntKind.i64 (3)), (.int Go.IntKind.i64 (1))] hp22 = some ((.agg [(.int Go.IntKind.i64 (3)), (.int Go.IntKind.i64 (1)), (.int Go.IntKind.i64 (0)), (.int Go.IntKind.i64 (0)), (.bool false), (.bool false), (.bool false)]), hp22, false) := by kernel_rfl
end Go.Proofs.YtknoiemnpllapaaGreat
end

section
namespace Go.Proofs.YtknoiemnpllapaaGreat
open Go Go.PS
theorem c43_4 : evalCall Tryz.prog hints0 200 43 [(.ptr (.heap 1) none 0)] hp22 = some ((.int Go.IntKind.i64 (4)), hp22, false) := by kernel_rfl
theorem c42_9 : evalCall Tryz.prog hints0 200 42 [(.ptr (.heap 1) none 0), (.int Go.IntKind.i64 (0))] hp23 = some ((.str []), hp23, false) := by kernel_rfl
theorem c11_8 : evalCall Tryz.prog hints0 200 11 [(.ptr (.heap 17) none 0), (.int Go.IntKind.i64 (4)), (.int Go.IntKind.i64 (0))] hp24 = some ((.agg [(.int Go.IntKind.i64 (4)), (.int Go.IntKind.i64 (0)), (.int Go.IntKind.i64 (0)), (.int Go.IntKind.i64 (0)), (.bool false), (.bool false), (.bool false)]), hp24, false) := by kernel_rfl
theorem c42_10 : evalCall Tryz.prog hints0 200 42 [(.ptr (.heap 1) none 0), (.int Go.IntKind.i64 (1))] hp24 = some ((.str tb1), hp24, false) := by kernel_rfl
theorem c11_9 : evalCall Tryz.prog hints0 200 11 [(.ptr (.heap 17) none 0), (.int Go.IntKind.i64 (4)), (.int Go.IntKind.i64 (1))] hp24 = some ((.agg [(.int Go.IntKind.i64 (4)), (.int Go.IntKind.i64 (1)), (.int Go.IntKind.i64 (0)), (.int Go.IntKind.i64 (0)), (.bool true), (.bool false), (.bool true)]), hp24, false) := by kernel_rfl
theorem c43_5 : evalCall Tryz.prog hints0 200 43 [(.ptr (.heap 1) none 0)] hp24 = some ((.int Go.IntKind.i64 (5)), hp24, false) := by kernel_rfl
theorem c42_11 : evalCall Tryz.prog hints0 200 42 [(.ptr (.heap 1) none 0), (.int Go.IntKind.i64 (0))] hp25 = some ((.str []), hp25, false) := by kernel_rfl
theorem c11_10 : evalCall Tryz.prog hints0 200 11 [(.ptr (.heap 17) none 0), (.int Go.IntKind.i64 (5)), (.int Go.IntKind.i64 (0))] hp26 = some ((.agg [(.int Go.IntKind.i64 (5)), (.int Go.IntKind.i64 (0)), (.int Go.IntKind.i64 (0)), (.int Go.IntKind.i64 (0)), (.bool false), (.bool false), (.bool false)]), hp26, false) := by kernel_rfl
theorem c42_12 : evalCall Tryz.prog hints0 200 42 [(.ptr (.heap 1) none 0), (.int Go.IntKind.i64 (1))] hp26 = some ((.str tb2), hp26, false) := by kernel_rfl
theorem c11_11 : evalCall Tryz.prog hints0 200 11 [(.ptr (.heap 17) none 0), (.int Go.IntKind.i64 (5)), (.int Go.IntKind.i64 (1))] hp26 = some ((.agg [(.int Go.IntKind.i64 (5)), (.int Go.IntKind.i64 (1)), (.int Go.IntKind.i64 (0)), (.int Go.IntKind.i64 (0)), (.bool false), (.bool false), (.bool true)]), hp26, false) := by kernel_rfl
theorem c43_6 : evalCall Tryz.prog hints0 200 43 [(.ptr (.heap 1) none 0)] hp26 = some ((.int Go.IntKind.i64 (6)), hp26, false) := by kernel_rfl
theorem c42_13 : evalCall Tryz.prog hints0 200 42 [(.ptr (.heap 1) none 0), (.int Go.IntKind.i64 (0))] hp27 = some ((.str []), hp27, false) := by kernel_rfl
end Go.Proofs.YtknoiemnpllapaaGreat
end

section
namespace Go.Proofs.YtknoiemnpllapaaGreat
open Go Go.PS
theorem c11_12 : evalCall Tryz.prog hints0 200 11 [(.ptr (.heap 17) none 0), (.int Go.IntKind.i64 (6)), (.int Go.IntKind.i64 (0))] hp28 = some ((.agg [(.int Go.IntKind.i64 (6)), (.int Go.IntKind.i64 (0)), (.int Go.IntKind.i64 (0)), (.int Go.IntKind.i64 (0)), (.bool false), (.bool false), (.bool false)]), hp28, false) := by kernel_rfl
theorem c42_14 : evalCall Tryz.prog hints0 200 42 [(.ptr (.heap 1) none 0), (.int Go.IntKind.i64 (1))] hp28 = some ((.str tb2), hp28, false) := by kernel_rfl
theorem c11_13 : evalCall Tryz.prog hints0 200 11 [(.ptr (.heap 17) none 0), (.int Go.IntKind.i64 (6)), (.int Go.IntKind.i64 (1))] hp28 = some ((.agg [(.int Go.IntKind.i64 (6)), (.int Go.IntKind.i64 (1)), (.int Go.IntKind.i64 (0)), (.int Go.IntKind.i64 (0)), (.bool false), (.bool false), (.bool true)]), hp28, false) := by kernel_rfl
theorem c43_7 : evalCall Tryz.prog hints0 200 43 [(.ptr (.heap 1) none 0)] hp28 = some ((.int Go.IntKind.i64 (7)), hp28, false) := by kernel_rfl
theorem c42_15 : evalCall Tryz.prog hints0 200 42 [(.ptr (.heap 1) none 0), (.int Go.IntKind.i64 (0))] hp29 = some ((.str []), hp29, false) := by kernel_rfl
theorem c11_14 : evalCall Tryz.prog hints0 200 11 [(.ptr (.heap 17) none 0), (.int Go.IntKind.i64 (7)), (.int Go.IntKind.i64 (0))] hp30 = some ((.agg [(.int Go.IntKind.i64 (7)), (.int Go.IntKind.i64 (0)), (.int Go.IntKind.i64 (0)), (.int Go.IntKind.i64 (0)), (.bool false), (.bool false), (.bool false)]), hp30, false) := by kernel_rfl
theorem c42_16 : evalCall Tryz.prog hints0 200 42 [(.ptr (.heap 1) none 0), (.int Go.IntKind.i64 (1))] hp30 = some ((.str tb2), hp30, false) := by kernel_rfl
theorem c11_15 : evalCall Tryz.prog hints0 200 11 [(.ptr (.heap 17) none 0), (.int Go.IntKind.i64 (7)), (.int Go.IntKind.i64 (1))] hp30 = some ((.agg [(.int Go.IntKind.i64 (7)), (.int Go.IntKind.i64 (1)), (.int Go.IntKind.i64 (0)), (.int Go.IntKind.i64 (0)), (.bool true), (.bool false), (.bool true)]), hp30, false) := by kernel_rfl
theorem c43_8 : evalCall Tryz.prog hints0 200 43 [(.ptr (.heap 1) none 0)] hp30 = some ((.int Go.IntKind.i64 (8)), hp30, false) := by kernel_rfl
theorem c42_17 : evalCall Tryz.prog hints0 200 42 [(.ptr (.heap 1) none 0), (.int Go.IntKind.i64 (0))] hp31 = some ((.str []), hp31, false) := by kernel_rfl
theorem c11_16 : evalCall Tryz.prog hints0 200 11 [(.ptr (.heap 17) none 0), (.int Go.IntKind.i64 (8)), (.int Go.IntKind.i64 (0))] hp32 = some ((.agg [(.int Go.IntKind.i64 (8)), (.int Go.IntKind.i64 (0)), (.int Go.IntKind.i64 (0)), (.int Go.IntKind.i64 (0)), (.bool false), (.bool false), (.bool false)]), hp32, false) := by kernel_rfl
theorem c42_18 : evalCall Tryz.prog hints0 200 42 [(.ptr (.heap 1) none 0), (.int Go.IntKind.i64 (1))] hp32 = some ((.str tb2), hp32, false) := by kernel_rfl
end Go.Proofs.YtknoiemnpllapaaGreat
end

section
namespace Go.Proofs.YtknoiemnpllapaaGreat
open Go Go.PS
theorem c11_17 : evalCall Tryz.prog hints0 200 11 [(.ptr (.heap 17) none 0), (.int Go.IntKind.i64 (8)), (.int Go.IntKind.i64 (1))] hp32 = some ((.agg [(.int Go.IntKind.i64 (8)), (.int Go.IntKind.i64 (1)), (.int Go.IntKind.i64 (0)), (.int Go.IntKind.i64 (0)), (.bool true), (.bool false), (.bool true)]), hp32, false) := by kernel_rfl
end Go.Proofs.YtknoiemnpllapaaGreat
end
