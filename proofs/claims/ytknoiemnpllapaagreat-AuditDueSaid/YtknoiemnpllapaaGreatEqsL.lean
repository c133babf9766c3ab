/-
  What functions of this program compute, as equations about the evaluator. No condition but those stated.
-/
import Derived.Test.YtknoiemnpllapaaGreatFacts

set_option linter.all false
section
namespace Go.Proofs.YtknoiemnpllapaaGreat
open Go Go.PS
@[simp] theorem guard123 : Tryz.prog.eqGuardType Tryz.prog.depth 123 = false := by kernel_rfl
@[simp] theorem guard63 : Tryz.prog.eqGuardType Tryz.prog.depth 63 = false := by kernel_rfl
@[simp] theorem guard52 : Tryz.prog.eqGuardType Tryz.prog.depth 52 = false := by kernel_rfl
theorem eqi3 (d : Nat) (a b : Int) : eqT Tryz.prog (d + 1) 3 [.int .i64 a] [.int .i64 b] = some (a == b) := by simp only [eqT, Tryz.underlying3]; rfl
end Go.Proofs.YtknoiemnpllapaaGreat
end

section
namespace Go.Proofs.YtknoiemnpllapaaGreat
open Go Go.PS
theorem eqb4 (d : Nat) (a b : Bool) : eqT Tryz.prog (d + 1) 4 [.bool a] [.bool b] = some (a == b) := by simp only [eqT, Tryz.underlying4]
theorem stood33 : Tryz.prog.stoodInHeld 33 = false := by kernel_rfl
@[simp] theorem guard33 : Tryz.prog.eqGuardType Tryz.prog.depth 33 = false := by kernel_rfl
theorem eqT33 (a b c d a' b' c' d' : Int) (p q r p' q' r' : Bool) : eqT Tryz.prog 20 33 [.int .i64 a, .int .i64 b, .int .i64 c, .int .i64 d, .bool p, .bool q, .bool r] [.int .i64 a', .int .i64 b', .int .i64 c', .int .i64 d', .bool p', .bool q', .bool r'] = some (a == a' && (b == b' && (c == c' && (d == d' && (p == p' && (q == q' && r == r')))))) := by
  show eqT Tryz.prog (18 + 1 + 1) 33 _ _ = _
  unfold eqT
  rw [Tryz.underlying33]
  simp only [stood33]
  simp [eqi3, eqb4, andL]
theorem stood35 : Tryz.prog.stoodInHeld 35 = false := by kernel_rfl
@[simp] theorem guard35 : Tryz.prog.eqGuardType Tryz.prog.depth 35 = false := by kernel_rfl
theorem eqT35 (a b c d a' b' c' d' : Int) (p q r p' q' r' : Bool) : eqT Tryz.prog 20 35 [.int .i64 a, .int .i64 b, .int .i64 c, .int .i64 d, .bool p, .bool q, .bool r] [.int .i64 a', .int .i64 b', .int .i64 c', .int .i64 d', .bool p', .bool q', .bool r'] = some (a == a' && (b == b' && (c == c' && (d == d' && (p == p' && (q == q' && r == r')))))) := by
  show eqT Tryz.prog (18 + 1 + 1) 35 _ _ = _
  unfold eqT
  rw [Tryz.underlying35]
  simp only [stood35]
  simp [eqi3, eqb4, andL]
end Go.Proofs.YtknoiemnpllapaaGreat
end
