/-
  What functions of this program compute, as equations about the evaluator. No condition but those stated.
-/
import Derived.Test.YtaiiboplopljoaaGreatEqsY
import Derived.Test.YtaiiboplopljoaaGreatEqsZ

set_option linter.all false
section
namespace Go.Proofs.YtaiiboplopljoaaGreat
open Go Go.PS
set_option maxHeartbeats 2000000 in
theorem f3long (n : Nat) (s : List UInt8) (l : List (List UInt8)) (o x y : Int) (hp : Heap) (hc : 600 < s.length ∨ 10 < l.length) : ∃ H d, evalCall Tryz.prog hints (n + 30001) 3 [.str s, .sl .sh l.length (l.map PV.str), .int .i64 o, .int .i64 x, .int .i64 y] hp = some (.bool true, H, d) := by
  obtain ⟨H, e4⟩ := live53 (n + 29800) hp
  rw [show n + 29800 + 200 = n + 30000 by omega] at e4
  rw [evalCall_at _ _ _ hh3 rfl Tryz.func3 rfl (Nat.le_of_ble_eq_true rfl) rfl]
  refine ⟨hp, false, ?_⟩
  by_cases c : 600 < s.length
  · have c1 : (600 : Int) < s.length := by omega
    by_cases c2 : 10 < l.length
    · have c3 : (10 : Int) < l.length := by omega
      simp [e4, c, c1, c2, c3]
    · have c3 : ¬ (10 : Int) < l.length := by omega
      simp [e4, c, c1, c2, c3]
  · have c1 : ¬ (600 : Int) < s.length := by omega
    have c2 : 10 < l.length := by omega
    have c3 : (10 : Int) < l.length := by omega
    simp [e4, c, c1, c2, c3]
set_option maxRecDepth 100000 in
set_option maxHeartbeats 4000000 in
theorem f3A (n : Nat) (s : List UInt8) (l : List (List UInt8)) (o x y : Int) (hp : Heap) (hs : s.length ≤ 600) (hl : l.length ≤ 10) (c0 : (parseI s).1 ≠ 0) : ∃ H d, evalCall Tryz.prog hints (n + 30001) 3 [.str s, .sl .sh l.length (l.map PV.str), .int .i64 o, .int .i64 x, .int .i64 y] hp = some (.bool true, H, d) := by
  obtain ⟨H1, d1, e5⟩ := f5 (n + 9999) s o hp (by omega)
  rw [show n + 9999 + 20001 = n + 30000 by omega, img_pick] at e5
  unfold pickR at e5
  rw [if_neg c0] at e5
  simp only [if_neg c0] at e5
  cases d1 with
  | true => exact f3At n s l o x y hp hs hl c0 H1 e5
  | false => exact f3Af n s l o x y hp hs hl c0 H1 e5
end Go.Proofs.YtaiiboplopljoaaGreat
end
