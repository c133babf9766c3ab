/-
  What functions of this program compute, as equations about the evaluator. No condition but those stated.
-/
import Derived.Test.YtknoiemnpllapaaGreatEqsB

set_option linter.all false
section
namespace Go.Proofs.YtknoiemnpllapaaGreat
open Go Go.PS
set_option maxHeartbeats 1000000 in
theorem f29g (n : Nat) (c : Cl) (hp : Heap) : evalCall Tryz.prog hints (n + 2) 29 [.agg c.cells] hp = some (.bool (!decide c.ok), hp, false) := by
  by_cases hk : c.ok
  · rw [f29 n c hp hk]; simp [hk]
  simp only [hk, decide_false, Bool.not_false]
  have e := fun hp => f67 n c.q hp
  rw [evalCall_at _ _ _ hh29 rfl Tryz.func29 rfl (Nat.le_of_ble_eq_true rfl) rfl]
  unfold Cl.ok at hk
  obtain ⟨base, size, q, at_, nn, pr, id, irq, hb, hn⟩ := c
  simp only [Cl.cells] at *
  have r := ring_le q
  by_cases g1 : size < 32
  · simp [g1]
  by_cases g2 : 1024 < size
  · simp [g1, g2]
  by_cases g3 : base < 128
  · simp [g1, g2, g3]
  have w1 := wrap_id (x := 16384 - size) (by omega)
  by_cases g4 : 16384 - size < base
  · simp [g1, g2, g3, g4, w1]
  by_cases g5 : ring q = 0
  · have g5' : (ring q == 0) = true := by simp [g5]
    simp [g1, g2, g3, g4, g5', w1, e]
  have g5' : (ring q == 0) = false := by simp [g5]
  by_cases g6 : at_ < 0
  · simp [g1, g2, g3, g4, g5', g6, w1, e]
  have w2 := wrap_id (x := size - ring q) (by omega)
  by_cases g7 : size - ring q < at_
  · simp [g1, g2, g3, g4, g5', g6, g7, w1, w2, e]
  by_cases g8 : nn < 1
  · simp [g1, g2, g3, g4, g5', g6, g7, g8, w1, w2, e]
  by_cases g9 : 16 < nn
  · simp [g1, g2, g3, g4, g5', g6, g7, g8, g9, w1, w2, e]
  by_cases g10 : pr < 0
  · simp [g1, g2, g3, g4, g5', g6, g7, g8, g9, g10, w1, w2, e]
  by_cases g11 : 16 < pr
  · simp [g1, g2, g3, g4, g5', g6, g7, g8, g9, g10, g11, w1, w2, e]
  by_cases g12 : id < 0
  · simp [g1, g2, g3, g4, g5', g6, g7, g8, g9, g10, g11, g12, w1, w2, e]
  by_cases g13 : 255 < id
  · simp [g1, g2, g3, g4, g5', g6, g7, g8, g9, g10, g11, g12, g13, w1, w2, e]
  by_cases g14 : irq < 0
  · simp [g1, g2, g3, g4, g5', g6, g7, g8, g9, g10, g11, g12, g13, g14, w1, w2, e]
  by_cases g15 : 255 < irq
  · simp [g1, g2, g3, g4, g5', g6, g7, g8, g9, g10, g11, g12, g13, g14, g15, w1, w2, e]
  by_cases g16 : hn < 0
  · simp [g1, g2, g3, g4, g5', g6, g7, g8, g9, g10, g11, g12, g13, g14, g15, g16, w1, w2, e]
  by_cases g17 : 64 < hn
  · simp [g1, g2, g3, g4, g5', g6, g7, g8, g9, g10, g11, g12, g13, g14, g15, g16, g17, w1, w2, e]
  by_cases g18 : hb < 0
  · simp [g1, g2, g3, g4, g5', g6, g7, g8, g9, g10, g11, g12, g13, g14, g15, g16, g17, g18, w1, w2, e]
  have w3 := wrap_id (x := 512 - hn) (by omega)
  by_cases g19 : 512 - hn < hb
  · simp [g1, g2, g3, g4, g5', g6, g7, g8, g9, g10, g11, g12, g13, g14, g15, g16, g17, g18, g19, w1, w2, w3, e]
  exact (hk ⟨by omega, by omega, by omega, by omega, g5, by omega, by omega, by omega, by omega, by omega, by omega, by omega, by omega, by omega, by omega, by omega, by omega, by omega, by omega⟩).elim
end Go.Proofs.YtknoiemnpllapaaGreat
end
