/-
  What functions of this program compute, as equations about the evaluator. No condition but those stated.
-/
import Derived.Test.YtaiiboplopljoaaGreatEqsJ

set_option linter.all false
section
namespace Go.Proofs.YtaiiboplopljoaaGreat
open Go Go.PS
set_option maxHeartbeats 2000000 in
theorem f103 (n : Nat) (x y : Cl) (hp : Heap) (hx : x.ok) (hy : y.ok) : evalCall Tryz.prog hints (n + 3) 103 [.agg x.cells, .agg y.cells] hp = some (.bool (shareC x y), hp, false) := by
  unfold Cl.ok at hx hy
  have e1 := fun hp => f118 (n + 1) x.base x.size hp (wrap_id (by omega))
  have e2 := fun hp => f118 (n + 1) y.base y.size hp (wrap_id (by omega))
  have e3 := fun hp => f118 (n + 1) x.hb x.hn hp (wrap_id (by omega))
  have e4 := fun hp => f118 (n + 1) y.hb y.hn hp (wrap_id (by omega))
  have e5 := fun hp => f78 n x.base (x.base + x.size) y.base (y.base + y.size) hp
  have e6 := fun hp => f78 n x.hb (x.hb + x.hn) y.hb (y.hb + y.hn) hp
  rw [evalCall_at _ _ _ hh103 rfl Tryz.func103 rfl (Nat.le_of_ble_eq_true rfl) rfl]
  unfold shareC
  clear hx hy
  obtain ⟨x1, x2, x3, x4, x5, x6, x7, x8, x9, x10⟩ := x
  obtain ⟨y1, y2, y3, y4, y5, y6, y7, y8, y9, y10⟩ := y
  simp only [Cl.cells] at *
  generalize both x1 _ _ _ = B1 at *
  generalize both x9 _ _ _ = B2 at *
  generalize meets x1 _ _ _ = m1 at *
  generalize meets x9 _ _ _ = m2 at *
  by_cases c1 : x7 = y7
  · have c1' : (x7 == y7) = true := by simp [c1]
    simp [e1, e2, e3, e4, e5, e6, c1']
    simp [c1]
  · have c1' : (x7 == y7) = false := by simp [c1]
    by_cases c2 : x8 = y8
    · have c2' : (x8 == y8) = true := by simp [c2]
      simp [e1, e2, e3, e4, e5, e6, c1', c2']
      simp [c2]
    · have c2' : (x8 == y8) = false := by simp [c2]
      cases m1 <;> simp [e1, e2, e3, e4, e5, e6, c1', c2', c1, c2]
set_option maxHeartbeats 2000000 in
theorem f99 (n : Nat) (c : Cl) (hp : Heap) : evalCall Tryz.prog hints (n + 2) 99 [.agg c.cells] hp = some (.bool (decide c.ok), hp, false) := by
  have r := ring_le c.q
  have e0 := fun hp => f117 n c.q hp
  have i := fun x a b hp => f85 n x a b hp
  unfold inB at i
  rw [evalCall_at _ _ _ hh99 rfl Tryz.func99 rfl (Nat.le_of_ble_eq_true rfl) rfl]
  have hk : decide c.ok = decide (32 ≤ c.size ∧ c.size ≤ 1024 ∧ 128 ≤ c.base ∧ c.base ≤ 16384 - c.size ∧ ring c.q ≠ 0 ∧ 0 ≤ c.at_ ∧ c.at_ ≤ c.size - ring c.q ∧ 1 ≤ c.n ∧ c.n ≤ 16 ∧ 0 ≤ c.pr ∧ c.pr ≤ 16 ∧ 0 ≤ c.id ∧ c.id ≤ 255 ∧ 0 ≤ c.irq ∧ c.irq ≤ 255 ∧ 0 ≤ c.hn ∧ c.hn ≤ 64 ∧ 0 ≤ c.hb ∧ c.hb ≤ 512 - c.hn) := decide_eq_decide.2 Iff.rfl
  rw [hk]
  clear hk
  obtain ⟨base, size, q, at_, nn, pr, id, irq, hb, hn⟩ := c
  simp only [Cl.cells] at *
  by_cases h1 : 32 ≤ size ∧ size ≤ 1024
  · have d1 := decide_eq_true h1
    have w1 := wrap_id (x := 16384 - size) (by omega)
    by_cases h2 : 128 ≤ base ∧ base ≤ 16384 - size
    · have d2 := decide_eq_true h2
      by_cases h3 : ring q = 0
      · have h3' : (ring q == 0) = true := by simp [h3]
        simp [i, e0, d1, w1, d2, h3']
        simp [h3]
      · have h3' : (ring q == 0) = false := by simp [h3]
        have w2 := wrap_id (x := size - ring q) (by omega)
        by_cases h4 : 0 ≤ at_ ∧ at_ ≤ size - ring q
        · have d4 := decide_eq_true h4
          by_cases h5 : 1 ≤ nn ∧ nn ≤ 16
          · have d5 := decide_eq_true h5
            by_cases h6 : 0 ≤ pr ∧ pr ≤ 16
            · have d6 := decide_eq_true h6
              by_cases h7 : 0 ≤ id ∧ id ≤ 255
              · have d7 := decide_eq_true h7
                by_cases h8 : 0 ≤ irq ∧ irq ≤ 255
                · have d8 := decide_eq_true h8
                  by_cases h9 : 0 ≤ hn ∧ hn ≤ 64
                  · have d9 := decide_eq_true h9
                    have w3 := wrap_id (x := 512 - hn) (by omega)
                    by_cases h10 : 0 ≤ hb ∧ hb ≤ 512 - hn
                    · have d10 := decide_eq_true h10
                      simp [i, e0, d1, w1, d2, h3', w2, d4, d5, d6, d7, d8, d9, w3, d10]
                      all_goals first | omega | (rw [Bool.eq_iff_iff]; simp only [Bool.and_eq_true, decide_eq_true_eq]; omega) | (rw [decide_eq_true_iff]; omega) | (rw [decide_eq_false_iff_not]; omega)
                    · have d10 := decide_eq_false h10
                      simp [i, e0, d1, w1, d2, h3', w2, d4, d5, d6, d7, d8, d9, w3, d10]
                      all_goals first | omega | (rw [Bool.eq_iff_iff]; simp only [Bool.and_eq_true, decide_eq_true_eq]; omega) | (rw [decide_eq_true_iff]; omega) | (rw [decide_eq_false_iff_not]; omega)
                  · have d9 := decide_eq_false h9
                    simp [i, e0, d1, w1, d2, h3', w2, d4, d5, d6, d7, d8, d9]
                    all_goals first | omega | (rw [Bool.eq_iff_iff]; simp only [Bool.and_eq_true, decide_eq_true_eq]; omega) | (rw [decide_eq_true_iff]; omega) | (rw [decide_eq_false_iff_not]; omega)
                · have d8 := decide_eq_false h8
                  simp [i, e0, d1, w1, d2, h3', w2, d4, d5, d6, d7, d8]
                  all_goals first | omega | (rw [Bool.eq_iff_iff]; simp only [Bool.and_eq_true, decide_eq_true_eq]; omega) | (rw [decide_eq_true_iff]; omega) | (rw [decide_eq_false_iff_not]; omega)
              · have d7 := decide_eq_false h7
                simp [i, e0, d1, w1, d2, h3', w2, d4, d5, d6, d7]
                all_goals first | omega | (rw [Bool.eq_iff_iff]; simp only [Bool.and_eq_true, decide_eq_true_eq]; omega) | (rw [decide_eq_true_iff]; omega) | (rw [decide_eq_false_iff_not]; omega)
            · have d6 := decide_eq_false h6
              simp [i, e0, d1, w1, d2, h3', w2, d4, d5, d6]
              all_goals first | omega | (rw [Bool.eq_iff_iff]; simp only [Bool.and_eq_true, decide_eq_true_eq]; omega) | (rw [decide_eq_true_iff]; omega) | (rw [decide_eq_false_iff_not]; omega)
          · have d5 := decide_eq_false h5
            simp [i, e0, d1, w1, d2, h3', w2, d4, d5]
            all_goals first | omega | (rw [Bool.eq_iff_iff]; simp only [Bool.and_eq_true, decide_eq_true_eq]; omega) | (rw [decide_eq_true_iff]; omega) | (rw [decide_eq_false_iff_not]; omega)
        · have d4 := decide_eq_false h4
          simp [i, e0, d1, w1, d2, h3', w2, d4]
          all_goals first | omega | (rw [Bool.eq_iff_iff]; simp only [Bool.and_eq_true, decide_eq_true_eq]; omega) | (rw [decide_eq_true_iff]; omega) | (rw [decide_eq_false_iff_not]; omega)
    · have d2 := decide_eq_false h2
      simp [i, e0, d1, w1, d2]
      all_goals first | omega | (rw [Bool.eq_iff_iff]; simp only [Bool.and_eq_true, decide_eq_true_eq]; omega) | (rw [decide_eq_true_iff]; omega) | (rw [decide_eq_false_iff_not]; omega)
  · have d1 := decide_eq_false h1
    simp [i, d1]
    all_goals first | omega | (rw [Bool.eq_iff_iff]; simp only [Bool.and_eq_true, decide_eq_true_eq]; omega) | (rw [decide_eq_true_iff]; omega) | (rw [decide_eq_false_iff_not]; omega)
end Go.Proofs.YtaiiboplopljoaaGreat
end
