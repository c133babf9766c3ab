/-
  What functions of this program compute, as equations about the evaluator. No condition but those stated.
-/
import Derived.Test.YtknoiemnpllapaaGreatEqsA

set_option linter.all false
section
namespace Go.Proofs.YtknoiemnpllapaaGreat
open Go Go.PS
instance (c : Cl) : Decidable c.ok := by unfold Cl.ok; infer_instance
def frameB (t : Tab) : Bool := decide (1 ≤ t.f ∧ t.f ≤ 4096 ∧ 1 ≤ (t.C.length : Int) ∧ (t.C.length : Int) ≤ 8 ∧ (t.W.length : Int) ≤ 9 ∧ (t.S.length : Int) ≤ 32)
theorem f13 (n : Nat) (t : Tab) (hp : Heap) : evalCall Tryz.prog hints (n + 1) 13 [.agg t.cells] hp = some (.bool (frameB t), hp, false) := by
  rw [evalCall_at _ _ _ hh13 rfl Tryz.func13 rfl (Nat.le_of_ble_eq_true rfl) rfl]
  obtain ⟨f, W, S, C⟩ := t
  simp only [Tab.cells, frameB]
  generalize W.flatMap R3.cells = X at *
  generalize S.flatMap R3.cells = Y at *
  generalize C.flatMap Cl.cells = Z at *
  generalize W.length = nW at *
  generalize S.length = nS at *
  generalize C.length = nC at *
  by_cases c1 : 1 ≤ f
  · by_cases c2 : f ≤ 4096
    · by_cases c3 : (1 : Int) ≤ nC
      · by_cases c4 : (nC : Int) ≤ 8
        · by_cases c5 : (nW : Int) ≤ 9
          · simp [c1, c2, c3, c4, c5]
          · simp [c1, c2, c3, c4, c5]
        · simp [c1, c2, c3, c4]
      · simp [c1, c2, c3]
    · simp [c1, c2]
  · simp [c1]
def okW (t : Tab) (w : R3) : Bool := decide (0 ≤ w.o ∧ w.o ≤ (t.C.length : Int) ∧ 0 ≤ w.a ∧ w.b ≤ t.f ∧ w.a < w.b)
def okS (t : Tab) (w : R3) : Bool := decide (1 ≤ w.o ∧ w.o ≤ (t.C.length : Int) ∧ 0 ≤ w.a ∧ w.b ≤ t.f ∧ w.a < w.b ∧ 4 ≤ w.b - w.a)
theorem f31 (n : Nat) (t : Tab) (w : R3) (hp : Heap) : evalCall Tryz.prog hints (n + 1) 31 [.agg t.cells, .agg w.cells] hp = some (.bool (!okW t w), hp, false) := by
  rw [evalCall_at _ _ _ hh31 rfl Tryz.func31 rfl (Nat.le_of_ble_eq_true rfl) rfl]
  obtain ⟨f, W, S, C⟩ := t
  obtain ⟨o, a, b⟩ := w
  simp only [Tab.cells, okW, R3.cells]
  generalize W.flatMap _ = X at *
  generalize S.flatMap _ = Y at *
  generalize C.flatMap Cl.cells = Z at *
  generalize W.length = nW at *
  generalize S.length = nS at *
  generalize C.length = nC at *
  by_cases c1 : o < 0
  · simp [c1]
  have c1' : 0 ≤ o := by omega
  by_cases c2 : (nC : Int) < o
  · simp [c1, c2]
  have c2' : o ≤ (nC : Int) := by omega
  by_cases c3 : a < 0
  · simp [c1, c2, c3]
  have c3' : 0 ≤ a := by omega
  by_cases c4 : f < b
  · simp [c1, c2, c3, c4]
  have c4' : b ≤ f := by omega
  by_cases c5 : b ≤ a
  · simp [c1, c2, c3, c4, c5]
  · have c5' : a < b := by omega
    simp [c1, c2, c3, c4, c5, c1', c2', c3', c4', c5']
theorem f33 (n : Nat) (t : Tab) (w : R3) (hp : Heap) (hf : t.f ≤ 4096) : evalCall Tryz.prog hints (n + 1) 33 [.agg t.cells, .agg w.cells] hp = some (.bool (!okS t w), hp, false) := by
  rw [evalCall_at _ _ _ hh33 rfl Tryz.func33 rfl (Nat.le_of_ble_eq_true rfl) rfl]
  obtain ⟨f, W, S, C⟩ := t
  obtain ⟨o, a, b⟩ := w
  simp only [Tab.cells, okS, R3.cells] at *
  generalize W.flatMap _ = X at *
  generalize S.flatMap _ = Y at *
  generalize C.flatMap Cl.cells = Z at *
  generalize W.length = nW at *
  generalize S.length = nS at *
  generalize C.length = nC at *
  by_cases c1 : o < 1
  · have : ¬ 1 ≤ o := by omega
    simp [c1, this]
  have c1' : 1 ≤ o := by omega
  by_cases c2 : (nC : Int) < o
  · simp [c1, c2]
  have c2' : o ≤ (nC : Int) := by omega
  by_cases c3 : a < 0
  · simp [c1, c2, c3]
  have c3' : 0 ≤ a := by omega
  by_cases c4 : f < b
  · simp [c1, c2, c3, c4]
  have c4' : b ≤ f := by omega
  by_cases c5 : b ≤ a
  · simp [c1, c2, c3, c4, c5]
  have c5' : a < b := by omega
  have w1 := wrap_id (x := b - a) (by omega)
  by_cases c6 : b - a < 4
  · have c6' : ¬ 4 ≤ b - a := by omega
    simp [c1, c2, c3, c4, c5, c1', c2', c3', c4', c5', c6, w1]
  · have c6' : 4 ≤ b - a := by omega
    simp [c1, c2, c3, c4, c5, c1', c2', c3', c4', c5', c6, c6', w1]
end Go.Proofs.YtknoiemnpllapaaGreat
end
