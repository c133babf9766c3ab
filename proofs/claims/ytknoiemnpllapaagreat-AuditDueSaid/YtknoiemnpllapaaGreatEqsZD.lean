/-
  What functions of this program compute, as equations about the evaluator. No condition but those stated.
-/
import Derived.Test.YtknoiemnpllapaaGreatEqsZC
import Derived.Test.YtknoiemnpllapaaGreatEqsY

set_option linter.all false
section
namespace Go.Proofs.YtknoiemnpllapaaGreat
open Go Go.PS
/-- What the bus is at a tick. -/
def busK (t : Tab) (k : Int) : R3 := if k < 0 then ⟨0, -1, 0⟩ else busO t (k % t.f)
def runK (t : Tab) (k : Int) : Int := if k < 0 then 0 else runR t.W (inS (k % t.f))
/-- What is due for an owner. -/
def dueT (t : Tab) (k o : Int) : Tch :=
  if o < 1 ∨ (t.C.length : Int) < o then ⟨k, o, 0, 0, false, false, false⟩ else
    ⟨k, o, 0, 0, (busK t k).o == o && (decide (0 ≤ (busK t k).a) && ((busK t k).b == 0 || (busK t k).b == 3)), (dutyO t k).1 == 1 && (dutyO t k).2 == o, runK t k == o⟩
theorem f22nil (n : Nat) (hp : Heap) : evalCall Tryz.prog hints (n + 1) 22 [.nilp] hp = some (.int .i64 0, hp, false) := by
  rw [evalCall_at _ _ _ hh22 rfl Tryz.func22 rfl (Nat.le_of_ble_eq_true rfl) rfl]
  simp
theorem f11nil (n : Nat) (k o : Int) (hp : Heap) : evalCall Tryz.prog hints (n + 2) 11 [.nilp, .int .i64 k, .int .i64 o] hp = some (.agg [.int .i64 k, .int .i64 o, .int .i64 0, .int .i64 0, .bool false, .bool false, .bool false], hp, false) := by
  have e := fun hp => f22nil n hp
  rw [evalCall_at _ _ _ hh11 rfl Tryz.func11 rfl (Nat.le_of_ble_eq_true rfl) rfl]
  by_cases h1 : o < 1
  · simp [h1]
  · have h2 : 0 < o := by omega
    simp [h1, h2, e]
set_option maxHeartbeats 4000000 in
theorem f11 (n : Nat) (t : Tab) (g : Good t) (hf : 1 ≤ t.f ∧ t.f ≤ 4096) (hC : t.C.length ≤ 8) (hw : 0 ≤ (winF t.W 0).a ∧ (winF t.W 0).a ≤ 5000) {hp : Heap} {j js jr jm : Nat} {P : List PV} (a : PlanAt t hp j P js jr jm) (k o : Int) (hk : k < 9223372036854775808) (hn : 60 < n) :
    evalCall Tryz.prog hints (n + 5) 11 [.ptr (.heap j) none 0, .int .i64 k, .int .i64 o] hp = some (.agg (dueT t k o).cells, hp, false) := by
  have e22 := f22 (n + 3) a
  have e23 := f23 n g a k hk (by omega)
  have e24 := f24 (n + 1) a hf hC hw k hk
  have e25 := f25 n a hf hC (by omega) k hk
  rw [runs_eq g] at e25
  change _ = some (PV.agg (busK t k).cells, _, _) at e23
  change _ = some (PV.int .i64 (runK t k), _, _) at e25
  clear a
  rw [evalCall_at _ _ _ hh11 rfl Tryz.func11 rfl (Nat.le_of_ble_eq_true rfl) rfl]
  unfold dueT
  by_cases h1 : o < 1
  · rw [if_pos (Or.inl h1)]
    simp [h1, Tch.cells]
  by_cases h2 : (t.C.length : Int) < o
  · rw [if_pos (Or.inr h2)]
    simp [h1, h2, e22, Tch.cells]
  rw [if_neg (by omega)]
  generalize busK t k = bu at *
  generalize runK t k = ru at *
  generalize (dutyO t k).1 = d1 at *
  generalize (dutyO t k).2 = d2 at *
  obtain ⟨bo, ba, bb⟩ := bu
  simp only [Tab.cells_eq, R3.cells, Tch.cells] at *
  generalize t.S.flatMap _ = Y at *
  generalize t.C.flatMap Cl.cells = Z at *
  generalize t.W.flatMap _ = X at *
  obtain ⟨q1, hq1⟩ : ∃ q, (bo == o) = q := ⟨_, rfl⟩
  obtain ⟨q3, hq3⟩ : ∃ q, (bb == 0) = q := ⟨_, rfl⟩
  obtain ⟨q4, hq4⟩ : ∃ q, (bb == 3) = q := ⟨_, rfl⟩
  obtain ⟨q5, hq5⟩ : ∃ q, (d1 == 1) = q := ⟨_, rfl⟩
  obtain ⟨q6, hq6⟩ : ∃ q, (d2 == o) = q := ⟨_, rfl⟩
  rw [hq1, hq3, hq4, hq5, hq6]
  cases q1
  · simp [-getElem?_pos, List.getElem?_cons_zero, h1, h2, e22, e23, e24, e25, eqT80, hq5, hq6, hq1]
  · by_cases c2 : 0 ≤ ba
    · rw [decide_eq_true c2]
      cases q3
      · cases q4
        · simp [-getElem?_pos, List.getElem?_cons_zero, h1, h2, e22, e23, e24, e25, eqT80, hq5, hq6, hq1, c2, hq3, hq4]
        · simp [-getElem?_pos, List.getElem?_cons_zero, h1, h2, e22, e23, e24, e25, eqT80, hq5, hq6, hq1, c2, hq3, hq4]
      · simp [-getElem?_pos, List.getElem?_cons_zero, h1, h2, e22, e23, e24, e25, eqT80, hq5, hq6, hq1, c2, hq3]
    · rw [decide_eq_false c2]
      simp [-getElem?_pos, List.getElem?_cons_zero, h1, h2, e22, e23, e24, e25, eqT80, hq5, hq6, hq1, c2]
set_option maxHeartbeats 4000000 in
theorem f12 (n : Nat) (t : Tab) (g : Good t) (k o : Int) (hp : Heap) (hk : k < 9223372036854775808) (hn : 1100 < n) :
    evalCall Tryz.prog hints (n + 5) 12 [.agg t.cells, .int .i64 k, .int .i64 o] hp = some (.agg (dueT t k o).cells, hp, false) := by
  have e26 := f26 (n + 2) t g k hp hk (by omega)
  have e27 := f27 (n + 1) t g k hp hk (by omega)
  have e28 := f28 (n + 2) t g k hp hk (by omega)
  change _ = some (PV.agg (busK t k).cells, _, _) at e26
  change _ = some (PV.int .i64 (runK t k), _, _) at e28
  rw [evalCall_at _ _ _ hh12 rfl Tryz.func12 rfl (Nat.le_of_ble_eq_true rfl) rfl]
  unfold dueT
  by_cases h1 : o < 1
  · rw [if_pos (Or.inl h1)]
    simp [h1, Tch.cells, Tab.cells_eq]
  by_cases h2 : (t.C.length : Int) < o
  · rw [if_pos (Or.inr h2)]
    simp only [Tab.cells_eq]
    generalize t.C.flatMap Cl.cells = Z at *
    simp [h1, h2, Tch.cells]
  rw [if_neg (by omega)]
  generalize busK t k = bu at *
  generalize runK t k = ru at *
  generalize (dutyO t k).1 = d1 at *
  generalize (dutyO t k).2 = d2 at *
  obtain ⟨bo, ba, bb⟩ := bu
  simp only [Tab.cells_eq, R3.cells, Tch.cells] at *
  generalize t.S.flatMap _ = Y at *
  generalize t.C.flatMap Cl.cells = Z at *
  generalize t.W.flatMap _ = X at *
  obtain ⟨q1, hq1⟩ : ∃ q, (bo == o) = q := ⟨_, rfl⟩
  obtain ⟨q3, hq3⟩ : ∃ q, (bb == 0) = q := ⟨_, rfl⟩
  obtain ⟨q4, hq4⟩ : ∃ q, (bb == 3) = q := ⟨_, rfl⟩
  obtain ⟨q5, hq5⟩ : ∃ q, (d1 == 1) = q := ⟨_, rfl⟩
  obtain ⟨q6, hq6⟩ : ∃ q, (d2 == o) = q := ⟨_, rfl⟩
  rw [hq1, hq3, hq4, hq5, hq6]
  cases q1
  · cases q5
    · simp [-getElem?_pos, List.getElem?_cons_zero, h1, h2, e26, e27, e28, hq1, hq5]
    · cases q6
      · simp [-getElem?_pos, List.getElem?_cons_zero, h1, h2, e26, e27, e28, hq1, hq5, hq6]
      · simp [-getElem?_pos, List.getElem?_cons_zero, h1, h2, e26, e27, e28, hq1, hq5, hq6]
  · by_cases c2 : 0 ≤ ba
    · rw [decide_eq_true c2]
      cases q3
      · cases q4
        · cases q5
          · simp [-getElem?_pos, List.getElem?_cons_zero, h1, h2, e26, e27, e28, hq1, c2, hq3, hq4, hq5]
          · cases q6
            · simp [-getElem?_pos, List.getElem?_cons_zero, h1, h2, e26, e27, e28, hq1, c2, hq3, hq4, hq5, hq6]
            · simp [-getElem?_pos, List.getElem?_cons_zero, h1, h2, e26, e27, e28, hq1, c2, hq3, hq4, hq5, hq6]
        · cases q5
          · simp [-getElem?_pos, List.getElem?_cons_zero, h1, h2, e26, e27, e28, hq1, c2, hq3, hq4, hq5]
          · cases q6
            · simp [-getElem?_pos, List.getElem?_cons_zero, h1, h2, e26, e27, e28, hq1, c2, hq3, hq4, hq5, hq6]
            · simp [-getElem?_pos, List.getElem?_cons_zero, h1, h2, e26, e27, e28, hq1, c2, hq3, hq4, hq5, hq6]
      · cases q5
        · simp [-getElem?_pos, List.getElem?_cons_zero, h1, h2, e26, e27, e28, hq1, c2, hq3, hq5]
        · cases q6
          · simp [-getElem?_pos, List.getElem?_cons_zero, h1, h2, e26, e27, e28, hq1, c2, hq3, hq5, hq6]
          · simp [-getElem?_pos, List.getElem?_cons_zero, h1, h2, e26, e27, e28, hq1, c2, hq3, hq5, hq6]
    · rw [decide_eq_false c2]
      cases q5
      · simp [-getElem?_pos, List.getElem?_cons_zero, h1, h2, e26, e27, e28, hq1, c2, hq5]
      · cases q6
        · simp [-getElem?_pos, List.getElem?_cons_zero, h1, h2, e26, e27, e28, hq1, c2, hq5, hq6]
        · simp [-getElem?_pos, List.getElem?_cons_zero, h1, h2, e26, e27, e28, hq1, c2, hq5, hq6]
set_option maxHeartbeats 4000000 in
theorem f4 (n : Nat) (t : Tab) (k o : Int) (hk : k < 9223372036854775808) : fstR (evalCall Tryz.prog hints (n + 2000) 4 [.agg t.cells, .int .i64 k, .int .i64 o] []) = some (.bool true) := by
  rw [evalCall_at _ _ _ hh4 rfl Tryz.func4 rfl (Nat.le_of_ble_eq_true rfl) rfl]
  by_cases h0 : faults t = []
  · have g := good_of h0
    have hf := g.frame
    unfold frameB at hf; simp only [decide_eq_true_eq] at hf
    have hC : t.C.length ≤ 8 := by omega
    have e10 : evalCall Tryz.prog hints (n + 1999) 10 [.agg t.cells] [] = some (.tup [.ptr (.heap 0) none 0, .int .i64 0], hpP [] t, false) := f10 (n + 1979) t g [] (by omega)
    have a := planAt t []
    rw [List.length_nil] at a
    generalize PCc t _ _ _ _ = P at a
    generalize 0 + t.S.length + 3 = jr at a
    generalize 0 + t.S.length + 2 = jm at a
    generalize 0 + 1 = js at a
    obtain ⟨H, hH⟩ : ∃ H, H = hpP [] t := ⟨_, rfl⟩
    rw [← hH] at e10 a
    have wb := win_b g 0 (by omega)
    have e6 := f6 (n + 1998) H
    have e11 := f11 (n + 1994) t g (by omega) hC (by omega) a k o hk (by omega)
    have e12 := f12 (n + 1994) t g k o H hk (by omega)
    have e8 := f8 (n + 1998) (dueT t k o) H
    clear a
    generalize dueT t k o = c at *
    obtain ⟨c1, c2, c3, c4, c5, c6, c7⟩ := c
    simp only [Tab.cells_eq, Tch.cells] at *
    generalize t.S.flatMap _ = Y at *
    generalize t.C.flatMap Cl.cells = Z at *
    generalize t.W.flatMap _ = X at *
    simp [-getElem?_pos, List.getElem?_cons_zero, e6, e8, e10, e11, e12, eqT33]
  · have e10 : evalCall Tryz.prog hints (n + 1999) 10 [.agg t.cells] [] = _ := f10n (n + 1979) t h0 [] (by omega)
    have e5 : evalCall Tryz.prog hints (n + 1999) 5 [.agg t.cells] [] = _ := f5' (n + 1993) t [] (by omega)
    have e6 := f6 (n + 1998) []
    have e11 := f11nil (n + 1997) k o []
    have px : ((faults t).flatMap F2.cells).all plain1 = true := by rw [List.all_flatMap]; simp [F2.cells, plain1]
    have hl : (faults t).length ≠ 0 := fun h => h0 (List.length_eq_zero_iff.1 h)
    have hp : 0 < ((faults t).length : Int) := by omega
    have hp' : 0 < (faults t).length := by omega
    clear h0 hl
    simp only [Tab.cells_eq] at *
    generalize (faults t).flatMap F2.cells = A at *
    generalize (faults t).length = a at *
    generalize t.S.flatMap R3.cells = Y at *
    generalize t.C.flatMap Cl.cells = Z at *
    generalize t.W.flatMap R3.cells = X at *
    simp [-getElem?_pos, -List.all_eq_true, List.getElem?_cons_zero, e5, e6, e10, e11, px, hp, hp', eqT35]
end Go.Proofs.YtknoiemnpllapaaGreat
end
