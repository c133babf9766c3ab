/-
  What functions of this program compute, as equations about the evaluator. No condition but those stated.
-/
import Derived.Test.YtknoiemnpllapaaGreatEqsK
import Derived.Test.YtknoiemnpllapaaGreatEqsL

set_option linter.all false
section
namespace Go.Proofs.YtknoiemnpllapaaGreat
open Go Go.PS
/-- A touch. -/
structure Tch where
  k : Int
  o : Int
  a : Int
  b : Int
  bus : Bool
  post : Bool
  runs : Bool
def Tch.cells (c : Tch) : List PV := [.int .i64 c.k, .int .i64 c.o, .int .i64 c.a, .int .i64 c.b, .bool c.bus, .bool c.post, .bool c.runs]
theorem Tch.len (c : Tch) : c.cells.length = 7 := rfl
theorem f8 (n : Nat) (c : Tch) (hp : Heap) : evalCall Tryz.prog hints (n + 1) 8 [.agg c.cells] hp = some (.agg c.cells, hp, false) := by
  rw [evalCall_at _ _ _ hh8 rfl Tryz.func8 rfl (Nat.le_of_ble_eq_true rfl) rfl]
  obtain ⟨k, o, a, b, bus, post, runs⟩ := c
  simp [Tch.cells]
theorem f6 (n : Nat) (hp : Heap) : evalCall Tryz.prog hints (n + 1) 6 [] hp = some (.bool true, hp, false) := by
  rw [evalCall]; rfl
/-- Is a touch wild? -/
def wildT (t : Tab) (c : Tch) : Bool :=
  if c.o < 1 ∨ (t.C.length : Int) < c.o then true else if c.bus = true ∨ c.runs = true then false else if c.post = false then true else
    match t.C[(c.o - 1).toNat]? with
    | some x => decide (c.a < x.at_) || decide (x.at_ + 8 * x.q + 2 < c.b)
    | none => true
theorem ring_q {q : Int} (h : ring q ≠ 0) : (q = 1 ∨ q = 2 ∨ q = 4 ∨ q = 8 ∨ q = 16) ∧ ring q = 2 + 8 * q := by
  unfold ring at h ⊢
  split at h
  · rename_i h'; exact ⟨h', by rw [if_pos h']⟩
  · exact absurd rfl h
set_option maxHeartbeats 1000000 in
theorem f7 (n : Nat) (t : Tab) (g : Good t) (c : Tch) (hp : Heap) : evalCall Tryz.prog hints (n + 1) 7 [.agg c.cells, .agg t.cells] hp = some (.bool (wildT t c), hp, false) := by
  have hf := g.frame
  unfold frameB at hf; simp only [decide_eq_true_eq] at hf
  have lC := flat_len Cl.len t.C
  rw [evalCall_at _ _ _ hh7 rfl Tryz.func7 rfl (Nat.le_of_ble_eq_true rfl) rfl]
  unfold wildT
  obtain ⟨k, o, a, b, bus, post, runs⟩ := c
  simp only [Tch.cells]
  by_cases h1 : o < 1
  · rw [if_pos (Or.inl h1)]
    simp [Tab.cells, h1]
  by_cases h2 : (t.C.length : Int) < o
  · rw [if_pos (Or.inr h2)]
    simp only [Tab.cells]
    generalize t.C.flatMap Cl.cells = Z at *
    simp [h1, h2]
  rw [if_neg (by omega)]
  obtain ⟨i, rfl⟩ : ∃ i : Nat, o = (i : Int) + 1 := ⟨(o - 1).toNat, by omega⟩
  have hi : i < t.C.length := by omega
  have ok := g.cok t.C[i] (List.getElem_mem hi)
  have r := flat_row Cl.len t.C i hi
  have z : i * 10 + 10 ≤ t.C.length * 10 := by omega
  have w := wrap_id (x := (i : Int)) (by omega)
  rw [show ((i : Int) + 1 - 1).toNat = i by omega, List.getElem?_eq_getElem hi]
  simp only [Tab.cells]
  generalize t.C[i] = x at *
  generalize t.S.flatMap _ = Y at *
  generalize t.W.flatMap _ = X at *
  generalize t.C.flatMap _ = Z at *
  unfold Cl.ok at ok
  obtain ⟨x1, x2, x3, x4, x5, x6, x7, x8, x9, x10⟩ := x
  simp only [Cl.cells] at *
  obtain ⟨hq, hr⟩ := ring_q ok.2.2.2.2.1
  have hat := ok.2.2.2.2.2.1
  have hat2 := ok.2.2.2.2.2.2.1
  have hsz := ok.2.1
  rw [hr] at hat2
  clear ok hr
  have w1 := wrap_id (x := 8 * x3) (by omega)
  have w2 := wrap_id (x := x4 + 8 * x3) (by omega)
  have w3 := wrap_id (x := x4 + 8 * x3 + 2) (by omega)
  have w4 := wrap_id (x := (i : Int) + 1 - 1) (by omega)
  cases bus
  · cases runs
    · cases post
      · simp [h1, h2]
      · by_cases c1 : a < x4
        · simp [-getElem?_pos, List.getElem?_cons_zero, h1, h2, hi, lC, r, z, w, w1, w2, w3, w4, c1]
        · simp [-getElem?_pos, List.getElem?_cons_zero, h1, h2, hi, lC, r, z, w, w1, w2, w3, w4, c1]
    · simp [h1, h2]
  · simp [h1, h2]
theorem f94 (n : Nat) (x : Int) (hp : Heap) (h0 : 0 ≤ x) (h1 : x ≤ 1024) : evalCall Tryz.prog hints (n + 1) 94 [.int .i64 x] hp = some (.int .i64 x, hp, false) := by
  rw [evalCall_at _ _ _ hh94 rfl Tryz.func94 rfl (Nat.le_of_ble_eq_true rfl) rfl]
  have h2 : ¬ x < 0 := by omega
  have h3 : ¬ 1024 < x := by omega
  simp [h0, h1, h2, h3]
theorem f46 (n : Nat) (x : Int) (hp : Heap) (h0 : 0 ≤ x) (h1 : x ≤ 1024) : evalCall Tryz.prog hints (n + 2) 46 [.int .i64 x] hp = some (.int .i64 x, hp, false) := by
  have e := f94 n x hp h0 h1
  rw [evalCall_at _ _ _ hh46 rfl Tryz.func46 rfl (Nat.le_of_ble_eq_true rfl) rfl]
  simp [e]
theorem f95 (n : Nat) (q : Int) (hp : Heap) (hq : q = 1 ∨ q = 2 ∨ q = 4 ∨ q = 8 ∨ q = 16) : evalCall Tryz.prog hints (n + 20) 95 [.int .i64 q] hp = some (.bool true, hp, false) := by
  rcases hq with h | h | h | h | h <;> subst h <;> kernel_rfl
theorem f47 (n : Nat) (q : Int) (hp : Heap) (hq : q = 1 ∨ q = 2 ∨ q = 4 ∨ q = 8 ∨ q = 16) : evalCall Tryz.prog hints (n + 21) 47 [.int .i64 q] hp = some (.int .i64 (2 + 8 * q), hp, false) := by
  have e := f95 n q hp hq
  have w1 := wrap_id (x := 8 * q) (by omega)
  have w2 := wrap_id (x := 2 + 8 * q) (by omega)
  rw [evalCall_at _ _ _ hh47 rfl Tryz.func47 rfl (Nat.le_of_ble_eq_true rfl) rfl]
  simp [e, w1, w2]
end Go.Proofs.YtknoiemnpllapaaGreat
end
