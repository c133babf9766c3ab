/-
  What functions of this program compute, as equations about the evaluator. No condition but those stated.
-/
import Derived.Test.YtknoiemnpllapaaGreatEqsD

set_option linter.all false
section
namespace Go.Proofs.YtknoiemnpllapaaGreat
open Go Go.PS
set_option maxHeartbeats 2000000 in
theorem f69_9 (n : Nat) (t : Tab) (i : Nat) (hp : Heap) (hi : i ≤ 40) (hn : 60 < n) : evalCall Tryz.prog hints (n + 5) 14 [.agg t.cells, .int .i64 9, .int .i64 ((i : Int) + 1)] hp = some (.bool (hasB t 9 (i + 1)), hp, false) := by
  have w0 := wrap_id (x := (i : Int)) (by omega)
  have lC := flat_len R3.len t.S
  have rr := fun k h => flat_row R3.len t.S k h
  have e := fun a b c d => f32 (n + 1) a b c d hp
  rw [evalCall_at _ _ _ hh14 rfl Tryz.func14 rfl (Nat.le_of_ble_eq_true rfl) rfl]
  simp only [hasB, pre, Tab.cells]
  obtain ⟨f, W, S, C⟩ := t
  simp only at *
  generalize S.flatMap _ = Y at *
  generalize W.flatMap _ = X at *
  generalize C.flatMap _ = Z at *
  by_cases h : i < S.length
  · rw [List.getElem?_eq_getElem h]
    have r := rr i h
    have z : i * 3 + 3 ≤ S.length * 3 := by omega
    simp only [Option.any_some]
    generalize hB : (List.range i).any _ = B
    simp [w0]
    rw [iter_find' (fun k => { fr := [(3, .box [.int .i64 f, .sl .sh W.length X, .sl .sh S.length Y, .sl .sh C.length Z]), (7, .int .i64 i), (16, .int .i64 k)], hp := hp, base := hp.length, dirty := false }) (fun k => (S[k]?).any (pairS S[i])) (.ret, { fr := [(6, .bool true)], hp := hp, base := hp.length, dirty := false }) (.exit 9, { fr := [(3, .box [.int .i64 f, .sl .sh W.length X, .sl .sh S.length Y, .sl .sh C.length Z]), (7, .int .i64 i), (16, .int .i64 i), (272, .bool false)], hp := hp, base := hp.length, dirty := false }) i]
    · rw [hB]
      cases B <;> simp
    · simp
    · omega
    · intro k hk
      rw [List.getElem?_eq_getElem (by omega)]
      have r' := rr k (by omega)
      have hk' : k < S.length := by omega
      have z' : k * 3 + 3 ≤ S.length * 3 := by omega
      simp only [Option.any_some]
      generalize S[i] = x at r ⊢
      generalize S[k] = y at r' ⊢
      have w1 := wrap_id (x := (k : Int) + 1) (by omega)
      have e := e x.a x.b y.a y.b
      obtain ⟨P, hP⟩ : ∃ P, P = pairS x y := ⟨_, rfl⟩
      rw [← hP]
      unfold pairS at hP
      generalize meets x.a x.b y.a y.b = m1 at e hP
      obtain ⟨o, a, b⟩ := x
      obtain ⟨o', a', b'⟩ := y
      simp only [R3.cells] at *
      subst hP
      cases P <;> simp [h, hk, hk', lC, r, r', z, z', w1, e]
    · simp [h]
    · simp
    · simp
  · rw [List.getElem?_eq_none (by omega)]
    simp only [Option.any_none]
    simp [w0]
    rw [iter_count (fun k => { fr := [(3, .box [.int .i64 f, .sl .sh W.length X, .sl .sh S.length Y, .sl .sh C.length Z]), (7, .int .i64 i), (16, .int .i64 k)], hp := hp, base := hp.length, dirty := false }) (.exit 9, { fr := [(3, .box [.int .i64 f, .sl .sh W.length X, .sl .sh S.length Y, .sl .sh C.length Z]), (7, .int .i64 i), (16, .int .i64 0), (272, .bool false)], hp := hp, base := hp.length, dirty := false }) 0]
    · simp
    · simp
    · omega
    · intro k hk; omega
    · have h' : ¬ ((i : Int) < S.length) := by omega
      by_cases h0 : 0 < i
      · simp [h, h0]
      · simp [h0]
    · simp
end Go.Proofs.YtknoiemnpllapaaGreat
end

section
namespace Go.Proofs.YtknoiemnpllapaaGreat
open Go Go.PS
set_option maxHeartbeats 1000000 in
theorem f69_4 (n : Nat) (t : Tab) (i : Nat) (hp : Heap) (hf : frameB t = true) (hi : i ≤ 40) (hn : 60 < n) : evalCall Tryz.prog hints (n + 5) 14 [.agg t.cells, .int .i64 4, .int .i64 ((i : Int) + 1)] hp = some (.bool (hasB t 4 (i + 1)), hp, false) := by
  have w0 := wrap_id (x := (i : Int)) (by omega)
  have hf' := hf
  unfold frameB at hf'; simp only [decide_eq_true_eq] at hf'
  have e := fun w => f31 (n + 3) t w hp
  have lC := flat_len R3.len t.W
  rw [evalCall_at _ _ _ hh14 rfl Tryz.func14 rfl (Nat.le_of_ble_eq_true rfl) rfl]
  simp only [hasB, ats]
  by_cases h : i < t.W.length
  · rw [List.getElem?_eq_getElem h]
    have r := flat_row R3.len t.W i h
    have z : i * 3 + 3 ≤ t.W.length * 3 := by omega
    have e := e t.W[i]
    simp only [Option.any_some]
    generalize t.W[i] = c at *
    generalize (!okW t c) = b at *
    obtain ⟨c1, c2, c3⟩ := c
    simp only [R3.cells, Tab.cells] at *
    generalize t.S.flatMap _ = Y at *
    generalize t.W.flatMap _ = X at *
    generalize t.C.flatMap _ = Z at *
    simp [w0, h, lC, r, z, e]
  · rw [List.getElem?_eq_none (by omega)]
    simp only [Option.any_none, Tab.cells]
    have h' : ¬ ((i : Int) < t.W.length) := by omega
    clear e
    generalize t.S.flatMap _ = Y at *
    generalize t.W.flatMap _ = X at *
    generalize t.C.flatMap _ = Z at *
    simp [w0, h]
set_option maxHeartbeats 1000000 in
theorem f69_8 (n : Nat) (t : Tab) (i : Nat) (hp : Heap) (hf : frameB t = true) (hi : i ≤ 40) (hn : 60 < n) : evalCall Tryz.prog hints (n + 5) 14 [.agg t.cells, .int .i64 8, .int .i64 ((i : Int) + 1)] hp = some (.bool (hasB t 8 (i + 1)), hp, false) := by
  have w0 := wrap_id (x := (i : Int)) (by omega)
  have hf' := hf
  unfold frameB at hf'; simp only [decide_eq_true_eq] at hf'
  have e := fun w => f33 (n + 3) t w hp hf'.2.1
  have lC := flat_len R3.len t.S
  rw [evalCall_at _ _ _ hh14 rfl Tryz.func14 rfl (Nat.le_of_ble_eq_true rfl) rfl]
  simp only [hasB, ats]
  by_cases h : i < t.S.length
  · rw [List.getElem?_eq_getElem h]
    have r := flat_row R3.len t.S i h
    have z : i * 3 + 3 ≤ t.S.length * 3 := by omega
    have e := e t.S[i]
    simp only [Option.any_some]
    generalize t.S[i] = c at *
    generalize (!okS t c) = b at *
    obtain ⟨c1, c2, c3⟩ := c
    simp only [R3.cells, Tab.cells] at *
    generalize t.S.flatMap _ = Y at *
    generalize t.W.flatMap _ = X at *
    generalize t.C.flatMap _ = Z at *
    simp [w0, h, lC, r, z, e]
  · rw [List.getElem?_eq_none (by omega)]
    simp only [Option.any_none, Tab.cells]
    have h' : ¬ ((i : Int) < t.S.length) := by omega
    clear e
    generalize t.S.flatMap _ = Y at *
    generalize t.W.flatMap _ = X at *
    generalize t.C.flatMap _ = Z at *
    simp [w0, h]
set_option maxHeartbeats 1000000 in
theorem f69_10 (n : Nat) (t : Tab) (i : Nat) (hp : Heap) (hf : frameB t = true) (hi : i ≤ 40) (hn : 60 < n) : evalCall Tryz.prog hints (n + 5) 14 [.agg t.cells, .int .i64 10, .int .i64 ((i : Int) + 1)] hp = some (.bool (hasB t 10 (i + 1)), hp, false) := by
  have w0 := wrap_id (x := (i : Int)) (by omega)
  have hf' := hf
  unfold frameB at hf'; simp only [decide_eq_true_eq] at hf'
  have e := f34 (n + 2) t ((i : Int) + 1) hp hf (by omega)
  have lC := flat_len Cl.len t.C
  rw [evalCall_at _ _ _ hh14 rfl Tryz.func14 rfl (Nat.le_of_ble_eq_true rfl) rfl]
  simp only [hasB, ats]
  by_cases h : i < t.C.length
  · rw [List.getElem?_eq_getElem h]
    have r := flat_row Cl.len t.C i h
    have g := flat_get Cl.len t.C i h 4 (by omega)
    have z : i * 10 + 10 ≤ t.C.length * 10 := by omega
    simp only [Option.any_some]
    rw [show ((i + 1 : Nat) : Int) = (i : Int) + 1 by omega]
    unfold overU
    generalize t.C[i] = c at *
    generalize units t ((i : Int) + 1) t.S = u at *
    obtain ⟨c1, c2, c3, c4, c5, c6, c7, c8, c9, c10⟩ := c
    simp only [Cl.cells, Tab.cells] at *
    simp only [List.getElem?_cons_zero, List.getElem?_cons_succ] at g
    generalize t.S.flatMap _ = Y at *
    generalize t.W.flatMap _ = X at *
    generalize t.C.flatMap _ = Z at *
    simp [-getElem?_pos, List.getElem?_cons_zero, w0, h, lC, r, z, e, g]
  · rw [List.getElem?_eq_none (by omega)]
    simp only [Option.any_none, Tab.cells]
    have h' : ¬ ((i : Int) < t.C.length) := by omega
    clear e
    generalize t.S.flatMap _ = Y at *
    generalize t.W.flatMap _ = X at *
    generalize t.C.flatMap _ = Z at *
    simp [w0, h]
end Go.Proofs.YtknoiemnpllapaaGreat
end
