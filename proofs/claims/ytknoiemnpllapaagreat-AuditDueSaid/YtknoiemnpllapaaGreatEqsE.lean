/-
  What functions of this program compute, as equations about the evaluator. No condition but those stated.
-/
import Derived.Test.YtknoiemnpllapaaGreatEqsD

set_option linter.all false
section
namespace Go.Proofs.YtknoiemnpllapaaGreat
open Go Go.PS
theorem f69_2 (n : Nat) (t : Tab) (i : Nat) (hp : Heap) (hi : i ≤ 40) : evalCall Tryz.prog hints (n + 5) 14 [.agg t.cells, .int .i64 2, .int .i64 ((i : Int) + 1)] hp = some (.bool (hasB t 2 (i + 1)), hp, false) := by
  have w0 := wrap_id (x := (i : Int)) (by omega)
  have lC := flat_len Cl.len t.C
  have e := fun c => f29g (n + 2) c hp
  rw [evalCall_at _ _ _ hh14 rfl Tryz.func14 rfl (Nat.le_of_ble_eq_true rfl) rfl]
  simp only [hasB, ats, Tab.cells]
  by_cases h : i < t.C.length
  · rw [List.getElem?_eq_getElem h]
    have r := flat_row Cl.len t.C i h
    have z : i * 10 + 10 ≤ t.C.length * 10 := by omega
    have e := e t.C[i]
    simp only [Option.any_some]
    generalize t.C[i] = c at *
    generalize hb : (!decide c.ok) = b at *
    clear hb
    obtain ⟨c1, c2, c3, c4, c5, c6, c7, c8, c9, c10⟩ := c
    simp only [Cl.cells] at *
    generalize t.S.flatMap _ = Y at *
    generalize t.W.flatMap _ = X at *
    generalize t.C.flatMap _ = Z at *
    simp [w0, h, lC, r, z, e]
  · rw [List.getElem?_eq_none (by omega)]
    simp only [Option.any_none]
    have h' : ¬ ((i : Int) < t.C.length) := by omega
    generalize t.S.flatMap _ = Y at *
    generalize t.W.flatMap _ = X at *
    generalize t.C.flatMap _ = Z at *
    simp [w0, h]
end Go.Proofs.YtknoiemnpllapaaGreat
end

section
namespace Go.Proofs.YtknoiemnpllapaaGreat
open Go Go.PS
set_option maxHeartbeats 2000000 in
theorem f69_5 (n : Nat) (t : Tab) (i : Nat) (hp : Heap) (hi : i ≤ 40) (hn : 60 < n) : evalCall Tryz.prog hints (n + 5) 14 [.agg t.cells, .int .i64 5, .int .i64 ((i : Int) + 1)] hp = some (.bool (hasB t 5 (i + 1)), hp, false) := by
  have w0 := wrap_id (x := (i : Int)) (by omega)
  have lC := flat_len R3.len t.W
  have rr := fun k h => flat_row R3.len t.W k h
  have e := fun a b c d => f32 (n + 1) a b c d hp
  rw [evalCall_at _ _ _ hh14 rfl Tryz.func14 rfl (Nat.le_of_ble_eq_true rfl) rfl]
  simp only [hasB, pre, Tab.cells]
  obtain ⟨f, W, S, C⟩ := t
  simp only at *
  generalize S.flatMap _ = Y at *
  generalize W.flatMap _ = X at *
  generalize C.flatMap _ = Z at *
  by_cases h : i < W.length
  · rw [List.getElem?_eq_getElem h]
    have r := rr i h
    have z : i * 3 + 3 ≤ W.length * 3 := by omega
    simp only [Option.any_some]
    generalize hB : (List.range i).any _ = B
    simp [w0]
    rw [iter_find' (fun k => { fr := [(3, .box [.int .i64 f, .sl .sh W.length X, .sl .sh S.length Y, .sl .sh C.length Z]), (7, .int .i64 i), (11, .int .i64 k)], hp := hp, base := hp.length, dirty := false }) (fun k => (W[k]?).any (pairW W[i])) (.ret, { fr := [(6, .bool true)], hp := hp, base := hp.length, dirty := false }) (.exit 3, { fr := [(3, .box [.int .i64 f, .sl .sh W.length X, .sl .sh S.length Y, .sl .sh C.length Z]), (7, .int .i64 i), (11, .int .i64 i), (140, .bool false)], hp := hp, base := hp.length, dirty := false }) i]
    · rw [hB]
      cases B <;> simp
    · simp
    · omega
    · intro k hk
      rw [List.getElem?_eq_getElem (by omega)]
      have r' := rr k (by omega)
      have hk' : k < W.length := by omega
      have z' : k * 3 + 3 ≤ W.length * 3 := by omega
      simp only [Option.any_some]
      generalize W[i] = x at r ⊢
      generalize W[k] = y at r' ⊢
      have w1 := wrap_id (x := (k : Int) + 1) (by omega)
      have e := e x.a x.b y.a y.b
      obtain ⟨P, hP⟩ : ∃ P, P = pairW x y := ⟨_, rfl⟩
      rw [← hP]
      unfold pairW at hP
      generalize meets x.a x.b y.a y.b = m1 at e hP
      obtain ⟨o, a, b⟩ := x
      obtain ⟨o', a', b'⟩ := y
      simp only [R3.cells] at *
      by_cases c1 : o = o'
      · subst c1
        simp at hP
        simp [h, hk, hk', lC, r, r', z, z', w1, hP]
      · have c1' : (o == o') = false := by simp [c1]
        simp only [c1, decide_false, Bool.false_or] at hP
        subst hP
        cases P <;> simp [h, hk, hk', lC, r, r', z, z', w1, c1, c1', e]
    · simp [h]
    · simp
    · simp
  · rw [List.getElem?_eq_none (by omega)]
    simp only [Option.any_none]
    simp [w0]
    rw [iter_count (fun k => { fr := [(3, .box [.int .i64 f, .sl .sh W.length X, .sl .sh S.length Y, .sl .sh C.length Z]), (7, .int .i64 i), (11, .int .i64 k)], hp := hp, base := hp.length, dirty := false }) (.exit 3, { fr := [(3, .box [.int .i64 f, .sl .sh W.length X, .sl .sh S.length Y, .sl .sh C.length Z]), (7, .int .i64 i), (11, .int .i64 0), (140, .bool false)], hp := hp, base := hp.length, dirty := false }) 0]
    · simp
    · simp
    · omega
    · intro k hk; omega
    · have h' : ¬ ((i : Int) < W.length) := by omega
      by_cases h0 : 0 < i
      · simp [h, h0]
      · simp [h0]
    · simp
end Go.Proofs.YtknoiemnpllapaaGreat
end
