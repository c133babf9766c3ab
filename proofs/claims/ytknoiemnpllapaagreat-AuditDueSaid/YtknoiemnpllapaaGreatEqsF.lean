/-
  What functions of this program compute, as equations about the evaluator. No condition but those stated.
-/
import Derived.Test.YtknoiemnpllapaaGreatEqsD

set_option linter.all false
section
namespace Go.Proofs.YtknoiemnpllapaaGreat
open Go Go.PS
set_option maxHeartbeats 2000000 in
theorem f69_3 (n : Nat) (t : Tab) (i : Nat) (hp : Heap) (hi : i ≤ 40) (hn : 60 < n) : evalCall Tryz.prog hints (n + 5) 14 [.agg t.cells, .int .i64 3, .int .i64 ((i : Int) + 1)] hp = some (.bool (hasB t 3 (i + 1)), hp, false) := by
  have w0 := wrap_id (x := (i : Int)) (by omega)
  have lC := flat_len Cl.len t.C
  have e := fun c => f29g (n + 2) c hp
  have rr := fun k h => flat_row Cl.len t.C k h
  rw [evalCall_at _ _ _ hh14 rfl Tryz.func14 rfl (Nat.le_of_ble_eq_true rfl) rfl]
  simp only [hasB, pre, Tab.cells]
  obtain ⟨f, W, S, C⟩ := t
  simp only at *
  generalize S.flatMap _ = Y at *
  generalize W.flatMap _ = X at *
  generalize C.flatMap _ = Z at *
  by_cases h : i < C.length
  · rw [List.getElem?_eq_getElem h]
    have r := rr i h
    have z : i * 10 + 10 ≤ C.length * 10 := by omega
    simp only [Option.any_some]
    generalize hB : (List.range i).any _ = B
    simp [w0]
    rw [iter_find' (fun k => { fr := [(3, .box [.int .i64 f, .sl .sh W.length X, .sl .sh S.length Y, .sl .sh C.length Z]), (7, .int .i64 i), (8, .int .i64 k)], hp := hp, base := hp.length, dirty := false }) (fun k => (C[k]?).any (pairC C[i])) (.ret, { fr := [(6, .bool true)], hp := hp, base := hp.length, dirty := false }) (.exit 1, { fr := [(3, .box [.int .i64 f, .sl .sh W.length X, .sl .sh S.length Y, .sl .sh C.length Z]), (7, .int .i64 i), (8, .int .i64 i), (52, .bool false)], hp := hp, base := hp.length, dirty := false }) i]
    · rw [hB]
      cases B <;> simp
    · simp
    · omega
    · intro k hk
      rw [List.getElem?_eq_getElem (by omega)]
      have r' := rr k (by omega)
      have hk' : k < C.length := by omega
      have z' : k * 10 + 10 ≤ C.length * 10 := by omega
      have e0 := e C[i]
      have e1 := e C[k]
      simp only [Option.any_some]
      generalize C[i] = x at r e0 ⊢
      generalize C[k] = y at r' e1 ⊢
      have w1 := wrap_id (x := (k : Int) + 1) (by omega)
      have e2 : x.ok → y.ok → evalCall Tryz.prog hints (n + 4) 30 [.int .i64 x.base, .int .i64 x.size, .int .i64 y.base, .int .i64 y.size] hp = some (.bool (meets x.base (x.base + x.size) y.base (y.base + y.size)), hp, false) := fun h1 h2 => by
        unfold Cl.ok at h1 h2
        exact f30 n _ _ _ _ hp (by omega) (by omega) (by omega) (by omega)
      have e3 : x.ok → y.ok → evalCall Tryz.prog hints (n + 4) 30 [.int .i64 x.hb, .int .i64 x.hn, .int .i64 y.hb, .int .i64 y.hn] hp = some (.bool (meets x.hb (x.hb + x.hn) y.hb (y.hb + y.hn)), hp, false) := fun h1 h2 => by
        unfold Cl.ok at h1 h2
        exact f30 n _ _ _ _ hp (by omega) (by omega) (by omega) (by omega)
      obtain ⟨P, hP⟩ : ∃ P, P = pairC x y := ⟨_, rfl⟩
      rw [← hP]
      unfold pairC at hP
      generalize meets x.base (x.base + x.size) y.base (y.base + y.size) = m1 at e2 hP
      generalize meets x.hb (x.hb + x.hn) y.hb (y.hb + y.hn) = m2 at e3 hP
      by_cases h1 : x.ok
      · by_cases h2 : y.ok
        · have e2 := e2 h1 h2
          have e3 := e3 h1 h2
          simp only [h1, h2, decide_true, Bool.not_true, Bool.true_and] at *
          clear h1 h2
          obtain ⟨base, size, q, at_, nn, pr, id, irq, hb, hn⟩ := x
          obtain ⟨base', size', q', at_', nn', pr', id', irq', hb', hn'⟩ := y
          simp only [Cl.cells] at *
          by_cases c1 : id = id'
          · subst c1
            simp at hP
            simp [h, hk, hk', lC, r, r', z, z', w1, e0, e1, hP]
          have c1' : (id == id') = false := by simp [c1]
          by_cases c2 : irq = irq'
          · subst c2
            simp at hP
            simp [h, hk, hk', lC, r, r', z, z', w1, e0, e1, c1, c1', hP]
          have c2' : (irq == irq') = false := by simp [c2]
          simp only [c1, c2, decide_false, Bool.false_or] at hP
          cases m1 with
          | true =>
            simp only [Bool.true_or] at hP
            simp [h, hk, hk', lC, r, r', z, z', w1, e0, e1, c1, c1', c2, c2', e2, hP]
          | false =>
            simp only [Bool.false_or] at hP
            subst hP
            cases P <;> simp [h, hk, hk', lC, r, r', z, z', w1, e0, e1, c1, c1', c2, c2', e2, e3]
        · simp only [h1, h2, decide_true, decide_false, Bool.not_true, Bool.not_false, Bool.false_and, Bool.and_false] at *
          clear h1 h2 e2 e3
          obtain ⟨base, size, q, at_, nn, pr, id, irq, hb, hn⟩ := x
          obtain ⟨base', size', q', at_', nn', pr', id', irq', hb', hn'⟩ := y
          simp only [Cl.cells] at *
          simp [h, hk, hk', lC, r, r', z, z', w1, e0, e1, hP]
      · simp only [h1, decide_false, Bool.not_false, Bool.false_and] at *
        clear h1 e2 e3 e1
        obtain ⟨base, size, q, at_, nn, pr, id, irq, hb, hn⟩ := x
        obtain ⟨base', size', q', at_', nn', pr', id', irq', hb', hn'⟩ := y
        simp only [Cl.cells] at *
        simp [h, hk, hk', lC, r, r', z, z', w1, e0, hP]
    · simp [h]
    · simp
    · simp
  · rw [List.getElem?_eq_none (by omega)]
    simp only [Option.any_none]
    simp [w0]
    rw [iter_count (fun k => { fr := [(3, .box [.int .i64 f, .sl .sh W.length X, .sl .sh S.length Y, .sl .sh C.length Z]), (7, .int .i64 i), (8, .int .i64 k)], hp := hp, base := hp.length, dirty := false }) (.exit 1, { fr := [(3, .box [.int .i64 f, .sl .sh W.length X, .sl .sh S.length Y, .sl .sh C.length Z]), (7, .int .i64 i), (8, .int .i64 0), (52, .bool false)], hp := hp, base := hp.length, dirty := false }) 0]
    · simp
    · simp
    · omega
    · intro k hk; omega
    · have h' : ¬ ((i : Int) < C.length) := by omega
      by_cases h0 : 0 < i
      · simp [h, h0]
      · simp [h0]
    · simp
end Go.Proofs.YtknoiemnpllapaaGreat
end
