/-
  What functions of this program compute, as equations about the evaluator. No condition but those stated.
-/
import Derived.Test.YtknoiemnpllapaaGreatEqsD

set_option linter.all false
section
namespace Go.Proofs.YtknoiemnpllapaaGreat
open Go Go.PS
set_option maxHeartbeats 1000000 in
theorem f69_6 (n : Nat) (t : Tab) (r : Nat) (hp : Heap) (hf : frameB t = true) (hr : r ≤ 40) (hn : 60 < n) : evalCall Tryz.prog hints (n + 5) 14 [.agg t.cells, .int .i64 6, .int .i64 r] hp = some (.bool (hasB t 6 r), hp, false) := by
  have w0 := wrap_id (x := (r : Int) - 1) (by omega)
  have hf' := hf
  unfold frameB at hf'; simp only [decide_eq_true_eq] at hf'
  have lC := flat_len R3.len t.W
  have rr := fun k h => flat_row R3.len t.W k h
  have gg := fun k h => flat_get R3.len t.W k h 0 (by omega)
  rw [evalCall_at _ _ _ hh14 rfl Tryz.func14 rfl (Nat.le_of_ble_eq_true rfl) rfl]
  simp only [hasB, Tab.cells]
  rw [← any_range]
  obtain ⟨f, W, S, C⟩ := t
  simp only at *
  generalize S.flatMap _ = Y at *
  generalize W.flatMap _ = X at *
  generalize C.flatMap _ = Z at *
  generalize hB : (List.range W.length).any _ = B
  simp [w0]
  rw [iter_find' (fun k => { fr := [(2, .int .i64 r), (3, .box [.int .i64 f, .sl .sh W.length X, .sl .sh S.length Y, .sl .sh C.length Z]), (14, .int .i64 k)], hp := hp, base := hp.length, dirty := false }) (fun k => (W[k]?).any fun w : R3 => decide (w.o = (r : Int))) (.ret, { fr := [(6, .bool false)], hp := hp, base := hp.length, dirty := false }) (.exit 5, { fr := [(2, .int .i64 r), (3, .box [.int .i64 f, .sl .sh W.length X, .sl .sh S.length Y, .sl .sh C.length Z]), (14, .int .i64 W.length), (177, .bool false)], hp := hp, base := hp.length, dirty := false }) W.length]
  · rw [hB]
    cases B <;> simp
  · simp
  · omega
  · intro k hk
    rw [List.getElem?_eq_getElem (by omega)]
    have r' := rr k (by omega)
    have g := gg k (by omega)
    have z' : k * 3 + 3 ≤ W.length * 3 := by omega
    simp only [Option.any_some]
    generalize W[k] = x at r' g ⊢
    have w1 := wrap_id (x := (k : Int) + 1) (by omega)
    obtain ⟨o, a, b⟩ := x
    simp only [R3.cells, Nat.add_zero, List.getElem?_cons_zero] at *
    by_cases c : o = r
    · subst c
      simp [-getElem?_pos, List.getElem?_cons_zero, hk, lC, r', z', w1, g]
    · have c' : (o == (r : Int)) = false := by simp [c]
      simp [-getElem?_pos, List.getElem?_cons_zero, hk, lC, r', z', w1, g, c, c']
  · simp
  · simp
  · simp
set_option maxHeartbeats 1000000 in
theorem f69_7n (n : Nat) (t : Tab) (r : Nat) (hp : Heap) (h0 : r ≠ 0) (hr : r ≤ 40) (hn : 60 < n) : evalCall Tryz.prog hints (n + 5) 14 [.agg t.cells, .int .i64 7, .int .i64 r] hp = some (.bool (hasB t 7 r), hp, false) := by
  have w0 := wrap_id (x := (r : Int) - 1) (by omega)
  rw [evalCall_at _ _ _ hh14 rfl Tryz.func14 rfl (Nat.le_of_ble_eq_true rfl) rfl]
  simp only [hasB, Tab.cells, ioW_ne t r h0]
  generalize t.S.flatMap _ = Y at *
  generalize t.W.flatMap _ = X at *
  generalize t.C.flatMap _ = Z at *
  generalize t.W.length = nW at *
  have c : ((r : Int) == 0) = false := by simp [h0]
  simp [w0]
  rw [iter_count (fun k => { fr := [(2, .int .i64 r), (3, .box [.int .i64 t.f, .sl .sh nW X, .sl .sh t.S.length Y, .sl .sh t.C.length Z]), (15, .int .i64 k)], hp := hp, base := hp.length, dirty := false }) (.exit 7, { fr := [(2, .int .i64 r), (3, .box [.int .i64 t.f, .sl .sh nW X, .sl .sh t.S.length Y, .sl .sh t.C.length Z]), (15, .int .i64 0), (203, .bool false)], hp := hp, base := hp.length, dirty := false }) 0]
  · simp
  · simp
  · omega
  · intro k hk; omega
  · by_cases h1 : 0 < nW
    · simp [h1, c]
    · simp [h1]
  · simp
set_option maxHeartbeats 1000000 in
theorem f69_7 (n : Nat) (t : Tab) (hp : Heap) (hf : frameB t = true) (hn : 60 < n) : evalCall Tryz.prog hints (n + 5) 14 [.agg t.cells, .int .i64 7, .int .i64 0] hp = some (.bool (hasB t 7 0), hp, false) := by
  have w0 := wrap_id (x := (-1 : Int)) (by omega)
  have hf' := hf
  unfold frameB at hf'; simp only [decide_eq_true_eq] at hf'
  have lC := flat_len R3.len t.W
  have rr := fun k h => flat_row R3.len t.W k h
  have g0 := fun k h => flat_get R3.len t.W k h 0 (by omega)
  have g1 := fun k h => flat_get R3.len t.W k h 1 (by omega)
  have g2 := fun k h => flat_get R3.len t.W k h 2 (by omega)
  have e91 := fun w => f31 (n + 3) t w hp
  have io := fun k h => ioW_drop t t.W k h
  rw [evalCall_at _ _ _ hh14 rfl Tryz.func14 rfl (Nat.le_of_ble_eq_true rfl) rfl]
  simp only [hasB]
  simp only [Tab.cells] at e91 ⊢
  generalize t.S.flatMap _ = Y at *
  generalize t.W.flatMap _ = X at *
  generalize t.C.flatMap _ = Z at *
  obtain ⟨V, hV⟩ : ∃ V, V = ioW t 0 t.W := ⟨_, rfl⟩
  rw [← hV]
  simp [w0]
  generalize hit : iter _ _ _ = R
  refine iter_elim hit (fun k : Nat => { fr := [(2, .int .i64 0), (3, .box [.int .i64 t.f, .sl .sh t.W.length X, .sl .sh t.S.length Y, .sl .sh t.C.length Z]), (15, .int .i64 k)], hp := hp, base := hp.length, dirty := false })
    (fun k => k ≤ t.W.length ∧ ioW t 0 (t.W.drop k) = V) (fun k => t.W.length - k)
    (fun x : Bool => if x then (.exit 7, { fr := [(2, .int .i64 0), (3, .box [.int .i64 t.f, .sl .sh t.W.length X, .sl .sh t.S.length Y, .sl .sh t.C.length Z]), (15, .int .i64 t.W.length), (203, .bool false)], hp := hp, base := hp.length, dirty := false })
      else (.ret, { fr := [(6, .bool V)], hp := hp, base := hp.length, dirty := false }))
    (fun x => x = true → V = false) 0 (by simp) ⟨by omega, by simp [hV]⟩ (by omega) ?_ ?_
  · rintro k ⟨h1, h2⟩
    by_cases hk : k < t.W.length
    · have io := io k hk
      have r' := rr k hk
      have g0 := g0 k hk
      have g1 := g1 k hk
      have g2 := g2 k hk
      have z' : k * 3 + 3 ≤ t.W.length * 3 := by omega
      have e := e91 t.W[k]
      have w1 := wrap_id (x := (k : Int) + 1) (by omega)
      have w2 := wrap_id (x := 2 * (t.C.length : Int)) (by omega)
      have hok : okW t t.W[k] = true → 0 ≤ t.W[k].a ∧ t.W[k].a < t.W[k].b ∧ t.W[k].b ≤ 4096 := by
        unfold okW; simp only [decide_eq_true_eq]; omega
      generalize t.W[k] = x at *
      generalize okW t x = ok at *
      obtain ⟨o, a, b⟩ := x
      simp only [R3.cells, Nat.add_zero, List.getElem?_cons_zero, List.getElem?_cons_succ] at *
      by_cases c : o = 0
      · subst c
        rw [h2] at io
        simp only [if_true] at io
        right
        refine ⟨false, ?_, by simp, by simp⟩
        cases ok with
        | false =>
          simp only [Bool.false_and] at io
          simp [-getElem?_pos, List.getElem?_cons_zero, hk, lC, r', z', w1, w2, g0, g1, g2, e, io]
        | true =>
          have hok := hok rfl
          have w3 := wrap_id (x := b - a) (by omega)
          simp only [Bool.true_and] at io
          by_cases c3 : b - a < 2 * (t.C.length : Int)
          · simp only [c3, decide_true] at io
            simp [-getElem?_pos, List.getElem?_cons_zero, hk, lC, r', z', w1, w2, w3, g0, g1, g2, e, io, c3]
          · simp only [c3, decide_false] at io
            simp [-getElem?_pos, List.getElem?_cons_zero, hk, lC, r', z', w1, w2, w3, g0, g1, g2, e, io, c3]
      · have c' : (o == 0) = false := by simp [c]
        rw [h2, if_neg c] at io
        left
        refine ⟨k + 1, ?_, ⟨by omega, io.symm⟩, by omega⟩
        simp [-getElem?_pos, List.getElem?_cons_zero, hk, lC, r', z', w1, g0, c, c']
    · right
      have : k = t.W.length := by omega
      subst this
      rw [List.drop_length] at h2
      refine ⟨true, ?_, by simp, fun _ => h2.symm⟩
      simp
  · rintro b rfl h
    cases b with
    | true =>
      have h : V = false := h rfl
      subst h
      simp
    | false => simp
end Go.Proofs.YtknoiemnpllapaaGreat
end

section
namespace Go.Proofs.YtknoiemnpllapaaGreat
open Go Go.PS
theorem f69_z2 (n : Nat) (t : Tab) (hp : Heap) (hn : 60 < n) : evalCall Tryz.prog hints (n + 5) 14 [.agg t.cells, .int .i64 2, .int .i64 0] hp = some (.bool (hasB t 2 0), hp, false) := by
  have w0 := wrap_id (x := (-1 : Int)) (by omega)
  rw [evalCall_at _ _ _ hh14 rfl Tryz.func14 rfl (Nat.le_of_ble_eq_true rfl) rfl]
  simp only [Tab.cells, hasB, ats, pre]
  generalize t.S.flatMap _ = Y at *
  generalize t.W.flatMap _ = X at *
  generalize t.C.flatMap _ = Z at *
  simp [w0]
theorem f69_z3 (n : Nat) (t : Tab) (hp : Heap) (hn : 60 < n) : evalCall Tryz.prog hints (n + 5) 14 [.agg t.cells, .int .i64 3, .int .i64 0] hp = some (.bool (hasB t 3 0), hp, false) := by
  have w0 := wrap_id (x := (-1 : Int)) (by omega)
  rw [evalCall_at _ _ _ hh14 rfl Tryz.func14 rfl (Nat.le_of_ble_eq_true rfl) rfl]
  simp only [Tab.cells, hasB, ats, pre]
  generalize t.S.flatMap _ = Y at *
  generalize t.W.flatMap _ = X at *
  generalize t.C.flatMap _ = Z at *
  simp [w0]
  rw [iter_count (fun k => { fr := [(3, .box [.int .i64 t.f, .sl .sh t.W.length X, .sl .sh t.S.length Y, .sl .sh t.C.length Z]), (7, .int .i64 (-1)), (8, .int .i64 k)], hp := hp, base := hp.length, dirty := false }) (.exit 1, { fr := [(3, .box [.int .i64 t.f, .sl .sh t.W.length X, .sl .sh t.S.length Y, .sl .sh t.C.length Z]), (7, .int .i64 (-1)), (8, .int .i64 0), (52, .bool false)], hp := hp, base := hp.length, dirty := false }) 0]
  · simp
  · simp
  · omega
  · intro k hk; omega
  · simp
  · simp
theorem f69_z4 (n : Nat) (t : Tab) (hp : Heap) (hn : 60 < n) : evalCall Tryz.prog hints (n + 5) 14 [.agg t.cells, .int .i64 4, .int .i64 0] hp = some (.bool (hasB t 4 0), hp, false) := by
  have w0 := wrap_id (x := (-1 : Int)) (by omega)
  rw [evalCall_at _ _ _ hh14 rfl Tryz.func14 rfl (Nat.le_of_ble_eq_true rfl) rfl]
  simp only [Tab.cells, hasB, ats, pre]
  generalize t.S.flatMap _ = Y at *
  generalize t.W.flatMap _ = X at *
  generalize t.C.flatMap _ = Z at *
  simp [w0]
theorem f69_z5 (n : Nat) (t : Tab) (hp : Heap) (hn : 60 < n) : evalCall Tryz.prog hints (n + 5) 14 [.agg t.cells, .int .i64 5, .int .i64 0] hp = some (.bool (hasB t 5 0), hp, false) := by
  have w0 := wrap_id (x := (-1 : Int)) (by omega)
  rw [evalCall_at _ _ _ hh14 rfl Tryz.func14 rfl (Nat.le_of_ble_eq_true rfl) rfl]
  simp only [Tab.cells, hasB, ats, pre]
  generalize t.S.flatMap _ = Y at *
  generalize t.W.flatMap _ = X at *
  generalize t.C.flatMap _ = Z at *
  simp [w0]
  rw [iter_count (fun k => { fr := [(3, .box [.int .i64 t.f, .sl .sh t.W.length X, .sl .sh t.S.length Y, .sl .sh t.C.length Z]), (7, .int .i64 (-1)), (11, .int .i64 k)], hp := hp, base := hp.length, dirty := false }) (.exit 3, { fr := [(3, .box [.int .i64 t.f, .sl .sh t.W.length X, .sl .sh t.S.length Y, .sl .sh t.C.length Z]), (7, .int .i64 (-1)), (11, .int .i64 0), (140, .bool false)], hp := hp, base := hp.length, dirty := false }) 0]
  · simp
  · simp
  · omega
  · intro k hk; omega
  · simp
  · simp
theorem f69_z8 (n : Nat) (t : Tab) (hp : Heap) (hn : 60 < n) : evalCall Tryz.prog hints (n + 5) 14 [.agg t.cells, .int .i64 8, .int .i64 0] hp = some (.bool (hasB t 8 0), hp, false) := by
  have w0 := wrap_id (x := (-1 : Int)) (by omega)
  rw [evalCall_at _ _ _ hh14 rfl Tryz.func14 rfl (Nat.le_of_ble_eq_true rfl) rfl]
  simp only [Tab.cells, hasB, ats, pre]
  generalize t.S.flatMap _ = Y at *
  generalize t.W.flatMap _ = X at *
  generalize t.C.flatMap _ = Z at *
  simp [w0]
theorem f69_z9 (n : Nat) (t : Tab) (hp : Heap) (hn : 60 < n) : evalCall Tryz.prog hints (n + 5) 14 [.agg t.cells, .int .i64 9, .int .i64 0] hp = some (.bool (hasB t 9 0), hp, false) := by
  have w0 := wrap_id (x := (-1 : Int)) (by omega)
  rw [evalCall_at _ _ _ hh14 rfl Tryz.func14 rfl (Nat.le_of_ble_eq_true rfl) rfl]
  simp only [Tab.cells, hasB, ats, pre]
  generalize t.S.flatMap _ = Y at *
  generalize t.W.flatMap _ = X at *
  generalize t.C.flatMap _ = Z at *
  simp [w0]
  rw [iter_count (fun k => { fr := [(3, .box [.int .i64 t.f, .sl .sh t.W.length X, .sl .sh t.S.length Y, .sl .sh t.C.length Z]), (7, .int .i64 (-1)), (16, .int .i64 k)], hp := hp, base := hp.length, dirty := false }) (.exit 9, { fr := [(3, .box [.int .i64 t.f, .sl .sh t.W.length X, .sl .sh t.S.length Y, .sl .sh t.C.length Z]), (7, .int .i64 (-1)), (16, .int .i64 0), (272, .bool false)], hp := hp, base := hp.length, dirty := false }) 0]
  · simp
  · simp
  · omega
  · intro k hk; omega
  · simp
  · simp
theorem f69_z10 (n : Nat) (t : Tab) (hp : Heap) (hn : 60 < n) : evalCall Tryz.prog hints (n + 5) 14 [.agg t.cells, .int .i64 10, .int .i64 0] hp = some (.bool (hasB t 10 0), hp, false) := by
  have w0 := wrap_id (x := (-1 : Int)) (by omega)
  rw [evalCall_at _ _ _ hh14 rfl Tryz.func14 rfl (Nat.le_of_ble_eq_true rfl) rfl]
  simp only [Tab.cells, hasB, ats, pre]
  generalize t.S.flatMap _ = Y at *
  generalize t.W.flatMap _ = X at *
  generalize t.C.flatMap _ = Z at *
  simp [w0]
end Go.Proofs.YtknoiemnpllapaaGreat
end
