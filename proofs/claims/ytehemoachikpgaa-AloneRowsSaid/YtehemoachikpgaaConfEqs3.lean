/-
  What functions of this program compute, as equations about the evaluator. No condition but those stated.
-/
import Derived.Test.YtehemoachikpgaaConfEqs2
set_option linter.all false
section
namespace Go.Proofs.Ytehemoachikpgaa
open Go Go.PS
set_option maxHeartbeats 2000000 in
theorem f69_9 (n : Nat) (t : Tab) (i : Nat) (hp : Heap) (hi : i ≤ 40) (hn : 60 < n) : evalCall Try.prog hints (n + 5) 65 [.agg t.cells, .int .i64 9, .int .i64 ((i : Int) + 1)] hp = some (.bool (hasB t 9 (i + 1)), hp, false) := by
  have w0 := wrap_id (x := (i : Int)) (by omega)
  have lC := flat_len R3.len t.S
  have rr := fun k h => flat_row R3.len t.S k h
  have e := fun a b c d => f63 (n + 1) a b c d hp
  rw [evalCall_at _ _ _ hh65 rfl Try.func65 rfl (Nat.le_of_ble_eq_true rfl) rfl]
  simp only [hasB, pre, Tab.cells]
  obtain ⟨f, W, S, C⟩ := t
  simp only at *
  generalize S.flatMap _ = Y at *
  generalize W.flatMap _ = X at *
  generalize C.flatMap _ = Z at *
  by_cases h : i < S.length
  · rw [List.getElem?_eq_getElem h]
    have r := rr i h
    have z : i * 3 + 3 ≤ S.length * 3 := by omega
    simp only [Option.any_some]
    generalize hB : (List.range i).any _ = B
    simp [w0]
    rw [iter_find' (fun k => { fr := [(3, .box [.int .i64 f, .sl .sh W.length X, .sl .sh S.length Y, .sl .sh C.length Z]), (7, .int .i64 i), (16, .int .i64 k)], hp := hp, base := hp.length, dirty := false }) (fun k => (S[k]?).any (pairS S[i])) (.ret, { fr := [(6, .bool true)], hp := hp, base := hp.length, dirty := false }) (.exit 9, { fr := [(3, .box [.int .i64 f, .sl .sh W.length X, .sl .sh S.length Y, .sl .sh C.length Z]), (7, .int .i64 i), (16, .int .i64 i), (272, .bool false)], hp := hp, base := hp.length, dirty := false }) i]
    · rw [hB]
      cases B <;> simp
    · simp
    · omega
    · intro k hk
      rw [List.getElem?_eq_getElem (by omega)]
      have r' := rr k (by omega)
      have hk' : k < S.length := by omega
      have z' : k * 3 + 3 ≤ S.length * 3 := by omega
      simp only [Option.any_some]
      generalize S[i] = x at r ⊢
      generalize S[k] = y at r' ⊢
      have w1 := wrap_id (x := (k : Int) + 1) (by omega)
      have e := e x.a x.b y.a y.b
      obtain ⟨P, hP⟩ : ∃ P, P = pairS x y := ⟨_, rfl⟩
      rw [← hP]
      unfold pairS at hP
      generalize meets x.a x.b y.a y.b = m1 at e hP
      obtain ⟨o, a, b⟩ := x
      obtain ⟨o', a', b'⟩ := y
      simp only [R3.cells] at *
      subst hP
      cases P <;> simp [h, hk, hk', lC, r, r', z, z', w1, e]
    · simp [h]
    · simp
    · simp
  · rw [List.getElem?_eq_none (by omega)]
    simp only [Option.any_none]
    simp [w0]
    rw [iter_count (fun k => { fr := [(3, .box [.int .i64 f, .sl .sh W.length X, .sl .sh S.length Y, .sl .sh C.length Z]), (7, .int .i64 i), (16, .int .i64 k)], hp := hp, base := hp.length, dirty := false }) (.exit 9, { fr := [(3, .box [.int .i64 f, .sl .sh W.length X, .sl .sh S.length Y, .sl .sh C.length Z]), (7, .int .i64 i), (16, .int .i64 0), (272, .bool false)], hp := hp, base := hp.length, dirty := false }) 0]
    · simp
    · simp
    · omega
    · intro k hk; omega
    · have h' : ¬ ((i : Int) < S.length) := by omega
      by_cases h0 : 0 < i
      · simp [h, h0]
      · simp [h0]
    · simp
end Go.Proofs.Ytehemoachikpgaa
end

section
namespace Go.Proofs.Ytehemoachikpgaa
open Go Go.PS
set_option maxHeartbeats 1000000 in
theorem f69_4 (n : Nat) (t : Tab) (i : Nat) (hp : Heap) (hf : frameB t = true) (hi : i ≤ 40) (hn : 60 < n) : evalCall Try.prog hints (n + 5) 65 [.agg t.cells, .int .i64 4, .int .i64 ((i : Int) + 1)] hp = some (.bool (hasB t 4 (i + 1)), hp, false) := by
  have w0 := wrap_id (x := (i : Int)) (by omega)
  have hf' := hf
  unfold frameB at hf'; simp only [decide_eq_true_eq] at hf'
  have e := fun w => f89 (n + 3) t w hp
  have lC := flat_len R3.len t.W
  rw [evalCall_at _ _ _ hh65 rfl Try.func65 rfl (Nat.le_of_ble_eq_true rfl) rfl]
  simp only [hasB, ats]
  by_cases h : i < t.W.length
  · rw [List.getElem?_eq_getElem h]
    have r := flat_row R3.len t.W i h
    have z : i * 3 + 3 ≤ t.W.length * 3 := by omega
    have e := e t.W[i]
    simp only [Option.any_some]
    generalize t.W[i] = c at *
    generalize (!okW t c) = b at *
    obtain ⟨c1, c2, c3⟩ := c
    simp only [R3.cells, Tab.cells] at *
    generalize t.S.flatMap _ = Y at *
    generalize t.W.flatMap _ = X at *
    generalize t.C.flatMap _ = Z at *
    simp [w0, h, lC, r, z, e]
  · rw [List.getElem?_eq_none (by omega)]
    simp only [Option.any_none, Tab.cells]
    have h' : ¬ ((i : Int) < t.W.length) := by omega
    clear e
    generalize t.S.flatMap _ = Y at *
    generalize t.W.flatMap _ = X at *
    generalize t.C.flatMap _ = Z at *
    simp [w0, h]
set_option maxHeartbeats 1000000 in
theorem f69_8 (n : Nat) (t : Tab) (i : Nat) (hp : Heap) (hf : frameB t = true) (hi : i ≤ 40) (hn : 60 < n) : evalCall Try.prog hints (n + 5) 65 [.agg t.cells, .int .i64 8, .int .i64 ((i : Int) + 1)] hp = some (.bool (hasB t 8 (i + 1)), hp, false) := by
  have w0 := wrap_id (x := (i : Int)) (by omega)
  have hf' := hf
  unfold frameB at hf'; simp only [decide_eq_true_eq] at hf'
  have e := fun w => f90 (n + 3) t w hp hf'.2.1
  have lC := flat_len R3.len t.S
  rw [evalCall_at _ _ _ hh65 rfl Try.func65 rfl (Nat.le_of_ble_eq_true rfl) rfl]
  simp only [hasB, ats]
  by_cases h : i < t.S.length
  · rw [List.getElem?_eq_getElem h]
    have r := flat_row R3.len t.S i h
    have z : i * 3 + 3 ≤ t.S.length * 3 := by omega
    have e := e t.S[i]
    simp only [Option.any_some]
    generalize t.S[i] = c at *
    generalize (!okS t c) = b at *
    obtain ⟨c1, c2, c3⟩ := c
    simp only [R3.cells, Tab.cells] at *
    generalize t.S.flatMap _ = Y at *
    generalize t.W.flatMap _ = X at *
    generalize t.C.flatMap _ = Z at *
    simp [w0, h, lC, r, z, e]
  · rw [List.getElem?_eq_none (by omega)]
    simp only [Option.any_none, Tab.cells]
    have h' : ¬ ((i : Int) < t.S.length) := by omega
    clear e
    generalize t.S.flatMap _ = Y at *
    generalize t.W.flatMap _ = X at *
    generalize t.C.flatMap _ = Z at *
    simp [w0, h]
set_option maxHeartbeats 1000000 in
theorem f69_10 (n : Nat) (t : Tab) (i : Nat) (hp : Heap) (hf : frameB t = true) (hi : i ≤ 40) (hn : 60 < n) : evalCall Try.prog hints (n + 5) 65 [.agg t.cells, .int .i64 10, .int .i64 ((i : Int) + 1)] hp = some (.bool (hasB t 10 (i + 1)), hp, false) := by
  have w0 := wrap_id (x := (i : Int)) (by omega)
  have hf' := hf
  unfold frameB at hf'; simp only [decide_eq_true_eq] at hf'
  have e := f91 (n + 2) t ((i : Int) + 1) hp hf (by omega)
  have lC := flat_len Cl.len t.C
  rw [evalCall_at _ _ _ hh65 rfl Try.func65 rfl (Nat.le_of_ble_eq_true rfl) rfl]
  simp only [hasB, ats]
  by_cases h : i < t.C.length
  · rw [List.getElem?_eq_getElem h]
    have r := flat_row Cl.len t.C i h
    have g := flat_get Cl.len t.C i h 4 (by omega)
    have z : i * 10 + 10 ≤ t.C.length * 10 := by omega
    simp only [Option.any_some]
    rw [show ((i + 1 : Nat) : Int) = (i : Int) + 1 by omega]
    unfold overU
    generalize t.C[i] = c at *
    generalize units t ((i : Int) + 1) t.S = u at *
    obtain ⟨c1, c2, c3, c4, c5, c6, c7, c8, c9, c10⟩ := c
    simp only [Cl.cells, Tab.cells] at *
    simp only [List.getElem?_cons_zero, List.getElem?_cons_succ] at g
    generalize t.S.flatMap _ = Y at *
    generalize t.W.flatMap _ = X at *
    generalize t.C.flatMap _ = Z at *
    simp [-getElem?_pos, List.getElem?_cons_zero, w0, h, lC, r, z, e, g]
  · rw [List.getElem?_eq_none (by omega)]
    simp only [Option.any_none, Tab.cells]
    have h' : ¬ ((i : Int) < t.C.length) := by omega
    clear e
    generalize t.S.flatMap _ = Y at *
    generalize t.W.flatMap _ = X at *
    generalize t.C.flatMap _ = Z at *
    simp [w0, h]
end Go.Proofs.Ytehemoachikpgaa
end

section
namespace Go.Proofs.Ytehemoachikpgaa
open Go Go.PS
set_option maxHeartbeats 1000000 in
theorem f69_6 (n : Nat) (t : Tab) (r : Nat) (hp : Heap) (hf : frameB t = true) (hr : r ≤ 40) (hn : 60 < n) : evalCall Try.prog hints (n + 5) 65 [.agg t.cells, .int .i64 6, .int .i64 r] hp = some (.bool (hasB t 6 r), hp, false) := by
  have w0 := wrap_id (x := (r : Int) - 1) (by omega)
  have hf' := hf
  unfold frameB at hf'; simp only [decide_eq_true_eq] at hf'
  have lC := flat_len R3.len t.W
  have rr := fun k h => flat_row R3.len t.W k h
  have gg := fun k h => flat_get R3.len t.W k h 0 (by omega)
  rw [evalCall_at _ _ _ hh65 rfl Try.func65 rfl (Nat.le_of_ble_eq_true rfl) rfl]
  simp only [hasB, Tab.cells]
  rw [← any_range]
  obtain ⟨f, W, S, C⟩ := t
  simp only at *
  generalize S.flatMap _ = Y at *
  generalize W.flatMap _ = X at *
  generalize C.flatMap _ = Z at *
  generalize hB : (List.range W.length).any _ = B
  simp [w0]
  rw [iter_find' (fun k => { fr := [(2, .int .i64 r), (3, .box [.int .i64 f, .sl .sh W.length X, .sl .sh S.length Y, .sl .sh C.length Z]), (14, .int .i64 k)], hp := hp, base := hp.length, dirty := false }) (fun k => (W[k]?).any fun w : R3 => decide (w.o = (r : Int))) (.ret, { fr := [(6, .bool false)], hp := hp, base := hp.length, dirty := false }) (.exit 5, { fr := [(2, .int .i64 r), (3, .box [.int .i64 f, .sl .sh W.length X, .sl .sh S.length Y, .sl .sh C.length Z]), (14, .int .i64 W.length), (177, .bool false)], hp := hp, base := hp.length, dirty := false }) W.length]
  · rw [hB]
    cases B <;> simp
  · simp
  · omega
  · intro k hk
    rw [List.getElem?_eq_getElem (by omega)]
    have r' := rr k (by omega)
    have g := gg k (by omega)
    have z' : k * 3 + 3 ≤ W.length * 3 := by omega
    simp only [Option.any_some]
    generalize W[k] = x at r' g ⊢
    have w1 := wrap_id (x := (k : Int) + 1) (by omega)
    obtain ⟨o, a, b⟩ := x
    simp only [R3.cells, Nat.add_zero, List.getElem?_cons_zero] at *
    by_cases c : o = r
    · subst c
      simp [-getElem?_pos, List.getElem?_cons_zero, hk, lC, r', z', w1, g]
    · have c' : (o == (r : Int)) = false := by simp [c]
      simp [-getElem?_pos, List.getElem?_cons_zero, hk, lC, r', z', w1, g, c, c']
  · simp
  · simp
  · simp
set_option maxHeartbeats 1000000 in
theorem f69_7n (n : Nat) (t : Tab) (r : Nat) (hp : Heap) (h0 : r ≠ 0) (hr : r ≤ 40) (hn : 60 < n) : evalCall Try.prog hints (n + 5) 65 [.agg t.cells, .int .i64 7, .int .i64 r] hp = some (.bool (hasB t 7 r), hp, false) := by
  have w0 := wrap_id (x := (r : Int) - 1) (by omega)
  rw [evalCall_at _ _ _ hh65 rfl Try.func65 rfl (Nat.le_of_ble_eq_true rfl) rfl]
  simp only [hasB, Tab.cells, ioW_ne t r h0]
  generalize t.S.flatMap _ = Y at *
  generalize t.W.flatMap _ = X at *
  generalize t.C.flatMap _ = Z at *
  generalize t.W.length = nW at *
  have c : ((r : Int) == 0) = false := by simp [h0]
  simp [w0]
  rw [iter_count (fun k => { fr := [(2, .int .i64 r), (3, .box [.int .i64 t.f, .sl .sh nW X, .sl .sh t.S.length Y, .sl .sh t.C.length Z]), (15, .int .i64 k)], hp := hp, base := hp.length, dirty := false }) (.exit 7, { fr := [(2, .int .i64 r), (3, .box [.int .i64 t.f, .sl .sh nW X, .sl .sh t.S.length Y, .sl .sh t.C.length Z]), (15, .int .i64 0), (203, .bool false)], hp := hp, base := hp.length, dirty := false }) 0]
  · simp
  · simp
  · omega
  · intro k hk; omega
  · by_cases h1 : 0 < nW
    · simp [h1, c]
    · simp [h1]
  · simp
set_option maxHeartbeats 1000000 in
theorem f69_7 (n : Nat) (t : Tab) (hp : Heap) (hf : frameB t = true) (hn : 60 < n) : evalCall Try.prog hints (n + 5) 65 [.agg t.cells, .int .i64 7, .int .i64 0] hp = some (.bool (hasB t 7 0), hp, false) := by
  have w0 := wrap_id (x := (-1 : Int)) (by omega)
  have hf' := hf
  unfold frameB at hf'; simp only [decide_eq_true_eq] at hf'
  have lC := flat_len R3.len t.W
  have rr := fun k h => flat_row R3.len t.W k h
  have g0 := fun k h => flat_get R3.len t.W k h 0 (by omega)
  have g1 := fun k h => flat_get R3.len t.W k h 1 (by omega)
  have g2 := fun k h => flat_get R3.len t.W k h 2 (by omega)
  have e91 := fun w => f89 (n + 3) t w hp
  have io := fun k h => ioW_drop t t.W k h
  rw [evalCall_at _ _ _ hh65 rfl Try.func65 rfl (Nat.le_of_ble_eq_true rfl) rfl]
  simp only [hasB]
  simp only [Tab.cells] at e91 ⊢
  generalize t.S.flatMap _ = Y at *
  generalize t.W.flatMap _ = X at *
  generalize t.C.flatMap _ = Z at *
  obtain ⟨V, hV⟩ : ∃ V, V = ioW t 0 t.W := ⟨_, rfl⟩
  rw [← hV]
  simp [w0]
  generalize hit : iter _ _ _ = R
  refine iter_elim hit (fun k : Nat => { fr := [(2, .int .i64 0), (3, .box [.int .i64 t.f, .sl .sh t.W.length X, .sl .sh t.S.length Y, .sl .sh t.C.length Z]), (15, .int .i64 k)], hp := hp, base := hp.length, dirty := false })
    (fun k => k ≤ t.W.length ∧ ioW t 0 (t.W.drop k) = V) (fun k => t.W.length - k)
    (fun x : Bool => if x then (.exit 7, { fr := [(2, .int .i64 0), (3, .box [.int .i64 t.f, .sl .sh t.W.length X, .sl .sh t.S.length Y, .sl .sh t.C.length Z]), (15, .int .i64 t.W.length), (203, .bool false)], hp := hp, base := hp.length, dirty := false })
      else (.ret, { fr := [(6, .bool V)], hp := hp, base := hp.length, dirty := false }))
    (fun x => x = true → V = false) 0 (by simp) ⟨by omega, by simp [hV]⟩ (by omega) ?_ ?_
  · rintro k ⟨h1, h2⟩
    by_cases hk : k < t.W.length
    · have io := io k hk
      have r' := rr k hk
      have g0 := g0 k hk
      have g1 := g1 k hk
      have g2 := g2 k hk
      have z' : k * 3 + 3 ≤ t.W.length * 3 := by omega
      have e := e91 t.W[k]
      have w1 := wrap_id (x := (k : Int) + 1) (by omega)
      have w2 := wrap_id (x := 2 * (t.C.length : Int)) (by omega)
      have hok : okW t t.W[k] = true → 0 ≤ t.W[k].a ∧ t.W[k].a < t.W[k].b ∧ t.W[k].b ≤ 4096 := by
        unfold okW; simp only [decide_eq_true_eq]; omega
      generalize t.W[k] = x at *
      generalize okW t x = ok at *
      obtain ⟨o, a, b⟩ := x
      simp only [R3.cells, Nat.add_zero, List.getElem?_cons_zero, List.getElem?_cons_succ] at *
      by_cases c : o = 0
      · subst c
        rw [h2] at io
        simp only [if_true] at io
        right
        refine ⟨false, ?_, by simp, by simp⟩
        cases ok with
        | false =>
          simp only [Bool.false_and] at io
          simp [-getElem?_pos, List.getElem?_cons_zero, hk, lC, r', z', w1, w2, g0, g1, g2, e, io]
        | true =>
          have hok := hok rfl
          have w3 := wrap_id (x := b - a) (by omega)
          simp only [Bool.true_and] at io
          by_cases c3 : b - a < 2 * (t.C.length : Int)
          · simp only [c3, decide_true] at io
            simp [-getElem?_pos, List.getElem?_cons_zero, hk, lC, r', z', w1, w2, w3, g0, g1, g2, e, io, c3]
          · simp only [c3, decide_false] at io
            simp [-getElem?_pos, List.getElem?_cons_zero, hk, lC, r', z', w1, w2, w3, g0, g1, g2, e, io, c3]
      · have c' : (o == 0) = false := by simp [c]
        rw [h2, if_neg c] at io
        left
        refine ⟨k + 1, ?_, ⟨by omega, io.symm⟩, by omega⟩
        simp [-getElem?_pos, List.getElem?_cons_zero, hk, lC, r', z', w1, g0, c, c']
    · right
      have : k = t.W.length := by omega
      subst this
      rw [List.drop_length] at h2
      refine ⟨true, ?_, by simp, fun _ => h2.symm⟩
      simp
  · rintro b rfl h
    cases b with
    | true =>
      have h : V = false := h rfl
      subst h
      simp
    | false => simp
end Go.Proofs.Ytehemoachikpgaa
end

section
namespace Go.Proofs.Ytehemoachikpgaa
open Go Go.PS
theorem f69_z2 (n : Nat) (t : Tab) (hp : Heap) (hn : 60 < n) : evalCall Try.prog hints (n + 5) 65 [.agg t.cells, .int .i64 2, .int .i64 0] hp = some (.bool (hasB t 2 0), hp, false) := by
  have w0 := wrap_id (x := (-1 : Int)) (by omega)
  rw [evalCall_at _ _ _ hh65 rfl Try.func65 rfl (Nat.le_of_ble_eq_true rfl) rfl]
  simp only [Tab.cells, hasB, ats, pre]
  generalize t.S.flatMap _ = Y at *
  generalize t.W.flatMap _ = X at *
  generalize t.C.flatMap _ = Z at *
  simp [w0]
theorem f69_z3 (n : Nat) (t : Tab) (hp : Heap) (hn : 60 < n) : evalCall Try.prog hints (n + 5) 65 [.agg t.cells, .int .i64 3, .int .i64 0] hp = some (.bool (hasB t 3 0), hp, false) := by
  have w0 := wrap_id (x := (-1 : Int)) (by omega)
  rw [evalCall_at _ _ _ hh65 rfl Try.func65 rfl (Nat.le_of_ble_eq_true rfl) rfl]
  simp only [Tab.cells, hasB, ats, pre]
  generalize t.S.flatMap _ = Y at *
  generalize t.W.flatMap _ = X at *
  generalize t.C.flatMap _ = Z at *
  simp [w0]
  rw [iter_count (fun k => { fr := [(3, .box [.int .i64 t.f, .sl .sh t.W.length X, .sl .sh t.S.length Y, .sl .sh t.C.length Z]), (7, .int .i64 (-1)), (8, .int .i64 k)], hp := hp, base := hp.length, dirty := false }) (.exit 1, { fr := [(3, .box [.int .i64 t.f, .sl .sh t.W.length X, .sl .sh t.S.length Y, .sl .sh t.C.length Z]), (7, .int .i64 (-1)), (8, .int .i64 0), (52, .bool false)], hp := hp, base := hp.length, dirty := false }) 0]
  · simp
  · simp
  · omega
  · intro k hk; omega
  · simp
  · simp
theorem f69_z4 (n : Nat) (t : Tab) (hp : Heap) (hn : 60 < n) : evalCall Try.prog hints (n + 5) 65 [.agg t.cells, .int .i64 4, .int .i64 0] hp = some (.bool (hasB t 4 0), hp, false) := by
  have w0 := wrap_id (x := (-1 : Int)) (by omega)
  rw [evalCall_at _ _ _ hh65 rfl Try.func65 rfl (Nat.le_of_ble_eq_true rfl) rfl]
  simp only [Tab.cells, hasB, ats, pre]
  generalize t.S.flatMap _ = Y at *
  generalize t.W.flatMap _ = X at *
  generalize t.C.flatMap _ = Z at *
  simp [w0]
theorem f69_z5 (n : Nat) (t : Tab) (hp : Heap) (hn : 60 < n) : evalCall Try.prog hints (n + 5) 65 [.agg t.cells, .int .i64 5, .int .i64 0] hp = some (.bool (hasB t 5 0), hp, false) := by
  have w0 := wrap_id (x := (-1 : Int)) (by omega)
  rw [evalCall_at _ _ _ hh65 rfl Try.func65 rfl (Nat.le_of_ble_eq_true rfl) rfl]
  simp only [Tab.cells, hasB, ats, pre]
  generalize t.S.flatMap _ = Y at *
  generalize t.W.flatMap _ = X at *
  generalize t.C.flatMap _ = Z at *
  simp [w0]
  rw [iter_count (fun k => { fr := [(3, .box [.int .i64 t.f, .sl .sh t.W.length X, .sl .sh t.S.length Y, .sl .sh t.C.length Z]), (7, .int .i64 (-1)), (11, .int .i64 k)], hp := hp, base := hp.length, dirty := false }) (.exit 3, { fr := [(3, .box [.int .i64 t.f, .sl .sh t.W.length X, .sl .sh t.S.length Y, .sl .sh t.C.length Z]), (7, .int .i64 (-1)), (11, .int .i64 0), (140, .bool false)], hp := hp, base := hp.length, dirty := false }) 0]
  · simp
  · simp
  · omega
  · intro k hk; omega
  · simp
  · simp
theorem f69_z8 (n : Nat) (t : Tab) (hp : Heap) (hn : 60 < n) : evalCall Try.prog hints (n + 5) 65 [.agg t.cells, .int .i64 8, .int .i64 0] hp = some (.bool (hasB t 8 0), hp, false) := by
  have w0 := wrap_id (x := (-1 : Int)) (by omega)
  rw [evalCall_at _ _ _ hh65 rfl Try.func65 rfl (Nat.le_of_ble_eq_true rfl) rfl]
  simp only [Tab.cells, hasB, ats, pre]
  generalize t.S.flatMap _ = Y at *
  generalize t.W.flatMap _ = X at *
  generalize t.C.flatMap _ = Z at *
  simp [w0]
theorem f69_z9 (n : Nat) (t : Tab) (hp : Heap) (hn : 60 < n) : evalCall Try.prog hints (n + 5) 65 [.agg t.cells, .int .i64 9, .int .i64 0] hp = some (.bool (hasB t 9 0), hp, false) := by
  have w0 := wrap_id (x := (-1 : Int)) (by omega)
  rw [evalCall_at _ _ _ hh65 rfl Try.func65 rfl (Nat.le_of_ble_eq_true rfl) rfl]
  simp only [Tab.cells, hasB, ats, pre]
  generalize t.S.flatMap _ = Y at *
  generalize t.W.flatMap _ = X at *
  generalize t.C.flatMap _ = Z at *
  simp [w0]
  rw [iter_count (fun k => { fr := [(3, .box [.int .i64 t.f, .sl .sh t.W.length X, .sl .sh t.S.length Y, .sl .sh t.C.length Z]), (7, .int .i64 (-1)), (16, .int .i64 k)], hp := hp, base := hp.length, dirty := false }) (.exit 9, { fr := [(3, .box [.int .i64 t.f, .sl .sh t.W.length X, .sl .sh t.S.length Y, .sl .sh t.C.length Z]), (7, .int .i64 (-1)), (16, .int .i64 0), (272, .bool false)], hp := hp, base := hp.length, dirty := false }) 0]
  · simp
  · simp
  · omega
  · intro k hk; omega
  · simp
  · simp
theorem f69_z10 (n : Nat) (t : Tab) (hp : Heap) (hn : 60 < n) : evalCall Try.prog hints (n + 5) 65 [.agg t.cells, .int .i64 10, .int .i64 0] hp = some (.bool (hasB t 10 0), hp, false) := by
  have w0 := wrap_id (x := (-1 : Int)) (by omega)
  rw [evalCall_at _ _ _ hh65 rfl Try.func65 rfl (Nat.le_of_ble_eq_true rfl) rfl]
  simp only [Tab.cells, hasB, ats, pre]
  generalize t.S.flatMap _ = Y at *
  generalize t.W.flatMap _ = X at *
  generalize t.C.flatMap _ = Z at *
  simp [w0]
end Go.Proofs.Ytehemoachikpgaa
end

section
namespace Go.Proofs.Ytehemoachikpgaa
open Go Go.PS
structure F2 where
  r : Int
  k : Int
  deriving DecidableEq
def F2.cells (c : F2) : List PV := [.int .i64 c.r, .int .i64 c.k]
theorem F2.len (c : F2) : c.cells.length = 2 := rfl
def rowsF (t : Tab) (k : Nat) : Nat → List F2
  | 0 => []
  | r + 1 => rowsF t k r ++ if hasB t k r = true then [⟨r, k⟩] else []
def allF (t : Tab) : Nat → List F2
  | 0 => []
  | j + 1 => allF t j ++ rowsF t (j + 2) 33
def faults (t : Tab) : List F2 := if frameB t = true then allF t 9 else [⟨0, 1⟩]
theorem rowsF_len (t : Tab) (k : Nat) : ∀ r, (rowsF t k r).length ≤ r
  | 0 => by simp [rowsF]
  | r + 1 => by
    have := rowsF_len t k r
    rw [rowsF]; split <;> simp <;> omega
theorem allF_len (t : Tab) : ∀ j, (allF t j).length ≤ 33 * j
  | 0 => by simp [allF]
  | j + 1 => by
    have := allF_len t j
    have := rowsF_len t (j + 2) 33
    rw [allF, List.length_append]; omega
theorem mem2 {a b j : Nat} (ha : a ≤ 33 * j) (hb : b ≤ 33) (hj : j ≤ 9) : (a + b + 1) * 16 ≤ 140737488355328 := by omega
theorem ar2 (a : Nat) : a * 2 + 2 = (a + 1) * 2 := by omega
set_option maxHeartbeats 1000000 in
theorem f26 (n : Nat) (t : Tab) (hp : Heap) (hn : 100 < n)
    (has : frameB t = true → ∀ (k r : Nat), 2 ≤ k → k ≤ 10 → r ≤ 32 → evalCall Try.prog hints (n + 5) 65 [.agg t.cells, .int .i64 k, .int .i64 r] hp = some (.bool (hasB t k r), hp, false)) (e68 : evalCall Try.prog hints (n + 5) 64 [.agg t.cells] hp = some (.bool (frameB t), hp, false)) :
    evalCall Try.prog hints (n + 6) 26 [.agg t.cells] hp = some (.sl (.mu 2) (faults t).length ((faults t).flatMap F2.cells), hp, false) := by
  rw [evalCall_at _ _ _ hh26 rfl Try.func26 rfl (Nat.le_of_ble_eq_true rfl) rfl]
  have hA := allF_len t
  have hR := rowsF_len t
  simp only [Tab.cells] at *
  unfold faults
  cases hf : frameB t with
  | false =>
    rw [hf] at e68
    generalize t.S.flatMap _ = Y at *
    generalize t.W.flatMap _ = X at *
    generalize t.C.flatMap _ = Z at *
    simp [e68, F2.cells]
  | true =>
    rw [hf] at e68
    have has := has hf
    simp only [if_true]
    generalize t.S.flatMap _ = Y at *
    generalize t.W.flatMap _ = X at *
    generalize t.C.flatMap _ = Z at *
    simp [e68]
    rw [iter_count (fun j => { fr := [(1, .box [.int .i64 t.f, .sl .sh t.W.length X, .sl .sh t.S.length Y, .sl .sh t.C.length Z]), (3, .sl (.mu 2) (allF t j).length ((allF t j).flatMap F2.cells)), (4, .int .i64 (2 + j))], hp := hp, base := hp.length, dirty := false })
      (.exit 0, { fr := [(1, .box [.int .i64 t.f, .sl .sh t.W.length X, .sl .sh t.S.length Y, .sl .sh t.C.length Z]), (3, .sl (.mu 2) (allF t 9).length ((allF t 9).flatMap F2.cells)), (4, .int .i64 11), (13, .bool false)], hp := hp, base := hp.length, dirty := false }) 9]
    · generalize (allF t 9).flatMap _ = Q
      simp
    · simp [allF]
    · omega
    · intro j hj
      have w1 := wrap_id (x := 2 + (j : Int) + 1) (by omega)
      have c1 : 2 + (j : Int) ≤ 10 := by omega
      have hA := hA j
      rw [allF, List.length_append, List.flatMap_append]
      generalize hB : allF t j = B at *
      simp [c1]
      rw [iter_count (fun r => { fr := [(1, .box [.int .i64 t.f, .sl .sh t.W.length X, .sl .sh t.S.length Y, .sl .sh t.C.length Z]), (3, .sl (.mu 2) (B.length + (rowsF t (j + 2) r).length) (B.flatMap F2.cells ++ (rowsF t (j + 2) r).flatMap F2.cells)), (4, .int .i64 (2 + j)), (5, .int .i64 r)], hp := hp, base := hp.length, dirty := false })
        (.exit 2, { fr := [(1, .box [.int .i64 t.f, .sl .sh t.W.length X, .sl .sh t.S.length Y, .sl .sh t.C.length Z]), (3, .sl (.mu 2) (B.length + (rowsF t (j + 2) 33).length) (B.flatMap F2.cells ++ (rowsF t (j + 2) 33).flatMap F2.cells)), (4, .int .i64 (2 + j)), (5, .int .i64 33), (17, .bool false)], hp := hp, base := hp.length, dirty := false }) 33]
      · generalize B.flatMap _ = Q
        generalize (rowsF t (j + 2) 33).flatMap _ = Q'
        simp [w1]
        omega
      · simp [rowsF]
      · omega
      · intro r hr
        have e := has (j + 2) r (by omega) (by omega) (by omega)
        rw [show ((j + 2 : Nat) : Int) = 2 + (j : Int) by omega] at e
        have w2 := wrap_id (x := (r : Int) + 1) (by omega)
        have c2 : (r : Int) ≤ 32 := by omega
        have c2' : r ≤ 32 := by omega
        have hR := hR (j + 2) r
        have m1 := mem2 hA (Nat.le_trans hR (Nat.le_of_lt hr)) (Nat.le_of_lt hj)
        have a1 := ar2 (B.length + (rowsF t (j + 2) r).length)
        have lB := flat_len F2.len B
        have lR := flat_len F2.len (rowsF t (j + 2) r)
        rw [rowsF]
        generalize rowsF t (j + 2) r = D at *
        have a2 : (B.flatMap F2.cells ++ D.flatMap F2.cells).length = (B.length + D.length) * 2 := by rw [List.length_append]; omega
        cases hb : hasB t (j + 2) r with
        | true =>
          rw [hb] at e
          simp only [if_true, List.flatMap_append, List.flatMap_cons, List.flatMap_nil, List.append_nil, List.length_append, List.length_cons, List.length_nil, F2.cells]
          rw [← List.append_assoc, ← Nat.add_assoc, show ((j + 2 : Nat) : Int) = 2 + (j : Int) by omega]
          generalize B.flatMap F2.cells ++ D.flatMap F2.cells = Q at *
          generalize B.length + D.length = q at *
          simp [c2, c2', e, w2, a2, a1, m1]
        | false =>
          rw [hb] at e
          simp only [Bool.false_eq_true, if_false, List.append_nil]
          generalize B.flatMap F2.cells ++ D.flatMap F2.cells = Q at *
          generalize B.length + D.length = q at *
          simp [c2, c2', e, w2]
      · simp
      · simp
    · simp
    · simp
end Go.Proofs.Ytehemoachikpgaa
end

section
namespace Go.Proofs.Ytehemoachikpgaa
open Go Go.PS
theorem f65 (n : Nat) (t : Tab) (k r : Nat) (hp : Heap) (hf : frameB t = true) (h2 : 2 ≤ k) (h10 : k ≤ 10) (hr : r ≤ 32) (hn : 60 < n) : evalCall Try.prog hints (n + 5) 65 [.agg t.cells, .int .i64 k, .int .i64 r] hp = some (.bool (hasB t k r), hp, false) := by
  rcases (by omega : k = 2 ∨ k = 3 ∨ k = 4 ∨ k = 5 ∨ k = 6 ∨ k = 7 ∨ k = 8 ∨ k = 9 ∨ k = 10) with h | h | h | h | h | h | h | h | h <;> subst h
  · cases r with
    | zero => exact f69_z2 n t hp hn
    | succ i => exact f69_2 n t i hp (by omega)
  · cases r with
    | zero => exact f69_z3 n t hp hn
    | succ i => exact f69_3 n t i hp (by omega) hn
  · cases r with
    | zero => exact f69_z4 n t hp hn
    | succ i => exact f69_4 n t i hp hf (by omega) hn
  · cases r with
    | zero => exact f69_z5 n t hp hn
    | succ i => exact f69_5 n t i hp (by omega) hn
  · exact f69_6 n t r hp hf (by omega) hn
  · by_cases h : r = 0
    · subst h; exact f69_7 n t hp hf hn
    · exact f69_7n n t r hp h (by omega) hn
  · cases r with
    | zero => exact f69_z8 n t hp hn
    | succ i => exact f69_8 n t i hp hf (by omega) hn
  · cases r with
    | zero => exact f69_z9 n t hp hn
    | succ i => exact f69_9 n t i hp (by omega) hn
  · cases r with
    | zero => exact f69_z10 n t hp hn
    | succ i => exact f69_10 n t i hp hf (by omega) hn
theorem f26' (n : Nat) (t : Tab) (hp : Heap) (hn : 100 < n) : evalCall Try.prog hints (n + 6) 26 [.agg t.cells] hp = some (.sl (.mu 2) (faults t).length ((faults t).flatMap F2.cells), hp, false) :=
  f26 n t hp hn (fun hf k r h1 h2 h3 => f65 n t k r hp hf h1 h2 h3 (by omega)) (f64 (n + 4) t hp)
theorem allF_nil (t : Tab) (h : ∀ k r, 2 ≤ k → k ≤ 10 → r ≤ 32 → hasB t k r = false) : ∀ j, j ≤ 9 → allF t j = []
  | 0, _ => rfl
  | j + 1, hj => by
    have : ∀ r, r ≤ 33 → rowsF t (j + 2) r = [] := by
      intro r
      induction r with
      | zero => intro _; rfl
      | succ r ih => intro hr; rw [rowsF, ih (by omega), h (j + 2) r (by omega) (by omega) (by omega)]; rfl
    rw [allF, allF_nil t h j (by omega), this 33 (by omega)]; rfl
theorem faults_nil {t : Tab} (hf : frameB t = true) (h : ∀ k r, 2 ≤ k → k ≤ 10 → r ≤ 32 → hasB t k r = false) : faults t = [] := by
  unfold faults; rw [if_pos hf, allF_nil t h 9 (by omega)]
theorem ats_false {α : Type} {l : List α} {p : α → Bool} (h : ∀ x ∈ l, p x = false) (r : Nat) : ats l r p = false := by
  unfold ats; cases r with
  | zero => rfl
  | succ i =>
    simp only
    cases hx : l[i]? with
    | none => rfl
    | some x => exact h x (List.mem_of_getElem? hx)
theorem pre_false {α : Type} {l : List α} {p : α → α → Bool} {R : α → α → Prop} (hw : l.Pairwise R) (h : ∀ x y, x ∈ l → y ∈ l → R y x → p x y = false) (r : Nat) : pre l r p = false := by
  unfold pre; cases r with
  | zero => rfl
  | succ i =>
    simp only
    cases hx : l[i]? with
    | none => rfl
    | some x =>
      simp only [Option.any_some]
      rw [List.any_eq_false]
      intro k hk
      have hk : k < i := by simpa using hk
      cases hy : l[k]? with
      | none => simp
      | some y =>
        obtain ⟨i1, i2⟩ := List.getElem?_eq_some_iff.1 hx
        obtain ⟨k1, k2⟩ := List.getElem?_eq_some_iff.1 hy
        have := List.pairwise_iff_getElem.1 hw k i k1 i1 hk
        rw [i2, k2] at this
        simp only [Option.any_some]
        rw [h x y (List.mem_of_getElem? hx) (List.mem_of_getElem? hy) this]
        simp
theorem meets_apart {a b c d : Int} (h : d ≤ a) : meets a b c d = false := by
  unfold meets holds
  by_cases h1 : 0 ≤ a ∧ a < b
  · by_cases h2 : 0 ≤ c ∧ c < d
    · have e1 : decide (0 ≤ a ∧ a ≤ c ∧ c < b) = false := by simp; omega
      have e2 : decide (0 ≤ c ∧ c ≤ a ∧ a < d) = false := by simp; omega
      simp [e1, e2]
    · simp [h2]
  · simp [h1]
theorem ioW_false {t : Tab} : ∀ {l : List R3}, (∀ w ∈ l, w.o = 0 → (w.b - w.a < 2 * (t.C.length : Int)) → False) → ∀ r, ioW t r l = false
  | [], _, _ => rfl
  | w :: l, h, r => by
    rw [ioW]
    split
    · split
      · rename_i h0
        have this : ¬ (w.b - w.a < 2 * (t.C.length : Int)) := h w (by simp) h0
        have e : decide (w.b - w.a < 2 * (t.C.length : Int)) = false := by simp; omega
        rw [e, Bool.and_false]
      · exact ioW_false (fun w hw => h w (by simp [hw])) r
    · rfl
theorem units_ge {t : Tab} {r : Int} (hf : t.f ≤ 4096) : ∀ {l : List R3} {d : R3}, d ∈ l → unit1 t r d ≤ units t r l
  | x :: l, d, h => by
    rw [units]
    have h1 := unit1_b t r x hf
    have h2 := units_b t r hf l
    rcases List.mem_cons.1 h with rfl | h
    · omega
    · have := units_ge hf h (r := r); omega
end Go.Proofs.Ytehemoachikpgaa
end
