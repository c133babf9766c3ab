/-
  What functions of this program compute, as equations about the evaluator. No condition but those stated.
-/
import Derived.Test.YtehemoachikpgaaConfEqs3
set_option linter.all false
section
namespace Go.Proofs.Ytehemoachikpgaa
open Go Go.PS
/-- The program's own words for what may be. -/
def inB (x a b : Int) : Bool := decide (a ≤ x ∧ x ≤ b)
theorem f97 (n : Nat) (x a b : Int) (hp : Heap) : evalCall Try.prog hints (n + 1) 97 [.int .i64 x, .int .i64 a, .int .i64 b] hp = some (.bool (inB x a b), hp, false) := by
  rw [evalCall_at _ _ _ hh97 rfl Try.func97 rfl (Nat.le_of_ble_eq_true rfl) rfl]
  unfold inB
  by_cases h : a ≤ x <;> simp [h]
theorem f79 (n : Nat) (a b : Int) (hp : Heap) : evalCall Try.prog hints (n + 1) 79 [.agg [.int .i64 a, .int .i64 b]] hp = some (.bool (decide (0 ≤ a ∧ a < b)), hp, false) := by
  rw [evalCall_at _ _ _ hh79 rfl Try.func79 rfl (Nat.le_of_ble_eq_true rfl) rfl]
  by_cases h : 0 ≤ a
  · simp [h]
  · simp [h]
theorem f98 (n : Nat) (a b m : Int) (hp : Heap) : evalCall Try.prog hints (n + 2) 98 [.agg [.int .i64 a, .int .i64 b], .int .i64 m] hp = some (.bool (decide (0 ≤ a ∧ a < b ∧ b ≤ m)), hp, false) := by
  have e := fun hp => f79 n a b hp
  rw [evalCall_at _ _ _ hh98 rfl Try.func98 rfl (Nat.le_of_ble_eq_true rfl) rfl]
  by_cases h1 : 0 ≤ a
  · by_cases h2 : a < b
    · simp [e, h1, h2]
    · simp [e, h1, h2]
  · simp [e, h1]
def both (a b c d : Int) : Int × Int := if meets a b c d = true then (max a c, min b d) else (0, 0)
theorem meets_max (a b c d : Int) : meets a b c d = (decide (0 ≤ a ∧ a < b) && decide (0 ≤ c ∧ c < d) && decide (0 ≤ max a c ∧ max a c < min b d)) := by
  unfold meets holds
  rw [Bool.eq_iff_iff]
  simp only [Bool.and_eq_true, Bool.or_eq_true, decide_eq_true_eq]
  omega
theorem f103 (n : Nat) (a b c d : Int) (hp : Heap) : evalCall Try.prog hints (n + 2) 103 [.agg [.int .i64 a, .int .i64 b], .agg [.int .i64 c, .int .i64 d]] hp = some (.tup [.agg [.int .i64 (both a b c d).1, .int .i64 (both a b c d).2], .bool (meets a b c d)], hp, false) := by
  have e1 := fun hp => f79 n a b hp
  have e2 := fun hp => f79 n c d hp
  have e3 := fun hp => f79 n (max a c) (min b d) hp
  have hm := meets_max a b c d
  unfold both
  have m1 : (if a < c then c else a) = max a c := by rw [Int.max_def]; split <;> split <;> omega
  have m2 : (if d < b then d else b) = min b d := by rw [Int.min_def]; split <;> split <;> omega
  rw [evalCall_at _ _ _ hh103 rfl Try.func103 rfl (Nat.le_of_ble_eq_true rfl) rfl]
  generalize decide (0 ≤ a ∧ a < b) = x at *
  generalize decide (0 ≤ c ∧ c < d) = y at *
  generalize decide (0 ≤ max a c ∧ max a c < min b d) = z at *
  generalize meets a b c d = q at *
  generalize max a c = m at *
  generalize min b d = k at *
  subst hm
  cases x
  · simp [e1]
  · cases y
    · simp [e1, e2]
    · cases z <;> simp [e1, e2, e3, m1, m2]
theorem f143 (n : Nat) (a m : Int) (hp : Heap) (w : IntKind.i64.wrap (a + m) = a + m) : evalCall Try.prog hints (n + 1) 143 [.int .i64 a, .int .i64 m] hp = some (.agg [.int .i64 a, .int .i64 (a + m)], hp, false) := by
  rw [evalCall_at _ _ _ hh143 rfl Try.func143 rfl (Nat.le_of_ble_eq_true rfl) rfl]
  simp [w]
/-- Have two clients something both? -/
def shareC (x y : Cl) : Bool := decide (x.id = y.id) || decide (x.irq = y.irq) || meets x.base (x.base + x.size) y.base (y.base + y.size) || meets x.hb (x.hb + x.hn) y.hb (y.hb + y.hn)
theorem f68 (n : Nat) (t : Tab) (hp : Heap) : evalCall Try.prog hints (n + 2) 68 [.agg t.cells] hp = some (.bool (frameB t), hp, false) := by
  have e1 := fun hp => f97 n t.f 1 4096 hp
  have e2 := fun hp => f97 n (t.C.length : Int) 1 8 hp
  rw [evalCall_at _ _ _ hh68 rfl Try.func68 rfl (Nat.le_of_ble_eq_true rfl) rfl]
  unfold inB at e1 e2
  obtain ⟨f, W, S, C⟩ := t
  simp only [Tab.cells, frameB] at *
  generalize W.flatMap R3.cells = X at *
  generalize S.flatMap R3.cells = Y at *
  generalize C.flatMap Cl.cells = Z at *
  generalize W.length = nW at *
  generalize S.length = nS at *
  generalize C.length = nC at *
  by_cases c1 : 1 ≤ f
  · by_cases c2 : f ≤ 4096
    · by_cases c3 : (1 : Int) ≤ nC
      · by_cases c4 : (nC : Int) ≤ 8
        · by_cases c5 : (nW : Int) ≤ 9
          · simp [c1, c2, c3, c4, c5, e1, e2]
          · simp [c1, c2, c3, c4, c5, e1, e2]
        · simp [c1, c2, c3, c4, e1, e2]
      · simp [c1, c2, c3, e1, e2]
    · simp [c1, c2, e1]
  · simp [c1, e1]
theorem f124 (n : Nat) (t : Tab) (w : R3) (hp : Heap) : evalCall Try.prog hints (n + 3) 124 [.agg t.cells, .agg w.cells] hp = some (.bool (okW t w), hp, false) := by
  have e1 := fun hp => f97 (n + 1) w.o 0 (t.C.length : Int) hp
  have e2 := fun hp => f98 n w.a w.b t.f hp
  rw [evalCall_at _ _ _ hh124 rfl Try.func124 rfl (Nat.le_of_ble_eq_true rfl) rfl]
  unfold inB at e1
  have hk : okW t w = (decide (0 ≤ w.o ∧ w.o ≤ (t.C.length : Int)) && decide (0 ≤ w.a ∧ w.a < w.b ∧ w.b ≤ t.f)) := by
    unfold okW; rw [Bool.eq_iff_iff]; simp only [Bool.and_eq_true, decide_eq_true_eq]; omega
  rw [hk]
  obtain ⟨f, W, S, C⟩ := t
  obtain ⟨o, a, b⟩ := w
  simp only [Tab.cells, R3.cells] at *
  generalize W.flatMap _ = X at *
  generalize S.flatMap _ = Y at *
  generalize C.flatMap Cl.cells = Z at *
  generalize decide (0 ≤ o ∧ o ≤ (C.length : Int)) = p at *
  generalize decide (0 ≤ a ∧ a < b ∧ b ≤ f) = q at *
  clear hk
  cases p <;> simp [e1, e2]
theorem f69 (n : Nat) (t : Tab) (w : R3) (hp : Heap) (hf : t.f ≤ 4096) : evalCall Try.prog hints (n + 3) 69 [.agg t.cells, .agg w.cells] hp = some (.bool (okS t w), hp, false) := by
  have e1 := fun hp => f97 (n + 1) w.o 1 (t.C.length : Int) hp
  have e2 := fun hp => f98 n w.a w.b t.f hp
  rw [evalCall_at _ _ _ hh69 rfl Try.func69 rfl (Nat.le_of_ble_eq_true rfl) rfl]
  unfold inB at e1
  have hk : okS t w = (decide (1 ≤ w.o ∧ w.o ≤ (t.C.length : Int)) && (decide (0 ≤ w.a ∧ w.a < w.b ∧ w.b ≤ t.f) && decide (4 ≤ w.b - w.a))) := by
    unfold okS; rw [Bool.eq_iff_iff]; simp only [Bool.and_eq_true, decide_eq_true_eq]; omega
  have w1 : 0 ≤ w.a ∧ w.a < w.b ∧ w.b ≤ t.f → IntKind.i64.wrap (w.b - w.a) = w.b - w.a := fun h => wrap_id (by omega)
  rw [hk]
  obtain ⟨f, W, S, C⟩ := t
  obtain ⟨o, a, b⟩ := w
  simp only [Tab.cells, R3.cells] at *
  generalize W.flatMap _ = X at *
  generalize S.flatMap _ = Y at *
  generalize C.flatMap Cl.cells = Z at *
  generalize decide (1 ≤ o ∧ o ≤ (C.length : Int)) = p at *
  clear hk
  by_cases hq : 0 ≤ a ∧ a < b ∧ b ≤ f
  · have w1 := w1 hq
    rw [decide_eq_true hq] at e2 ⊢
    cases p <;> simp [e1, e2, w1]
  · rw [decide_eq_false hq] at e2 ⊢
    cases p <;> simp [e1, e2]
end Go.Proofs.Ytehemoachikpgaa
end

section
namespace Go.Proofs.Ytehemoachikpgaa
open Go Go.PS
set_option maxHeartbeats 2000000 in
theorem f136 (n : Nat) (x y : Cl) (hp : Heap) (hx : x.ok) (hy : y.ok) : evalCall Try.prog hints (n + 3) 136 [.agg x.cells, .agg y.cells] hp = some (.bool (shareC x y), hp, false) := by
  unfold Cl.ok at hx hy
  have e1 := fun hp => f143 (n + 1) x.base x.size hp (wrap_id (by omega))
  have e2 := fun hp => f143 (n + 1) y.base y.size hp (wrap_id (by omega))
  have e3 := fun hp => f143 (n + 1) x.hb x.hn hp (wrap_id (by omega))
  have e4 := fun hp => f143 (n + 1) y.hb y.hn hp (wrap_id (by omega))
  have e5 := fun hp => f103 n x.base (x.base + x.size) y.base (y.base + y.size) hp
  have e6 := fun hp => f103 n x.hb (x.hb + x.hn) y.hb (y.hb + y.hn) hp
  rw [evalCall_at _ _ _ hh136 rfl Try.func136 rfl (Nat.le_of_ble_eq_true rfl) rfl]
  unfold shareC
  clear hx hy
  obtain ⟨x1, x2, x3, x4, x5, x6, x7, x8, x9, x10⟩ := x
  obtain ⟨y1, y2, y3, y4, y5, y6, y7, y8, y9, y10⟩ := y
  simp only [Cl.cells] at *
  generalize both x1 _ _ _ = B1 at *
  generalize both x9 _ _ _ = B2 at *
  generalize meets x1 _ _ _ = m1 at *
  generalize meets x9 _ _ _ = m2 at *
  by_cases c1 : x7 = y7
  · have c1' : (x7 == y7) = true := by simp [c1]
    simp [e1, e2, e3, e4, e5, e6, c1']
    simp [c1]
  · have c1' : (x7 == y7) = false := by simp [c1]
    by_cases c2 : x8 = y8
    · have c2' : (x8 == y8) = true := by simp [c2]
      simp [e1, e2, e3, e4, e5, e6, c1', c2']
      simp [c2]
    · have c2' : (x8 == y8) = false := by simp [c2]
      cases m1 <;> simp [e1, e2, e3, e4, e5, e6, c1', c2', c1, c2]
set_option maxHeartbeats 2000000 in
theorem f132 (n : Nat) (c : Cl) (hp : Heap) : evalCall Try.prog hints (n + 2) 132 [.agg c.cells] hp = some (.bool (decide c.ok), hp, false) := by
  have r := ring_le c.q
  have e0 := fun hp => f67 n c.q hp
  have i := fun x a b hp => f97 n x a b hp
  unfold inB at i
  rw [evalCall_at _ _ _ hh132 rfl Try.func132 rfl (Nat.le_of_ble_eq_true rfl) rfl]
  have hk : decide c.ok = decide (32 ≤ c.size ∧ c.size ≤ 1024 ∧ 128 ≤ c.base ∧ c.base ≤ 16384 - c.size ∧ ring c.q ≠ 0 ∧ 0 ≤ c.at_ ∧ c.at_ ≤ c.size - ring c.q ∧ 1 ≤ c.n ∧ c.n ≤ 16 ∧ 0 ≤ c.pr ∧ c.pr ≤ 16 ∧ 0 ≤ c.id ∧ c.id ≤ 255 ∧ 0 ≤ c.irq ∧ c.irq ≤ 255 ∧ 0 ≤ c.hn ∧ c.hn ≤ 64 ∧ 0 ≤ c.hb ∧ c.hb ≤ 512 - c.hn) := decide_eq_decide.2 Iff.rfl
  rw [hk]
  clear hk
  obtain ⟨base, size, q, at_, nn, pr, id, irq, hb, hn⟩ := c
  simp only [Cl.cells] at *
  by_cases h1 : 32 ≤ size ∧ size ≤ 1024
  · have d1 := decide_eq_true h1
    have w1 := wrap_id (x := 16384 - size) (by omega)
    by_cases h2 : 128 ≤ base ∧ base ≤ 16384 - size
    · have d2 := decide_eq_true h2
      by_cases h3 : ring q = 0
      · have h3' : (ring q == 0) = true := by simp [h3]
        simp [i, e0, d1, w1, d2, h3']
        simp [h3]
      · have h3' : (ring q == 0) = false := by simp [h3]
        have w2 := wrap_id (x := size - ring q) (by omega)
        by_cases h4 : 0 ≤ at_ ∧ at_ ≤ size - ring q
        · have d4 := decide_eq_true h4
          by_cases h5 : 1 ≤ nn ∧ nn ≤ 16
          · have d5 := decide_eq_true h5
            by_cases h6 : 0 ≤ pr ∧ pr ≤ 16
            · have d6 := decide_eq_true h6
              by_cases h7 : 0 ≤ id ∧ id ≤ 255
              · have d7 := decide_eq_true h7
                by_cases h8 : 0 ≤ irq ∧ irq ≤ 255
                · have d8 := decide_eq_true h8
                  by_cases h9 : 0 ≤ hn ∧ hn ≤ 64
                  · have d9 := decide_eq_true h9
                    have w3 := wrap_id (x := 512 - hn) (by omega)
                    by_cases h10 : 0 ≤ hb ∧ hb ≤ 512 - hn
                    · have d10 := decide_eq_true h10
                      simp [i, e0, d1, w1, d2, h3', w2, d4, d5, d6, d7, d8, d9, w3, d10]
                      all_goals first | omega | (rw [Bool.eq_iff_iff]; simp only [Bool.and_eq_true, decide_eq_true_eq]; omega) | (rw [decide_eq_true_iff]; omega) | (rw [decide_eq_false_iff_not]; omega)
                    · have d10 := decide_eq_false h10
                      simp [i, e0, d1, w1, d2, h3', w2, d4, d5, d6, d7, d8, d9, w3, d10]
                      all_goals first | omega | (rw [Bool.eq_iff_iff]; simp only [Bool.and_eq_true, decide_eq_true_eq]; omega) | (rw [decide_eq_true_iff]; omega) | (rw [decide_eq_false_iff_not]; omega)
                  · have d9 := decide_eq_false h9
                    simp [i, e0, d1, w1, d2, h3', w2, d4, d5, d6, d7, d8, d9]
                    all_goals first | omega | (rw [Bool.eq_iff_iff]; simp only [Bool.and_eq_true, decide_eq_true_eq]; omega) | (rw [decide_eq_true_iff]; omega) | (rw [decide_eq_false_iff_not]; omega)
                · have d8 := decide_eq_false h8
                  simp [i, e0, d1, w1, d2, h3', w2, d4, d5, d6, d7, d8]
                  all_goals first | omega | (rw [Bool.eq_iff_iff]; simp only [Bool.and_eq_true, decide_eq_true_eq]; omega) | (rw [decide_eq_true_iff]; omega) | (rw [decide_eq_false_iff_not]; omega)
              · have d7 := decide_eq_false h7
                simp [i, e0, d1, w1, d2, h3', w2, d4, d5, d6, d7]
                all_goals first | omega | (rw [Bool.eq_iff_iff]; simp only [Bool.and_eq_true, decide_eq_true_eq]; omega) | (rw [decide_eq_true_iff]; omega) | (rw [decide_eq_false_iff_not]; omega)
            · have d6 := decide_eq_false h6
              simp [i, e0, d1, w1, d2, h3', w2, d4, d5, d6]
              all_goals first | omega | (rw [Bool.eq_iff_iff]; simp only [Bool.and_eq_true, decide_eq_true_eq]; omega) | (rw [decide_eq_true_iff]; omega) | (rw [decide_eq_false_iff_not]; omega)
          · have d5 := decide_eq_false h5
            simp [i, e0, d1, w1, d2, h3', w2, d4, d5]
            all_goals first | omega | (rw [Bool.eq_iff_iff]; simp only [Bool.and_eq_true, decide_eq_true_eq]; omega) | (rw [decide_eq_true_iff]; omega) | (rw [decide_eq_false_iff_not]; omega)
        · have d4 := decide_eq_false h4
          simp [i, e0, d1, w1, d2, h3', w2, d4]
          all_goals first | omega | (rw [Bool.eq_iff_iff]; simp only [Bool.and_eq_true, decide_eq_true_eq]; omega) | (rw [decide_eq_true_iff]; omega) | (rw [decide_eq_false_iff_not]; omega)
    · have d2 := decide_eq_false h2
      simp [i, e0, d1, w1, d2]
      all_goals first | omega | (rw [Bool.eq_iff_iff]; simp only [Bool.and_eq_true, decide_eq_true_eq]; omega) | (rw [decide_eq_true_iff]; omega) | (rw [decide_eq_false_iff_not]; omega)
  · have d1 := decide_eq_false h1
    simp [i, d1]
    all_goals first | omega | (rw [Bool.eq_iff_iff]; simp only [Bool.and_eq_true, decide_eq_true_eq]; omega) | (rw [decide_eq_true_iff]; omega) | (rw [decide_eq_false_iff_not]; omega)
end Go.Proofs.Ytehemoachikpgaa
end

section
namespace Go.Proofs.Ytehemoachikpgaa
open Go Go.PS
theorem any_idxI {α : Type} (q : α → Bool) (l : List α) : l.any q = decide (0 ≤ idxI (idx q l)) := by
  cases hi : idx q l with
  | none => rw [idx_none.1 hi]; simp [idxI]
  | some k =>
    obtain ⟨h1, h2⟩ := idx_lt hi
    rw [List.any_eq_true.2 ⟨_, List.getElem_mem h1, h2⟩]
    simp [idxI]
set_option maxHeartbeats 1000000 in
theorem f129 (n g : Nat) (cap : List PV) (q : R3 → Bool) (l : List R3) (hp : Heap) (hl : l.length ≤ 40) (hn : 60 < n) (ho : (hints g).own = none) (hg : ∀ x ∈ l, ∃ H, evalCall Try.prog hints n g (.agg x.cells :: cap) hp = some (.bool (q x), H, false)) :
    evalCall Try.prog hints (n + 1) 129 [.sl .sh l.length (l.flatMap R3.cells), .fn g cap] hp = some (.int .i64 (idxI (idx q l)), hp, false) := by
  rw [evalCall_at _ _ _ hh129 rfl Try.func129 rfl (Nat.le_of_ble_eq_true rfl) rfl]
  have lX := flat_len R3.len l
  have rr := fun k h => flat_row R3.len l k h
  rw [← idx_range]
  generalize l.flatMap R3.cells = X at *
  simp
  rw [iter_idx (fun k => { fr := [(0, .sl .sh l.length X), (1, .fn g cap), (7, .int .i64 l.length), (8, .int .i64 k)], hp := hp, base := hp.length, dirty := false }) (fun k => (l[k]?).any q) (fun k => (.ret, { fr := [(4, .int .i64 k)], hp := hp, base := hp.length, dirty := false })) (.exit 0, { fr := [(0, .sl .sh l.length X), (1, .fn g cap), (7, .int .i64 l.length), (8, .int .i64 l.length), (9, .bool false)], hp := hp, base := hp.length, dirty := false }) l.length]
  · cases (List.range l.length).find? _ <;> simp [idxI]
  · simp
  · omega
  · intro k hk
    have r := rr k hk
    obtain ⟨H, e⟩ := hg l[k] (List.getElem_mem hk)
    have z : k * 3 + 3 ≤ l.length * 3 := by omega
    have w := wrap_id (x := (k : Int) + 1) (by omega)
    rw [List.getElem?_eq_getElem hk]
    simp only [Option.any_some]
    generalize q l[k] = b at *
    generalize l[k] = x at *
    obtain ⟨o, f, c⟩ := x
    simp only [R3.cells] at *
    cases b <;> simp [hk, lX, r, e, z, w, ho]
  · simp
  · simp
  · simp
theorem f126 (n g : Nat) (cap : List PV) (q : R3 → Bool) (l : List R3) (hp : Heap) (hl : l.length ≤ 40) (hn : 60 < n) (ho : (hints g).own = none) (hg : ∀ x ∈ l, ∃ H, evalCall Try.prog hints n g (.agg x.cells :: cap) hp = some (.bool (q x), H, false)) :
    evalCall Try.prog hints (n + 2) 126 [.sl .sh l.length (l.flatMap R3.cells), .fn g cap] hp = some (.bool (l.any q), hp, false) := by
  have e := f129 n g cap q l hp hl hn ho hg
  rw [evalCall_at _ _ _ hh126 rfl Try.func126 rfl (Nat.le_of_ble_eq_true rfl) rfl]
  generalize l.flatMap R3.cells = X at *
  rw [any_idxI]
  generalize idxI (idx q l) = i at *
  simp [e, ho]
set_option maxHeartbeats 1000000 in
theorem f137 (n g : Nat) (cap : List PV) (q : R3 → Bool) (l : List R3) (hp : Heap) (hl : l.length ≤ 40) (hn : 60 < n) (ho : (hints g).own = none) (hg : ∀ x ∈ l, ∃ H, evalCall Try.prog hints n g (.agg x.cells :: cap) hp = some (.bool (q x), H, false)) :
    evalCall Try.prog hints (n + 1) 137 [.sl .sh l.length (l.flatMap R3.cells), .fn g cap] hp = some (.int .i64 (idxI (idx q l)), hp, false) := by
  rw [evalCall_at _ _ _ hh137 rfl Try.func137 rfl (Nat.le_of_ble_eq_true rfl) rfl]
  have lX := flat_len R3.len l
  have rr := fun k h => flat_row R3.len l k h
  rw [← idx_range]
  generalize l.flatMap R3.cells = X at *
  simp
  rw [iter_idx (fun k => { fr := [(0, .sl .sh l.length X), (1, .fn g cap), (7, .int .i64 l.length), (8, .int .i64 k)], hp := hp, base := hp.length, dirty := false }) (fun k => (l[k]?).any q) (fun k => (.ret, { fr := [(4, .int .i64 k)], hp := hp, base := hp.length, dirty := false })) (.exit 0, { fr := [(0, .sl .sh l.length X), (1, .fn g cap), (7, .int .i64 l.length), (8, .int .i64 l.length), (9, .bool false)], hp := hp, base := hp.length, dirty := false }) l.length]
  · cases (List.range l.length).find? _ <;> simp [idxI]
  · simp
  · omega
  · intro k hk
    have r := rr k hk
    obtain ⟨H, e⟩ := hg l[k] (List.getElem_mem hk)
    have z : k * 3 + 3 ≤ l.length * 3 := by omega
    have w := wrap_id (x := (k : Int) + 1) (by omega)
    rw [List.getElem?_eq_getElem hk]
    simp only [Option.any_some]
    generalize q l[k] = b at *
    generalize l[k] = x at *
    obtain ⟨o, f, c⟩ := x
    simp only [R3.cells] at *
    cases b <;> simp [hk, lX, r, e, z, w, ho]
  · simp
  · simp
  · simp
theorem f101 (n g : Nat) (cap : List PV) (q : R3 → Bool) (l : List R3) (hp : Heap) (hl : l.length ≤ 40) (hn : 60 < n) (ho : (hints g).own = none) (hg : ∀ x ∈ l, ∃ H, evalCall Try.prog hints n g (.agg x.cells :: cap) hp = some (.bool (q x), H, false)) :
    evalCall Try.prog hints (n + 2) 101 [.sl .sh l.length (l.flatMap R3.cells), .fn g cap] hp = some (.bool (l.any q), hp, false) := by
  have e := f137 n g cap q l hp hl hn ho hg
  rw [evalCall_at _ _ _ hh101 rfl Try.func101 rfl (Nat.le_of_ble_eq_true rfl) rfl]
  generalize l.flatMap R3.cells = X at *
  rw [any_idxI]
  generalize idxI (idx q l) = i at *
  simp [e, ho]
set_option maxHeartbeats 1000000 in
theorem f105 (n g : Nat) (cap : List PV) (q : Cl → Bool) (l : List Cl) (hp : Heap) (hl : l.length ≤ 40) (hn : 60 < n) (ho : (hints g).own = none) (hg : ∀ x ∈ l, ∃ H, evalCall Try.prog hints n g (.agg x.cells :: cap) hp = some (.bool (q x), H, false)) :
    evalCall Try.prog hints (n + 1) 105 [.sl .sh l.length (l.flatMap Cl.cells), .fn g cap] hp = some (.int .i64 (idxI (idx q l)), hp, false) := by
  rw [evalCall_at _ _ _ hh105 rfl Try.func105 rfl (Nat.le_of_ble_eq_true rfl) rfl]
  have lX := flat_len Cl.len l
  have rr := fun k h => flat_row Cl.len l k h
  rw [← idx_range]
  generalize l.flatMap Cl.cells = X at *
  simp
  rw [iter_idx (fun k => { fr := [(0, .sl .sh l.length X), (1, .fn g cap), (7, .int .i64 l.length), (8, .int .i64 k)], hp := hp, base := hp.length, dirty := false }) (fun k => (l[k]?).any q) (fun k => (.ret, { fr := [(4, .int .i64 k)], hp := hp, base := hp.length, dirty := false })) (.exit 0, { fr := [(0, .sl .sh l.length X), (1, .fn g cap), (7, .int .i64 l.length), (8, .int .i64 l.length), (9, .bool false)], hp := hp, base := hp.length, dirty := false }) l.length]
  · cases (List.range l.length).find? _ <;> simp [idxI]
  · simp
  · omega
  · intro k hk
    have r := rr k hk
    obtain ⟨H, e⟩ := hg l[k] (List.getElem_mem hk)
    have z : k * 10 + 10 ≤ l.length * 10 := by omega
    have w := wrap_id (x := (k : Int) + 1) (by omega)
    rw [List.getElem?_eq_getElem hk]
    simp only [Option.any_some]
    generalize q l[k] = b at *
    generalize l[k] = x at *
    obtain ⟨x1, x2, x3, x4, x5, x6, x7, x8, x9, x10⟩ := x
    simp only [Cl.cells] at *
    cases b <;> simp [hk, lX, r, e, z, w, ho]
  · simp
  · simp
  · simp
theorem f134 (n g : Nat) (cap : List PV) (q : Cl → Bool) (l : List Cl) (hp : Heap) (hl : l.length ≤ 40) (hn : 60 < n) (ho : (hints g).own = none) (hg : ∀ x ∈ l, ∃ H, evalCall Try.prog hints n g (.agg x.cells :: cap) hp = some (.bool (q x), H, false)) :
    evalCall Try.prog hints (n + 2) 134 [.sl .sh l.length (l.flatMap Cl.cells), .fn g cap] hp = some (.bool (l.any q), hp, false) := by
  have e := f105 n g cap q l hp hl hn ho hg
  rw [evalCall_at _ _ _ hh134 rfl Try.func134 rfl (Nat.le_of_ble_eq_true rfl) rfl]
  generalize l.flatMap Cl.cells = X at *
  rw [any_idxI]
  generalize idxI (idx q l) = i at *
  simp [e, ho]
end Go.Proofs.Ytehemoachikpgaa
end

section
namespace Go.Proofs.Ytehemoachikpgaa
open Go Go.PS
set_option maxHeartbeats 1000000 in
theorem f30 (n : Nat) (t : Tab) (r : Int) (hp : Heap) (hf : frameB t = true) (hn : 40 < n) : evalCall Try.prog hints (n + 4) 30 [.agg t.cells, .int .i64 r] hp = some (.int .i64 (units t r t.S), hp, false) := by
  have e68 := f68 (n + 1) t hp
  rw [hf] at e68
  have hf' := hf
  unfold frameB at hf'; simp only [decide_eq_true_eq] at hf'
  have e69 := fun w => f69 n t w hp hf'.2.1
  rw [evalCall_at _ _ _ hh30 rfl Try.func30 rfl (Nat.le_of_ble_eq_true rfl) rfl]
  have lS := flat_len R3.len t.S
  have uB := units_b t r hf'.2.1
  have u1 := unit1_b t r
  have hc : t.cells = [.int .i64 t.f, .sl .sh t.W.length (t.W.flatMap R3.cells), .sl .sh t.S.length (t.S.flatMap R3.cells), .sl .sh t.C.length (t.C.flatMap Cl.cells)] := rfl
  have rr := fun k h => flat_row R3.len t.S k h
  rw [hc] at e68 e69 ⊢
  have g0 := fun k h => flat_get R3.len t.S k h 0 (by omega)
  have g1 := fun k h => flat_get R3.len t.S k h 1 (by omega)
  have g2 := fun k h => flat_get R3.len t.S k h 2 (by omega)
  generalize t.S.flatMap R3.cells = Y at *
  generalize t.W.flatMap R3.cells = X at *
  generalize t.C.flatMap Cl.cells = Z at *
  simp [e68]
  rw [iter_count (fun k => { fr := [(1, .int .i64 r), (2, .box [.int .i64 t.f, .sl .sh t.W.length X, .sl .sh t.S.length Y, .sl .sh t.C.length Z]), (5, .int .i64 (units t r (t.S.take k))), (11, .sl .sh t.S.length Y), (12, .int .i64 t.S.length), (13, .int .i64 k)], hp := hp, base := hp.length, dirty := false }) (.exit 0, { fr := [(1, .int .i64 r), (2, .box [.int .i64 t.f, .sl .sh t.W.length X, .sl .sh t.S.length Y, .sl .sh t.C.length Z]), (5, .int .i64 (units t r t.S)), (11, .sl .sh t.S.length Y), (12, .int .i64 t.S.length), (13, .int .i64 t.S.length), (14, .bool false)], hp := hp, base := hp.length, dirty := false }) t.S.length]
  · simp
  · simp [units]
  · omega
  · intro k hk
    have uk := units_take t r t.S k hk
    have ub := uB (t.S.take k)
    have ul : (t.S.take k).length ≤ 32 := by rw [List.length_take]; omega
    have hr := rr k hk
    have g1 := g1 k hk
    have g2 := g2 k hk
    have g0 := g0 k hk
    have e := e69 t.S[k]
    have b1 := u1 t.S[k] hf'.2.1
    have z : k * 3 + 3 ≤ t.S.length * 3 := by omega
    generalize units t r (t.S.take k) = u at *
    rw [uk]
    unfold unit1 at b1 ⊢
    generalize t.S[k] = w at *
    obtain ⟨o, a, b⟩ := w
    simp only [R3.cells] at *
    simp only [Nat.add_zero, List.getElem?_cons_zero, List.getElem?_cons_succ] at g0 g1 g2
    generalize okS t ⟨o, a, b⟩ = ok at *
    have w0 := wrap_id (x := (k : Int) + 1) (by omega)
    by_cases c1 : o = r
    · subst c1
      cases hok : ok with
      | true =>
        subst hok
        rw [if_pos ⟨rfl, rfl⟩] at b1
        have q := td (a := b - a) 4 (by omega)
        have w1 := wrap_id (x := b - a) (by omega)
        have w2 := wrap_id (x := (b - a) / 4) (by omega)
        have w3 := wrap_id (x := u + (b - a) / 4) (by omega)
        simp [-getElem?_pos, List.getElem?_cons_zero, hk, e68, e, lS, hr, g0, g1, g2, z, q, w0, w1, w2, w3]
      | false =>
        subst hok
        simp [-getElem?_pos, List.getElem?_cons_zero, hk, e68, e, lS, hr, g0, g1, g2, z, w0]
    · have c1' : (o == r) = false := by simp [c1]
      simp [-getElem?_pos, List.getElem?_cons_zero, hk, e68, c1, c1', lS, hr, g0, g1, g2, z, w0]
  · rw [List.take_length]
    simp
  · simp
/-- The rows, from 1 on, of which something is so. -/
def rowsQ (why : Int) (q : Nat → Bool) : Nat → List F2
  | 0 => []
  | k + 1 => rowsQ why q k ++ if q k = true then [⟨(k : Int) + 1, why⟩] else []
theorem rowsQ_len (why : Int) (q : Nat → Bool) : ∀ k, (rowsQ why q k).length ≤ k
  | 0 => Nat.le_refl 0
  | k + 1 => by
    have := rowsQ_len why q k
    rw [rowsQ]; split <;> simp <;> omega
set_option maxHeartbeats 1000000 in
theorem f95 (n g : Nat) (cap : List PV) (why : Int) (q : Nat → Bool) (N : Nat) (L : List F2) (hp : Heap) (hN : N ≤ 40) (hL : L.length ≤ 1000) (hn : 60 < n) (ho : (hints g).own = none) (hg : ∀ k, k < N → ∃ H, evalCall Try.prog hints n g (.int .i64 k :: cap) hp = some (.bool (q k), H, false)) :
    evalCall Try.prog hints (n + 1) 95 [.sl (.mu 2) L.length (L.flatMap F2.cells), .int .i64 why, .int .i64 N, .fn g cap] hp = some (.sl (.mu 2) (L ++ rowsQ why q N).length ((L ++ rowsQ why q N).flatMap F2.cells), hp, false) := by
  rw [evalCall_at _ _ _ hh95 rfl Try.func95 rfl (Nat.le_of_ble_eq_true rfl) rfl]
  have lX := fun k => flat_len F2.len (L ++ rowsQ why q k)
  have aX := fun k => flat_all (f := F2.cells) (fun _ => rfl) (L ++ rowsQ why q k)
  obtain ⟨YN, hYN⟩ : ∃ YN, YN = (L ++ rowsQ why q N).flatMap F2.cells := ⟨_, rfl⟩
  obtain ⟨yN, hyN⟩ : ∃ yN, yN = (L ++ rowsQ why q N).length := ⟨_, rfl⟩
  rw [← hYN, ← hyN]
  simp
  rw [iter_count (fun k => { fr := [(0, .sl (.mu 2) (L ++ rowsQ why q k).length ((L ++ rowsQ why q k).flatMap F2.cells)), (1, .int .i64 why), (3, .fn g cap), (10, .int .i64 N), (11, .int .i64 k)], hp := hp, base := hp.length, dirty := false }) (.exit 0, { fr := [(0, .sl (.mu 2) yN YN), (1, .int .i64 why), (3, .fn g cap), (10, .int .i64 N), (11, .int .i64 N), (12, .bool false)], hp := hp, base := hp.length, dirty := false }) N]
  · simp
  · simp [rowsQ]
  · omega
  · intro k hk
    obtain ⟨H, e⟩ := hg k hk
    have w := wrap_id (x := (k : Int) + 1) (by omega)
    have ln := rowsQ_len why q k
    have m1 : (L.length + (rowsQ why q k).length + 1) * 16 ≤ 140737488355328 := by omega
    have lXk := lX k
    have aXk := aX k
    rw [rowsQ, ← List.append_assoc]
    generalize hM : L ++ rowsQ why q k = M at *
    have hMl : M.length = L.length + (rowsQ why q k).length := by rw [← hM, List.length_append]
    rw [← hMl] at m1
    cases hq : q k with
    | true =>
      rw [hq] at e
      rw [List.flatMap_append, List.length_append]
      generalize M.flatMap F2.cells = Y at *
      generalize M.length = y at *
      simp [hk, e, w, ho, lXk, m1, F2.cells]
    | false =>
      rw [hq] at e
      rw [if_neg (by simp), List.append_nil]
      generalize M.flatMap F2.cells = Y at *
      generalize M.length = y at *
      simp [hk, e, w, ho]
  · rw [← hYN, ← hyN]
    simp
  · simp
/-- The size that an own slice's tag tells. -/
def tz (L : List F2) : Nat := match L with
  | [] => 0
  | _ :: _ => 2
theorem tz_ok (L : List F2) : tz L = 2 ∨ tz L = 0 ∧ L.length = 0 := by cases L <;> simp [tz]
theorem tz_snoc (L : List F2) (x : F2) : tz (L ++ [x]) = 2 := by cases L <;> simp [tz]
set_option maxHeartbeats 1000000 in
theorem f95n (n g : Nat) (cap : List PV) (why : Int) (q : Nat → Bool) (N : Nat) (hp : Heap) (hN : N ≤ 40) (hn : 60 < n) (ho : (hints g).own = none) (hg : ∀ k, k < N → ∃ H, evalCall Try.prog hints n g (.int .i64 k :: cap) hp = some (.bool (q k), H, false)) :
    evalCall Try.prog hints (n + 1) 95 [.sl (.mu 0) 0 [], .int .i64 why, .int .i64 N, .fn g cap] hp = some (.sl (.mu 2) (rowsQ why q N).length ((rowsQ why q N).flatMap F2.cells), hp, false) := by
  rw [evalCall_at _ _ _ hh95 rfl Try.func95 rfl (Nat.le_of_ble_eq_true rfl) rfl]
  have lX := fun k => flat_len F2.len (rowsQ why q k)
  have aX := fun k => flat_all (f := F2.cells) (fun _ => rfl) (rowsQ why q k)
  obtain ⟨YN, hYN⟩ : ∃ YN, YN = (rowsQ why q N).flatMap F2.cells := ⟨_, rfl⟩
  obtain ⟨yN, hyN⟩ : ∃ yN, yN = (rowsQ why q N).length := ⟨_, rfl⟩
  obtain ⟨zN, hzN⟩ : ∃ zN, zN = tz (rowsQ why q N) := ⟨_, rfl⟩
  rw [← hYN, ← hyN]
  simp
  rw [iter_count (fun k => { fr := [(0, .sl (.mu (tz (rowsQ why q k))) (rowsQ why q k).length ((rowsQ why q k).flatMap F2.cells)), (1, .int .i64 why), (3, .fn g cap), (10, .int .i64 N), (11, .int .i64 k)], hp := hp, base := hp.length, dirty := false }) (.exit 0, { fr := [(0, .sl (.mu zN) yN YN), (1, .int .i64 why), (3, .fn g cap), (10, .int .i64 N), (11, .int .i64 N), (12, .bool false)], hp := hp, base := hp.length, dirty := false }) N]
  · have hz : zN = 2 ∨ zN = 0 ∧ yN = 0 ∧ YN = [] := by
      rw [hzN, hyN, hYN]
      cases rowsQ why q N <;> simp [tz]
    rcases hz with h | ⟨h, h', h''⟩
    · rw [h]; simp
    · rw [h, h', h'']; simp
  · simp [rowsQ, tz]
  · omega
  · intro k hk
    obtain ⟨H, e⟩ := hg k hk
    have w := wrap_id (x := (k : Int) + 1) (by omega)
    have ln := rowsQ_len why q k
    have m1 : ((rowsQ why q k).length + 1) * 16 ≤ 140737488355328 := by omega
    have lXk := lX k
    have aXk := aX k
    rw [rowsQ]
    generalize hM : rowsQ why q k = M at *
    have t1 := tz_ok M
    have t2 := tz_snoc M
    cases hq : q k with
    | true =>
      rw [hq] at e
      rw [if_pos rfl, t2, List.flatMap_append, List.length_append]
      generalize M.flatMap F2.cells = Y at *
      generalize tz M = z at *
      generalize M.length = y at *
      simp [hk, e, w, ho, lXk, m1, t1, F2.cells]
    | false =>
      rw [hq] at e
      rw [if_neg (by simp), List.append_nil]
      generalize M.flatMap F2.cells = Y at *
      generalize tz M = z at *
      generalize M.length = y at *
      simp [hk, e, w, ho]
  · rw [← hYN, ← hyN, ← hzN]
    simp
  · simp
end Go.Proofs.Ytehemoachikpgaa
end

section
namespace Go.Proofs.Ytehemoachikpgaa
open Go Go.PS
theorem Tab.cells_eq (t : Tab) : t.cells = [.int .i64 t.f, .sl .sh t.W.length (t.W.flatMap R3.cells), .sl .sh t.S.length (t.S.flatMap R3.cells), .sl .sh t.C.length (t.C.flatMap Cl.cells)] := rfl
theorem f131 (n j k : Nat) (t : Tab) (hp : Heap) (hj : hp[j]? = some (.cells t.cells)) (hk : k < t.C.length) : evalCall Try.prog hints (n + 3) 131 [.int .i64 k, .ptr (.heap j) none 0] hp = some (.bool (!decide t.C[k].ok), hp, false) := by
  have e := f132 n t.C[k] hp
  have lX := flat_len Cl.len t.C
  have r := flat_row Cl.len t.C k hk
  rw [evalCall_at _ _ _ hh131 rfl Try.func131 rfl (Nat.le_of_ble_eq_true rfl) rfl]
  rw [Tab.cells_eq] at hj
  have z : k * 10 + 10 ≤ t.C.length * 10 := by omega
  generalize decide t.C[k].ok = b at *
  generalize t.C[k] = x at *
  generalize t.W.flatMap R3.cells = X at *
  generalize t.S.flatMap R3.cells = Y at *
  generalize t.C.flatMap Cl.cells = Z at *
  obtain ⟨x1, x2, x3, x4, x5, x6, x7, x8, x9, x10⟩ := x
  simp only [Cl.cells] at *
  simp [-getElem?_pos, List.getElem?_cons_zero, hj, hk, lX, r, z, e]
theorem f135 (n j : Nat) (x y : Cl) (hp : Heap) (hj : hp[j]? = some (.cells x.cells)) (hx : x.ok) : evalCall Try.prog hints (n + 4) 135 [.agg y.cells, .ptr (.heap j) none 0] hp = some (.bool (decide y.ok && shareC x y), hp, false) := by
  have e1 := fun hp => f132 (n + 1) y hp
  have e2 := fun h hp => f136 n x y hp hx h
  rw [evalCall_at _ _ _ hh135 rfl Try.func135 rfl (Nat.le_of_ble_eq_true rfl) rfl]
  by_cases hy : y.ok
  · have e2 := e2 hy
    rw [decide_eq_true hy] at e1 ⊢
    generalize shareC x y = b at *
    clear hy hx
    obtain ⟨x1, x2, x3, x4, x5, x6, x7, x8, x9, x10⟩ := x
    obtain ⟨y1, y2, y3, y4, y5, y6, y7, y8, y9, y10⟩ := y
    simp only [Cl.cells] at *
    simp [-getElem?_pos, List.getElem?_cons_zero, hj, e1, e2]
  · rw [decide_eq_false hy] at e1 ⊢
    generalize shareC x y = b at *
    clear hy hx e2
    obtain ⟨x1, x2, x3, x4, x5, x6, x7, x8, x9, x10⟩ := x
    obtain ⟨y1, y2, y3, y4, y5, y6, y7, y8, y9, y10⟩ := y
    simp only [Cl.cells] at *
    simp [-getElem?_pos, List.getElem?_cons_zero, hj, e1]
theorem f122 (n j : Nat) (x y : R3) (hp : Heap) (hj : hp[j]? = some (.cells x.cells)) : evalCall Try.prog hints (n + 3) 122 [.agg y.cells, .ptr (.heap j) none 0] hp = some (.bool (pairS x y), hp, false) := by
  have e := fun hp => f103 n x.a x.b y.a y.b hp
  rw [evalCall_at _ _ _ hh122 rfl Try.func122 rfl (Nat.le_of_ble_eq_true rfl) rfl]
  unfold pairS
  obtain ⟨o, a, b⟩ := x
  obtain ⟨o', a', b'⟩ := y
  simp only [R3.cells] at *
  generalize both a b a' b' = B at *
  generalize meets a b a' b' = m at *
  simp [-getElem?_pos, List.getElem?_cons_zero, hj, e]
theorem f127 (n j : Nat) (x y : R3) (hp : Heap) (hj : hp[j]? = some (.cells x.cells)) : evalCall Try.prog hints (n + 3) 127 [.agg y.cells, .ptr (.heap j) none 0] hp = some (.bool (pairW x y), hp, false) := by
  have e := fun hp => f103 n x.a x.b y.a y.b hp
  rw [evalCall_at _ _ _ hh127 rfl Try.func127 rfl (Nat.le_of_ble_eq_true rfl) rfl]
  unfold pairW
  obtain ⟨o, a, b⟩ := x
  obtain ⟨o', a', b'⟩ := y
  simp only [R3.cells] at *
  generalize both a b a' b' = B at *
  generalize meets a b a' b' = m at *
  cases m
  · by_cases c : o = o'
    · have c' : (o == o') = true := by simp [c]
      simp [-getElem?_pos, List.getElem?_cons_zero, hj, e, c']
      simp [c]
    · have c' : (o == o') = false := by simp [c]
      simp [-getElem?_pos, List.getElem?_cons_zero, hj, e, c']
      simp [c]
  · simp [-getElem?_pos, List.getElem?_cons_zero, hj, e]
theorem f128 (n j : Nat) (r : Int) (y : R3) (hp : Heap) (hj : hp[j]? = some (.cells [.int .i64 r])) : evalCall Try.prog hints (n + 1) 128 [.agg y.cells, .ptr (.heap j) none 0] hp = some (.bool (decide (y.o = r)), hp, false) := by
  rw [evalCall_at _ _ _ hh128 rfl Try.func128 rfl (Nat.le_of_ble_eq_true rfl) rfl]
  obtain ⟨o', a', b'⟩ := y
  simp only [R3.cells] at *
  by_cases c : o' = r
  · have c' : (o' == r) = true := by simp [c]
    simp [-getElem?_pos, List.getElem?_cons_zero, hj, c']
    simp [c]
  · have c' : (o' == r) = false := by simp [c]
    simp [-getElem?_pos, List.getElem?_cons_zero, hj, c']
    simp [c]
theorem f130 (n : Nat) (y : R3) (hp : Heap) : evalCall Try.prog hints (n + 1) 130 [.agg y.cells] hp = some (.bool (decide (y.o = 0)), hp, false) := by
  rw [evalCall_at _ _ _ hh130 rfl Try.func130 rfl (Nat.le_of_ble_eq_true rfl) rfl]
  obtain ⟨o', a', b'⟩ := y
  simp only [R3.cells] at *
  by_cases c : o' = 0
  · have c' : (o' == 0) = true := by simp [c]
    simp [c']
    simp [c]
  · have c' : (o' == 0) = false := by simp [c]
    simp [c']
    simp [c]
end Go.Proofs.Ytehemoachikpgaa
end

section
namespace Go.Proofs.Ytehemoachikpgaa
open Go Go.PS
theorem f120 (n j k : Nat) (t : Tab) (hp : Heap) (hj : hp[j]? = some (.cells t.cells)) (hk : k < t.S.length) (hf : t.f ≤ 4096) : evalCall Try.prog hints (n + 4) 120 [.int .i64 k, .ptr (.heap j) none 0] hp = some (.bool (!okS t t.S[k]), hp, false) := by
  have e := fun hp => f69 n t t.S[k] hp hf
  have lX := flat_len R3.len t.S
  have r := flat_row R3.len t.S k hk
  rw [evalCall_at _ _ _ hh120 rfl Try.func120 rfl (Nat.le_of_ble_eq_true rfl) rfl]
  rw [Tab.cells_eq] at hj e
  have z : k * 3 + 3 ≤ t.S.length * 3 := by omega
  generalize okS t t.S[k] = b at *
  generalize t.S[k] = x at *
  generalize t.W.flatMap R3.cells = X at *
  generalize t.S.flatMap R3.cells = Y at *
  generalize t.C.flatMap Cl.cells = Z at *
  obtain ⟨x1, x2, x3⟩ := x
  simp only [R3.cells] at *
  simp [-getElem?_pos, List.getElem?_cons_zero, hj, hk, lX, r, z, e]
theorem f123 (n j k : Nat) (t : Tab) (hp : Heap) (hj : hp[j]? = some (.cells t.cells)) (hk : k < t.W.length) : evalCall Try.prog hints (n + 4) 123 [.int .i64 k, .ptr (.heap j) none 0] hp = some (.bool (!okW t t.W[k]), hp, false) := by
  have e := fun hp => f124 n t t.W[k] hp
  have lX := flat_len R3.len t.W
  have r := flat_row R3.len t.W k hk
  rw [evalCall_at _ _ _ hh123 rfl Try.func123 rfl (Nat.le_of_ble_eq_true rfl) rfl]
  rw [Tab.cells_eq] at hj e
  have z : k * 3 + 3 ≤ t.W.length * 3 := by omega
  generalize okW t t.W[k] = b at *
  generalize t.W[k] = x at *
  generalize t.W.flatMap R3.cells = X at *
  generalize t.S.flatMap R3.cells = Y at *
  generalize t.C.flatMap Cl.cells = Z at *
  obtain ⟨x1, x2, x3⟩ := x
  simp only [R3.cells] at *
  simp [-getElem?_pos, List.getElem?_cons_zero, hj, hk, lX, r, z, e]
theorem f96 (n j k : Nat) (t : Tab) (hp : Heap) (hj : hp[j]? = some (.cells t.cells)) (hk : k < t.C.length) (hf : frameB t = true) (hn : 40 < n) : evalCall Try.prog hints (n + 5) 96 [.int .i64 k, .ptr (.heap j) none 0] hp = some (.bool (overU t ((k : Int) + 1) t.C[k]), hp, false) := by
  have e := fun hp => f30 n t ((k : Int) + 1) hp hf hn
  have hf' := hf
  unfold frameB at hf'; simp only [decide_eq_true_eq] at hf'
  have lX := flat_len Cl.len t.C
  have g := flat_get Cl.len t.C k hk 4 (by omega)
  rw [evalCall_at _ _ _ hh96 rfl Try.func96 rfl (Nat.le_of_ble_eq_true rfl) rfl]
  unfold overU
  rw [Tab.cells_eq] at hj e
  have w := wrap_id (x := (k : Int) + 1) (by omega)
  generalize units t ((k : Int) + 1) t.S = u at *
  generalize t.C[k] = x at *
  generalize t.W.flatMap R3.cells = X at *
  generalize t.S.flatMap R3.cells = Y at *
  generalize t.C.flatMap Cl.cells = Z at *
  obtain ⟨x1, x2, x3, x4, x5, x6, x7, x8, x9, x10⟩ := x
  simp only [Cl.cells, List.getElem?_cons_zero, List.getElem?_cons_succ] at *
  simp [-getElem?_pos, List.getElem?_cons_zero, hj, hk, lX, g, w, e]
theorem f133 (n j k : Nat) (t : Tab) (hp : Heap) (hj : hp[j]? = some (.cells t.cells)) (hk : k < t.C.length) (hC : t.C.length ≤ 8) (hn : 60 < n) : ∃ H, evalCall Try.prog hints (n + 7) 133 [.int .i64 k, .ptr (.heap j) none 0] hp = some (.bool (decide t.C[k].ok && (t.C.take k).any fun y => decide y.ok && shareC t.C[k] y), H, false) := by
  have hlt : j < hp.length := (List.getElem?_eq_some_iff.1 hj).1
  have hl : (t.C.take k).length = k := by rw [List.length_take]; omega
  have hj1 : ∀ c, (hp ++ [c])[j]? = some (.cells t.cells) := fun c => by rw [List.getElem?_append_left hlt]; exact hj
  have hlast : ∀ c : PS.Node, (hp ++ [c])[hp.length]? = some c := fun c => by simp
  have e1 := fun hp => f132 (n + 4) t.C[k] hp
  have e2 := fun (hx : t.C[k].ok) => f134 (n + 4) 135 [.ptr (.heap hp.length) none 0] (fun y => decide y.ok && shareC t.C[k] y) (t.C.take k) (hp ++ [.cells t.C[k].cells]) (by omega) (by omega) rfl (fun y _ => ⟨_, f135 n hp.length t.C[k] y _ (hlast _) hx⟩)
  rw [hl] at e2
  have ft := flat_take Cl.len t.C k
  have lX := flat_len Cl.len t.C
  have r := flat_row Cl.len t.C k hk
  rw [← ft] at e2
  rw [evalCall_at _ _ _ hh133 rfl Try.func133 rfl (Nat.le_of_ble_eq_true rfl) rfl]
  rw [Tab.cells_eq] at hj hj1
  have z : k * 10 + 10 ≤ t.C.length * 10 := by omega
  have k1 : (k : Int) ≤ t.C.length := by omega
  generalize (t.C.take k).any _ = b at *
  by_cases hx : t.C[k].ok
  · have e2 := e2 hx
    rw [decide_eq_true hx] at e1 ⊢
    clear hx ft
    generalize t.C[k] = x at *
    generalize t.W.flatMap R3.cells = X at *
    generalize t.S.flatMap R3.cells = Y at *
    generalize t.C.flatMap Cl.cells = Z at *
    obtain ⟨x1, x2, x3, x4, x5, x6, x7, x8, x9, x10⟩ := x
    simp only [Cl.cells] at *
    exact ⟨_, by simp [-getElem?_pos, List.getElem?_cons_zero, hj, hj1, hlast, hk, k1, lX, r, z, e1, e2]; rfl⟩
  · rw [decide_eq_false hx] at e1 ⊢
    clear hx ft e2
    generalize t.C[k] = x at *
    generalize t.W.flatMap R3.cells = X at *
    generalize t.S.flatMap R3.cells = Y at *
    generalize t.C.flatMap Cl.cells = Z at *
    obtain ⟨x1, x2, x3, x4, x5, x6, x7, x8, x9, x10⟩ := x
    simp only [Cl.cells] at *
    exact ⟨_, by simp [-getElem?_pos, List.getElem?_cons_zero, hj, hj1, hlast, hk, k1, lX, r, z, e1]; rfl⟩
theorem f121 (n j k : Nat) (t : Tab) (hp : Heap) (hj : hp[j]? = some (.cells t.cells)) (hk : k < t.S.length) (hC : t.S.length ≤ 32) (hn : 60 < n) : ∃ H, evalCall Try.prog hints (n + 6) 121 [.int .i64 k, .ptr (.heap j) none 0] hp = some (.bool ((t.S.take k).any fun y => pairS t.S[k] y), H, false) := by
  have hlt : j < hp.length := (List.getElem?_eq_some_iff.1 hj).1
  have hl : (t.S.take k).length = k := by rw [List.length_take]; omega
  have hj1 : ∀ c, (hp ++ [c])[j]? = some (.cells t.cells) := fun c => by rw [List.getElem?_append_left hlt]; exact hj
  have hlast : ∀ c : PS.Node, (hp ++ [c])[hp.length]? = some c := fun c => by simp
  have e2 := f101 (n + 3) 122 [.ptr (.heap hp.length) none 0] (fun y => pairS t.S[k] y) (t.S.take k) (hp ++ [.cells t.S[k].cells]) (by omega) (by omega) rfl (fun y _ => ⟨_, f122 n hp.length t.S[k] y _ (hlast _)⟩)
  rw [hl] at e2
  have ft := flat_take R3.len t.S k
  have lX := flat_len R3.len t.S
  have r := flat_row R3.len t.S k hk
  rw [← ft] at e2
  rw [evalCall_at _ _ _ hh121 rfl Try.func121 rfl (Nat.le_of_ble_eq_true rfl) rfl]
  rw [Tab.cells_eq] at hj hj1
  have z : k * 3 + 3 ≤ t.S.length * 3 := by omega
  have k1 : (k : Int) ≤ t.S.length := by omega
  generalize (t.S.take k).any _ = b at *
  clear ft
  generalize t.S[k] = x at *
  generalize t.W.flatMap R3.cells = X at *
  generalize t.S.flatMap R3.cells = Y at *
  generalize t.C.flatMap Cl.cells = Z at *
  obtain ⟨x1, x2, x3⟩ := x
  simp only [R3.cells] at *
  exact ⟨_, by simp [-getElem?_pos, List.getElem?_cons_zero, hj, hj1, hlast, hk, k1, lX, r, z, e2]; rfl⟩
theorem f125 (n j k : Nat) (t : Tab) (hp : Heap) (hj : hp[j]? = some (.cells t.cells)) (hk : k < t.W.length) (hC : t.W.length ≤ 32) (hn : 60 < n) : ∃ H, evalCall Try.prog hints (n + 6) 125 [.int .i64 k, .ptr (.heap j) none 0] hp = some (.bool ((t.W.take k).any fun y => pairW t.W[k] y), H, false) := by
  have hlt : j < hp.length := (List.getElem?_eq_some_iff.1 hj).1
  have hl : (t.W.take k).length = k := by rw [List.length_take]; omega
  have hj1 : ∀ c, (hp ++ [c])[j]? = some (.cells t.cells) := fun c => by rw [List.getElem?_append_left hlt]; exact hj
  have hlast : ∀ c : PS.Node, (hp ++ [c])[hp.length]? = some c := fun c => by simp
  have e2 := f126 (n + 3) 127 [.ptr (.heap hp.length) none 0] (fun y => pairW t.W[k] y) (t.W.take k) (hp ++ [.cells t.W[k].cells]) (by omega) (by omega) rfl (fun y _ => ⟨_, f127 n hp.length t.W[k] y _ (hlast _)⟩)
  rw [hl] at e2
  have ft := flat_take R3.len t.W k
  have lX := flat_len R3.len t.W
  have r := flat_row R3.len t.W k hk
  rw [← ft] at e2
  rw [evalCall_at _ _ _ hh125 rfl Try.func125 rfl (Nat.le_of_ble_eq_true rfl) rfl]
  rw [Tab.cells_eq] at hj hj1
  have z : k * 3 + 3 ≤ t.W.length * 3 := by omega
  have k1 : (k : Int) ≤ t.W.length := by omega
  generalize (t.W.take k).any _ = b at *
  clear ft
  generalize t.W[k] = x at *
  generalize t.W.flatMap R3.cells = X at *
  generalize t.S.flatMap R3.cells = Y at *
  generalize t.C.flatMap Cl.cells = Z at *
  obtain ⟨x1, x2, x3⟩ := x
  simp only [R3.cells] at *
  exact ⟨_, by simp [-getElem?_pos, List.getElem?_cons_zero, hj, hj1, hlast, hk, k1, lX, r, z, e2]; rfl⟩
end Go.Proofs.Ytehemoachikpgaa
end

section
namespace Go.Proofs.Ytehemoachikpgaa
open Go Go.PS
def qat {α : Type} (l : List α) (p : α → Bool) (k : Nat) : Bool := (l[k]?).any p
def qpre {α : Type} (l : List α) (p : α → α → Bool) (k : Nat) : Bool := (l[k]?).any fun x => (l.take k).any (p x)
theorem qat_lt {α : Type} {l : List α} {p : α → Bool} {k : Nat} (h : k < l.length) : qat l p k = p l[k] := by
  unfold qat; rw [List.getElem?_eq_getElem h]; rfl
theorem qpre_lt {α : Type} {l : List α} {p : α → α → Bool} {k : Nat} (h : k < l.length) : qpre l p k = (l.take k).any (p l[k]) := by
  unfold qpre; rw [List.getElem?_eq_getElem h]; rfl
theorem any_and {α : Type} (b : Bool) (p : α → Bool) (l : List α) : (b && l.any p) = l.any fun y => b && p y := by
  induction l with
  | nil => simp
  | cons a l ih => rw [List.any_cons, List.any_cons, ← ih]; cases b <;> simp
theorem pairC_eq (x y : Cl) : pairC x y = (decide x.ok && (decide y.ok && shareC x y)) := by
  unfold pairC shareC; rw [Bool.and_assoc]
def L94 (t : Tab) (L : List F2) : List F2 := L ++ rowsQ 2 (qat t.C fun c => !decide c.ok) t.C.length ++ rowsQ 3 (qpre t.C pairC) t.C.length
set_option maxHeartbeats 1000000 in
theorem f94 (n : Nat) (t : Tab) (hp : Heap) (hC : t.C.length ≤ 8) (hn : 60 < n) : ∃ H, evalCall Try.prog hints (n + 9) 94 [.sl (.mu 0) 0 [], .agg t.cells] hp = some (.sl (.mu 2) (L94 t []).length ((L94 t []).flatMap F2.cells), H, false) := by
  have hj : (hp ++ [PS.Node.cells t.cells])[hp.length]? = some (.cells t.cells) := by simp
  have e1 := f95n (n + 7) 131 [.ptr (.heap hp.length) none 0] 2 (qat t.C fun c => !decide c.ok) t.C.length _ (by omega) (by omega) rfl (fun k hk => ⟨_, by rw [qat_lt hk]; exact f131 (n + 4) hp.length k t _ hj hk⟩)
  have l1 := rowsQ_len 2 (qat t.C fun c => !decide c.ok) t.C.length
  have e2 := f95 (n + 7) 133 [.ptr (.heap hp.length) none 0] 3 (qpre t.C pairC) t.C.length (rowsQ 2 (qat t.C fun c => !decide c.ok) t.C.length) _ (by omega) (by omega) (by omega) rfl (fun k hk => by
    obtain ⟨H, e⟩ := f133 n hp.length k t _ hj hk hC hn
    refine ⟨H, ?_⟩
    rw [qpre_lt hk, e, any_and]
    rw [show (fun y => decide (t.C[k]).ok && (decide y.ok && shareC t.C[k] y)) = pairC t.C[k] from funext fun y => (pairC_eq _ _).symm])
  rw [show rowsQ 2 (qat t.C fun c => !decide c.ok) t.C.length ++ rowsQ 3 (qpre t.C pairC) t.C.length = L94 t [] from rfl] at e2
  rw [evalCall_at _ _ _ hh94 rfl Try.func94 rfl (Nat.le_of_ble_eq_true rfl) rfl]
  have px : ((L94 t []).flatMap F2.cells).all plain1 = true := by rw [List.all_flatMap]; simp [F2.cells, plain1]
  have px1 : ((rowsQ 2 (qat t.C fun c => !decide c.ok) t.C.length : List F2).flatMap F2.cells).all plain1 = true := by rw [List.all_flatMap]; simp [F2.cells, plain1]
  rw [Tab.cells_eq] at *
  generalize rowsQ 2 (qat t.C fun c => !decide c.ok) t.C.length = L1 at *
  generalize (L94 t []).flatMap F2.cells = A at *
  generalize (L94 t []).length = a at *
  generalize L1.flatMap F2.cells = A1 at *
  generalize L1.length = a1 at *
  generalize t.W.flatMap R3.cells = X at *
  generalize t.S.flatMap R3.cells = Y at *
  generalize t.C.flatMap Cl.cells = Z at *
  exact ⟨_, by simp [-getElem?_pos, -List.all_eq_true, List.getElem?_cons_zero, hj, e1, e2, px, px1]; rfl⟩
def L92 (t : Tab) (L : List F2) : List F2 := L ++ rowsQ 8 (qat t.S fun c => !okS t c) t.S.length ++ rowsQ 9 (qpre t.S pairS) t.S.length
set_option maxHeartbeats 1000000 in
theorem f92 (n : Nat) (t : Tab) (L : List F2) (hp : Heap) (hL : L.length ≤ 200) (hC : t.S.length ≤ 32) (hf : t.f ≤ 4096) (hn : 60 < n) : ∃ H, evalCall Try.prog hints (n + 9) 92 [.sl (.mu 2) L.length (L.flatMap F2.cells), .agg t.cells] hp = some (.sl (.mu 2) (L92 t L).length ((L92 t L).flatMap F2.cells), H, false) := by
  have hj : (hp ++ [PS.Node.cells t.cells])[hp.length]? = some (.cells t.cells) := by simp
  have e1 := f95 (n + 7) 120 [.ptr (.heap hp.length) none 0] 8 (qat t.S fun c => !okS t c) t.S.length L _ (by omega) (by omega) (by omega) rfl (fun k hk => ⟨_, by rw [qat_lt hk]; exact f120 (n + 3) hp.length k t _ hj hk hf⟩)
  have l1 := rowsQ_len 8 (qat t.S fun c => !okS t c) t.S.length
  have e2 := f95 (n + 7) 121 [.ptr (.heap hp.length) none 0] 9 (qpre t.S pairS) t.S.length (L ++ rowsQ 8 (qat t.S fun c => !okS t c) t.S.length) _ (by omega) (by simp; omega) (by omega) rfl (fun k hk => by
    rw [qpre_lt hk]
    exact f121 (n + 1) hp.length k t _ hj hk hC (by omega))
  rw [show L ++ rowsQ 8 (qat t.S fun c => !okS t c) t.S.length ++ rowsQ 9 (qpre t.S pairS) t.S.length = L92 t L from rfl] at e2
  rw [evalCall_at _ _ _ hh92 rfl Try.func92 rfl (Nat.le_of_ble_eq_true rfl) rfl]
  have px : ((L92 t L).flatMap F2.cells).all plain1 = true := by rw [List.all_flatMap]; simp [F2.cells, plain1]
  have px1 : ((L ++ rowsQ 8 (qat t.S fun c => !okS t c) t.S.length : List F2).flatMap F2.cells).all plain1 = true := by rw [List.all_flatMap]; simp [F2.cells, plain1]
  rw [Tab.cells_eq] at *
  generalize L ++ rowsQ 8 (qat t.S fun c => !okS t c) t.S.length = L1 at *
  generalize (L92 t L).flatMap F2.cells = A at *
  generalize (L92 t L).length = a at *
  generalize L1.flatMap F2.cells = A1 at *
  generalize L1.length = a1 at *
  generalize L.flatMap F2.cells = A2 at *
  generalize L.length = a2 at *
  generalize t.W.flatMap R3.cells = X at *
  generalize t.S.flatMap R3.cells = Y at *
  generalize t.C.flatMap Cl.cells = Z at *
  exact ⟨_, by simp [-getElem?_pos, -List.all_eq_true, List.getElem?_cons_zero, hj, e1, e2, px, px1]; rfl⟩
end Go.Proofs.Ytehemoachikpgaa
end
