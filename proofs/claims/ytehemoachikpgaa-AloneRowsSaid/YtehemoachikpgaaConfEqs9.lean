/-
  What functions of this program compute, as equations about the evaluator. No condition but those stated.
-/
import Derived.Test.YtehemoachikpgaaConfEqs8
set_option linter.all false
section
namespace Go.Proofs.Ytehemoachikpgaa
open Go Go.PS
theorem f71 (n : Nat) (k f : Int) (hp : Heap) (hf : 1 ≤ f ∧ f ≤ 4096) (hk : 0 ≤ k ∧ k < 9223372036854775808) : evalCall Try.prog hints (n + 1) 71 [.int .i64 k, .int .i64 f] hp = some (.int .i64 (k % f), hp, false) := by
  rw [evalCall_at _ _ _ hh71 rfl Try.func71 rfl (Nat.le_of_ble_eq_true rfl) rfl]
  have hne : (f == 0) = false := by simp; omega
  have hne' : ¬ f = 0 := by omega
  have q1 := td (a := k) f (by omega)
  have b0 := Int.ediv_nonneg (a := k) (b := f) (by omega) (by omega)
  have b1 : k / f ≤ k := Int.ediv_le_self f (by omega)
  have b2 := Int.emod_nonneg k (show f ≠ 0 by omega)
  have b3 := Int.emod_lt_of_pos k (show 0 < f by omega)
  have b4 : k / f * f = k - k % f := by have := Int.mul_ediv_add_emod k f; rw [Int.mul_comm]; omega
  have w1 := wrap_id (x := k / f) (by omega)
  have w2 : IntKind.i64.wrap (k - k % f) = k - k % f := wrap_id (by omega)
  have w3 : IntKind.i64.wrap (k - (k - k % f)) = k % f := by rw [show k - (k - k % f) = k % f by omega]; exact wrap_id (by omega)
  simp [hne, hne', q1, w1, b4, w2, w3]
/-- The owner of the first window that is somebody's and of which something is so. -/
def runR (l : List R3) (q : Sp → Bool) : Int := match idx (fun w : R3 => decide (0 < w.o) && q (wsp w)) l with
  | some k => ((l[k]?).getD ⟨0, 0, 0⟩).o
  | none => 0
theorem findO_eq {t : Tab} (g : Good t) (q : Sp → Bool) (hu : ∀ x ∈ t.W, ∀ y ∈ t.W, q (wsp x) = true → q (wsp y) = true → x = y) : findO t q = runR t.W q := by
  unfold findO runR
  cases hi : (List.range t.C.length).find? (fun i => q (winF t.W (i + 1))) with
  | none =>
    cases hx : idx (fun w : R3 => decide (0 < w.o) && q (wsp w)) t.W with
    | none => rfl
    | some k =>
      exfalso
      obtain ⟨hk, e⟩ := idx_lt hx
      rw [Bool.and_eq_true] at e
      have e1 := of_decide_eq_true e.1
      have ok := g.wok t.W[k] (List.getElem_mem hk)
      unfold okW at ok; simp only [decide_eq_true_eq] at ok
      obtain ⟨i, hi'⟩ : ∃ i : Nat, t.W[k].o = ((i + 1 : Nat) : Int) := ⟨(t.W[k].o - 1).toNat, by omega⟩
      have := List.find?_eq_none.1 hi i (List.mem_range.2 (by omega))
      obtain ⟨w, hw, h1, h2, _⟩ := win_good g (i + 1) (by omega)
      rw [h2, wins_uniq g.wpair hw (List.getElem_mem hk) (by rw [h1, hi'])] at this
      exact this e.2
  | some i =>
    obtain ⟨h1, h2⟩ := find_lt hi
    obtain ⟨w, hw, w1, w2, _⟩ := win_good g (i + 1) (by omega)
    rw [w2] at h2
    cases hx : idx (fun w : R3 => decide (0 < w.o) && q (wsp w)) t.W with
    | none =>
      exfalso
      have := idx_none.1 hx
      rw [List.any_eq_false] at this
      exact this w hw (by rw [h2, Bool.and_true]; exact decide_eq_true (by omega))
    | some k =>
      obtain ⟨hk, e⟩ := idx_lt hx
      rw [Bool.and_eq_true] at e
      have := hu _ (List.getElem_mem hk) w hw e.2 h2
      simp only [List.getElem?_eq_getElem hk, Option.getD_some]
      rw [this, w1]; omega
theorem wins_off {t : Tab} (g : Good t) {x y : R3} (hx : x ∈ t.W) (hy : y ∈ t.W) (h : ¬ (x.b ≤ y.a ∨ y.b ≤ x.a)) : x = y := by
  obtain ⟨i, hi, rfl⟩ := List.getElem_of_mem hx
  obtain ⟨j, hj, rfl⟩ := List.getElem_of_mem hy
  have oi := g.wok _ hx
  have oj := g.wok _ hy
  unfold okW at oi oj; simp only [decide_eq_true_eq] at oi oj
  have p := List.pairwise_iff_getElem.1 g.wpair
  have key : ∀ i j (hi : i < t.W.length) (hj : j < t.W.length), i < j → 0 ≤ t.W[i].a → 0 ≤ t.W[j].a → t.W[i].a < t.W[i].b → t.W[j].a < t.W[j].b → t.W[i].b ≤ t.W[j].a ∨ t.W[j].b ≤ t.W[i].a := fun i j hi hj hij h1 h2 h3 h4 => by
    have := p i j hi hj hij
    unfold pairW at this
    rw [Bool.or_eq_false_iff] at this
    have m := this.2
    unfold meets holds at m
    rw [Bool.eq_false_iff] at m
    simp only [ne_eq, Bool.and_eq_true, Bool.or_eq_true, decide_eq_true_eq] at m
    omega
  by_cases c : i = j
  · subst c; rfl
  · rcases Nat.lt_or_ge i j with h' | h'
    · have := key i j hi hj h' (by omega) (by omega) (by omega) (by omega); omega
    · have := key j i hj hi (by omega) (by omega) (by omega) (by omega) (by omega); omega
theorem runs_eq {t : Tab} (g : Good t) (x : Int) : findO t (inS x) = runR t.W (inS x) :=
  findO_eq g _ fun a ha b hb h1 h2 => by
    unfold inS wsp at h1 h2
    simp only [Bool.and_eq_true, decide_eq_true_eq] at h1 h2
    exact wins_off g ha hb (by omega)
theorem opens_eq {t : Tab} (g : Good t) (x : Int) : findO t (fun s => s.a == x) = runR t.W (fun s => s.a == x) :=
  findO_eq g _ fun a ha b hb h1 h2 => by
    unfold wsp at h1 h2
    simp only [beq_iff_eq] at h1 h2
    have oa := g.wok _ ha
    have ob := g.wok _ hb
    unfold okW at oa ob; simp only [decide_eq_true_eq] at oa ob
    exact wins_off g ha hb (by omega)
set_option maxHeartbeats 2000000 in
theorem f46 (n : Nat) (t : Tab) (g : Good t) (k : Int) (hp : Heap) (hk : k < 9223372036854775808) (hn : 60 < n) : evalCall Try.prog hints (n + 2) 46 [.agg t.cells, .int .i64 k] hp = some (.int .i64 (if k < 0 then 0 else runR t.W (inS (k % t.f))), hp, false) := by
  have hf := g.frame
  unfold frameB at hf; simp only [decide_eq_true_eq] at hf
  have e71 := fun h => f71 n k t.f hp (by omega) ⟨h, hk⟩
  rw [evalCall_at _ _ _ hh46 rfl Try.func46 rfl (Nat.le_of_ble_eq_true rfl) rfl]
  have lX := flat_len R3.len t.W
  have g0 := fun k h => flat_get R3.len t.W k h 0 (by omega)
  have g1 := fun k h => flat_get R3.len t.W k h 1 (by omega)
  have g2 := fun k h => flat_get R3.len t.W k h 2 (by omega)
  simp only [Tab.cells_eq]
  generalize t.S.flatMap R3.cells = Y at *
  generalize t.C.flatMap Cl.cells = Z at *
  generalize t.W.flatMap R3.cells = X at *
  by_cases c : k < 0
  · rw [if_pos c]
    have c' : ¬ 0 ≤ k := by omega
    simp
    rw [iter_count (fun i => { fr := [(1, .int .i64 k), (2, .box [.int .i64 t.f, .sl .sh t.W.length X, .sl .sh t.S.length Y, .sl .sh t.C.length Z]), (5, .int .i64 0)], hp := hp, base := hp.length, dirty := false }) (.exit 0, { fr := [(1, .int .i64 k), (2, .box [.int .i64 t.f, .sl .sh t.W.length X, .sl .sh t.S.length Y, .sl .sh t.C.length Z]), (5, .int .i64 0), (15, .bool false)], hp := hp, base := hp.length, dirty := false }) 0]
    · simp
    · simp
    · omega
    · intro i hi; omega
    · by_cases h : 0 < t.W.length
      · simp [-getElem?_pos, List.getElem?_cons_zero, c', h]
      · simp [-getElem?_pos, List.getElem?_cons_zero, c', h]
    · simp
  · rw [if_neg c]
    have c' : 0 ≤ k := by omega
    have e71 := e71 c'
    have b2 := Int.emod_nonneg k (show t.f ≠ 0 by omega)
    have b3 := Int.emod_lt_of_pos k (show 0 < t.f by omega)
    generalize k % t.f = x at *
    unfold runR
    rw [← idx_range]
    simp
    rw [iter_idx (fun i => { fr := [(1, .int .i64 k), (2, .box [.int .i64 t.f, .sl .sh t.W.length X, .sl .sh t.S.length Y, .sl .sh t.C.length Z]), (5, .int .i64 i)], hp := hp, base := hp.length, dirty := false }) (fun i => (t.W[i]?).any fun w => decide (0 < w.o) && inS x (wsp w)) (fun i => (.ret, { fr := [(4, .int .i64 ((t.W[i]?).getD ⟨0, 0, 0⟩).o)], hp := hp, base := hp.length, dirty := false })) (.exit 0, { fr := [(1, .int .i64 k), (2, .box [.int .i64 t.f, .sl .sh t.W.length X, .sl .sh t.S.length Y, .sl .sh t.C.length Z]), (5, .int .i64 t.W.length), (15, .bool false)], hp := hp, base := hp.length, dirty := false }) t.W.length]
    · cases (List.range t.W.length).find? _ <;> simp
    · simp
    · omega
    · intro i hi
      have g0 := g0 i hi
      have g1 := g1 i hi
      have g2 := g2 i hi
      have w := wrap_id (x := (i : Int) + 1) (by omega)
      have ok := g.wok t.W[i] (List.getElem_mem hi)
      unfold okW at ok; simp only [decide_eq_true_eq] at ok
      have hin : inS x (wsp t.W[i]) = decide (t.W[i].a ≤ x ∧ x < t.W[i].b) := by
        show (decide (0 ≤ t.W[i].a ∧ t.W[i].a < t.W[i].b) && decide (t.W[i].a ≤ x ∧ x < t.W[i].b)) = _
        rw [decide_eq_true (show 0 ≤ t.W[i].a ∧ t.W[i].a < t.W[i].b by omega), Bool.true_and]
      rw [List.getElem?_eq_getElem hi]
      simp only [Option.any_some, Option.getD_some, hin]
      clear hin
      generalize t.W[i] = v at *
      obtain ⟨o, a, b⟩ := v
      simp only [R3.cells, Nat.add_zero, List.getElem?_cons_zero, List.getElem?_cons_succ] at *
      by_cases d1 : 0 < o
      · by_cases d2 : a ≤ x
        · by_cases d3 : x < b
          · rw [decide_eq_true d1, decide_eq_true (show a ≤ x ∧ x < b from ⟨d2, d3⟩)]
            simp [-getElem?_pos, List.getElem?_cons_zero, hi, c', lX, g0, g1, g2, w, e71, d1, d2, d3]
          · rw [decide_eq_false (show ¬ (a ≤ x ∧ x < b) from fun h => d3 h.2), Bool.and_false]
            simp [-getElem?_pos, List.getElem?_cons_zero, hi, c', lX, g0, g1, g2, w, e71, d1, d2, d3]
        · rw [decide_eq_false (show ¬ (a ≤ x ∧ x < b) from fun h => d2 h.1), Bool.and_false]
          simp [-getElem?_pos, List.getElem?_cons_zero, hi, c', lX, g0, g1, g2, w, e71, d1, d2]
      · rw [decide_eq_false d1, Bool.false_and]
        simp [-getElem?_pos, List.getElem?_cons_zero, hi, c', lX, g0, g1, g2, w, e71, d1]
    · simp [c']
    · simp
    · simp
set_option maxHeartbeats 2000000 in
theorem f48 (n : Nat) (t : Tab) (g : Good t) (k : Int) (hp : Heap) (hk : k < 9223372036854775808) (hn : 60 < n) : evalCall Try.prog hints (n + 2) 48 [.agg t.cells, .int .i64 k] hp = some (.int .i64 (if k < 0 then 0 else runR t.W (fun s => s.a == k % t.f)), hp, false) := by
  have hf := g.frame
  unfold frameB at hf; simp only [decide_eq_true_eq] at hf
  have e71 := fun h => f71 n k t.f hp (by omega) ⟨h, hk⟩
  rw [evalCall_at _ _ _ hh48 rfl Try.func48 rfl (Nat.le_of_ble_eq_true rfl) rfl]
  have lX := flat_len R3.len t.W
  have g0 := fun k h => flat_get R3.len t.W k h 0 (by omega)
  have g1 := fun k h => flat_get R3.len t.W k h 1 (by omega)
  simp only [Tab.cells_eq]
  generalize t.S.flatMap R3.cells = Y at *
  generalize t.C.flatMap Cl.cells = Z at *
  generalize t.W.flatMap R3.cells = X at *
  by_cases c : k < 0
  · rw [if_pos c]
    have c' : ¬ 0 ≤ k := by omega
    simp
    rw [iter_count (fun i => { fr := [(1, .int .i64 k), (2, .box [.int .i64 t.f, .sl .sh t.W.length X, .sl .sh t.S.length Y, .sl .sh t.C.length Z]), (5, .int .i64 0)], hp := hp, base := hp.length, dirty := false }) (.exit 0, { fr := [(1, .int .i64 k), (2, .box [.int .i64 t.f, .sl .sh t.W.length X, .sl .sh t.S.length Y, .sl .sh t.C.length Z]), (5, .int .i64 0), (14, .bool false)], hp := hp, base := hp.length, dirty := false }) 0]
    · simp
    · simp
    · omega
    · intro i hi; omega
    · by_cases h : 0 < t.W.length
      · simp [-getElem?_pos, List.getElem?_cons_zero, c', h]
      · simp [-getElem?_pos, List.getElem?_cons_zero, c', h]
    · simp
  · rw [if_neg c]
    have c' : 0 ≤ k := by omega
    have e71 := e71 c'
    generalize k % t.f = x at *
    unfold runR
    rw [← idx_range]
    simp
    rw [iter_idx (fun i => { fr := [(1, .int .i64 k), (2, .box [.int .i64 t.f, .sl .sh t.W.length X, .sl .sh t.S.length Y, .sl .sh t.C.length Z]), (5, .int .i64 i)], hp := hp, base := hp.length, dirty := false }) (fun i => (t.W[i]?).any fun w => decide (0 < w.o) && ((wsp w).a == x)) (fun i => (.ret, { fr := [(4, .int .i64 ((t.W[i]?).getD ⟨0, 0, 0⟩).o)], hp := hp, base := hp.length, dirty := false })) (.exit 0, { fr := [(1, .int .i64 k), (2, .box [.int .i64 t.f, .sl .sh t.W.length X, .sl .sh t.S.length Y, .sl .sh t.C.length Z]), (5, .int .i64 t.W.length), (14, .bool false)], hp := hp, base := hp.length, dirty := false }) t.W.length]
    · cases (List.range t.W.length).find? _ <;> simp
    · simp
    · omega
    · intro i hi
      have g0 := g0 i hi
      have g1 := g1 i hi
      have w := wrap_id (x := (i : Int) + 1) (by omega)
      rw [List.getElem?_eq_getElem hi]
      simp only [Option.any_some, Option.getD_some]
      generalize t.W[i] = v at *
      obtain ⟨o, a, b⟩ := v
      simp only [R3.cells, wsp, Nat.add_zero, List.getElem?_cons_zero, List.getElem?_cons_succ] at *
      by_cases d1 : 0 < o
      · by_cases d2 : a = x
        · have d2' : (a == x) = true := by simp [d2]
          have d3 : (x == a) = true := by simp [d2]
          rw [decide_eq_true d1, d2']
          simp [-getElem?_pos, List.getElem?_cons_zero, hi, c', lX, g0, g1, w, e71, d1, d2', d3]
        · have d2' : (a == x) = false := by simp [d2]
          have d3 : (x == a) = false := by simp; omega
          rw [decide_eq_true d1, d2']
          simp [-getElem?_pos, List.getElem?_cons_zero, hi, c', lX, g0, g1, w, e71, d1, d2', d3]
      · rw [decide_eq_false d1, Bool.false_and]
        simp [-getElem?_pos, List.getElem?_cons_zero, hi, c', lX, g0, g1, w, e71, d1]
    · simp [c']
    · simp
    · simp
end Go.Proofs.Ytehemoachikpgaa
end

section
namespace Go.Proofs.Ytehemoachikpgaa
open Go Go.PS
/-- Counts that are 0 or 1. -/
def bl (p : Nat → Bool) : List PV := (List.range 9).map fun o => .int .i64 (if p o = true then 1 else 0)
theorem bl_len (p : Nat → Bool) : (bl p).length = 9 := by unfold bl; simp
theorem bl_get (p : Nat → Bool) (j : Nat) (h : j < 9) : (bl p)[j]? = some (.int .i64 (if p j = true then 1 else 0)) := by
  unfold bl; rw [List.getElem?_map, List.getElem?_range h]; rfl
theorem bl_ext {p q : Nat → Bool} (h : ∀ o, q o = p o) : bl q = bl p := by rw [show q = p from funext h]
theorem bl_set {p q : Nat → Bool} {j : Nat} (h : ∀ o, q o = (p o || decide (o = j))) : (bl p).set j (.int .i64 1) = bl q := by
  apply List.ext_getElem?
  intro i
  rw [List.getElem?_set]
  by_cases c : j = i
  · subst c
    rw [if_pos rfl, bl_len]
    by_cases hj : j < 9
    · rw [if_pos hj, bl_get _ _ hj, h, decide_eq_true rfl, Bool.or_true, if_pos rfl]
    · rw [if_neg hj, List.getElem?_eq_none (by rw [bl_len]; omega)]
  · rw [if_neg c]
    by_cases hi : i < 9
    · rw [bl_get _ _ hi, bl_get _ _ hi, h, decide_eq_false (fun e => c e.symm), Bool.or_false]
    · rw [List.getElem?_eq_none (by rw [bl_len]; omega), List.getElem?_eq_none (by rw [bl_len]; omega)]
theorem bl_nil {p : Nat → Bool} (h : ∀ o, p o = false) : bl p = [.int .i64 0, .int .i64 0, .int .i64 0, .int .i64 0, .int .i64 0, .int .i64 0, .int .i64 0, .int .i64 0, .int .i64 0] := by
  rw [show p = fun _ => false from funext h]; rfl
/-- What is due at an offset. -/
def dD (a : Int) (N : Nat) (x : Int) : Int × Int := if x - a < 0 then (0, 0) else if (N : Int) < (x - a) / 2 + 1 then (0, 0) else (1 + (x - a) % 2, (x - a) / 2 + 1)
def lD (a : Int) (N k : Nat) : Int × Int := if k = 0 then (0, 0) else dD a N ((k : Int) - 1)
def pP (a : Int) (N k o : Nat) : Bool := decide (1 ≤ o ∧ o ≤ N ∧ a + 2 * ((o : Int) - 1) < (k : Int))
def pC (a : Int) (N k o : Nat) : Bool := decide (1 ≤ o ∧ o ≤ N ∧ a + 2 * ((o : Int) - 1) + 1 < (k : Int))
theorem lD_succ (a : Int) (N k : Nat) : lD a N (k + 1) = dD a N k := by
  unfold lD
  rw [if_neg (by omega), show ((k + 1 : Nat) : Int) - 1 = (k : Int) by omega]
theorem duty_cases (a : Int) (N k : Nat) (ha : 0 ≤ a) :
    (dD a N k = (0, 0) ∧ (∀ o, pP a N (k + 1) o = pP a N k o) ∧ (∀ o, pC a N (k + 1) o = pC a N k o)) ∨
    (∃ j : Nat, 1 ≤ j ∧ j ≤ N ∧ a + 2 * ((j : Int) - 1) = (k : Int) ∧ dD a N k = (1, (j : Int)) ∧ (∀ o, pP a N (k + 1) o = (pP a N k o || decide (o = j))) ∧ pP a N k j = false ∧ (∀ o, pC a N (k + 1) o = pC a N k o)) ∨
    (∃ j : Nat, 1 ≤ j ∧ j ≤ N ∧ a + 2 * ((j : Int) - 1) + 1 = (k : Int) ∧ dD a N k = (2, (j : Int)) ∧ lD a N k = (1, (j : Int)) ∧ (∀ o, pP a N (k + 1) o = pP a N k o) ∧ pC a N k j = false ∧ (∀ o, pC a N (k + 1) o = (pC a N k o || decide (o = j)))) := by
  have eqb : ∀ {p q : Prop} [Decidable p] [Decidable q], (p ↔ q) → decide p = decide q := fun h => decide_eq_decide.2 h
  by_cases c1 : (k : Int) - a < 0
  · left
    refine ⟨by unfold dD; rw [if_pos c1], fun o => eqb (by omega), fun o => eqb (by omega)⟩
  · by_cases c2 : (N : Int) < ((k : Int) - a) / 2 + 1
    · left
      refine ⟨by unfold dD; rw [if_neg c1, if_pos c2], fun o => eqb (by omega), fun o => eqb (by omega)⟩
    · right
      obtain ⟨j, hj⟩ : ∃ j : Nat, (j : Int) = ((k : Int) - a) / 2 + 1 := ⟨(((k : Int) - a) / 2 + 1).toNat, by omega⟩
      have hd : dD a N k = (1 + ((k : Int) - a) % 2, (j : Int)) := by unfold dD; rw [if_neg c1, if_neg c2, hj]
      have orb : ∀ {p q r : Prop} [Decidable p] [Decidable q] [Decidable r], (p ↔ q ∨ r) → decide p = (decide q || decide r) := fun h => by
        rw [Bool.eq_iff_iff, Bool.or_eq_true, decide_eq_true_iff, decide_eq_true_iff, decide_eq_true_iff]; exact h
      by_cases c3 : ((k : Int) - a) % 2 = 0
      · left
        refine ⟨j, by omega, by omega, by omega, by rw [hd, c3]; rfl, fun o => orb (by omega), decide_eq_false (by omega), fun o => eqb (by omega)⟩
      · right
        have c3 : ((k : Int) - a) % 2 = 1 := by omega
        refine ⟨j, by omega, by omega, by omega, by rw [hd, c3]; rfl, ?_, fun o => eqb (by omega), decide_eq_false (by omega), fun o => orb (by omega)⟩
        unfold lD dD
        rw [if_neg (by omega), if_neg (by omega), if_neg (by omega)]
        rw [show ((k : Int) - 1 - a) % 2 = 0 by omega, show ((k : Int) - 1 - a) / 2 + 1 = (j : Int) by omega]
        rfl
def pO (t : Tab) (k o : Nat) : Bool := decide (1 ≤ o ∧ o ≤ t.C.length ∧ (winF t.W o).a < (k : Int))
theorem opens_cases (t : Tab) (g : Good t) (k : Nat) :
    (findO t (fun s => s.a == (k : Int)) = 0 ∧ ∀ o, pO t (k + 1) o = pO t k o) ∨
    (∃ j : Nat, 1 ≤ j ∧ j ≤ t.C.length ∧ findO t (fun s => s.a == (k : Int)) = (j : Int) ∧ findO t (inS (k : Int)) = (j : Int) ∧ pO t k j = false ∧ ∀ o, pO t (k + 1) o = (pO t k o || decide (o = j))) := by
  cases h : (List.range t.C.length).find? (fun i => (winF t.W (i + 1)).a == (k : Int)) with
  | none =>
    left
    refine ⟨by unfold findO; simp only [h], fun o => decide_eq_decide.2 ?_⟩
    constructor
    · rintro ⟨h1, h2, h3⟩
      refine ⟨h1, h2, ?_⟩
      have := List.find?_eq_none.1 h (o - 1) (List.mem_range.2 (by omega))
      rw [show o - 1 + 1 = o by omega] at this
      simp only [beq_iff_eq] at this
      omega
    · rintro ⟨h1, h2, h3⟩; exact ⟨h1, h2, by omega⟩
  | some i =>
    right
    obtain ⟨h1, h2⟩ := find_lt h
    simp only [beq_iff_eq] at h2
    obtain ⟨w, hw, w1, w2, _⟩ := win_good g (i + 1) (by omega)
    have okw := g.wok w hw
    unfold okW at okw; simp only [decide_eq_true_eq] at okw
    have ha : w.a = (k : Int) := by rw [w2] at h2; exact h2
    refine ⟨i + 1, by omega, by omega, by unfold findO; simp only [h]; omega, ?_, decide_eq_false (by omega), fun o => ?_⟩
    · unfold findO
      cases h' : (List.range t.C.length).find? (fun i => inS (k : Int) (winF t.W (i + 1))) with
      | none =>
        exfalso
        have := List.find?_eq_none.1 h' i (List.mem_range.2 h1)
        rw [w2] at this
        refine this ?_
        unfold inS wsp Sp.is
        simp only [Bool.and_eq_true, decide_eq_true_eq]
        omega
      | some i' =>
        obtain ⟨h1', h2'⟩ := find_lt h'
        obtain ⟨v, hv, v1, v2, _⟩ := win_good g (i' + 1) (by omega)
        rw [v2] at h2'
        unfold inS wsp at h2'
        simp only [Bool.and_eq_true, decide_eq_true_eq] at h2'
        have := wins_off g hv hw (by omega)
        simp only
        rw [this, w1] at v1
        omega
    · unfold pO
      rw [Bool.eq_iff_iff, Bool.or_eq_true, decide_eq_true_iff, decide_eq_true_iff, decide_eq_true_iff]
      constructor
      · rintro ⟨o1, o2, o3⟩
        by_cases c : (winF t.W o).a < (k : Int)
        · exact .inl ⟨o1, o2, c⟩
        · right
          obtain ⟨v, hv, v1, v2, _⟩ := win_good g o o2
          have okv := g.wok v hv
          unfold okW at okv; simp only [decide_eq_true_eq] at okv
          have hva : v.a = (k : Int) := by
            rw [v2] at c o3
            unfold wsp at c o3; simp only at c o3; omega
          have := wins_off g hv hw (by omega)
          rw [this, w1] at v1
          omega
      · rintro (⟨o1, o2, o3⟩ | e)
        · exact ⟨o1, o2, by omega⟩
        · subst e
          exact ⟨by omega, by omega, by omega⟩
theorem io_long {t : Tab} (g : Good t) : (winF t.W 0).a + 2 * (t.C.length : Int) ≤ (winF t.W 0).b := by
  obtain ⟨w, hw, w1, w2, _⟩ := win_good g 0 (by omega)
  have ok := g.wok w hw
  rw [w2]
  unfold wsp; simp only
  have key : ∀ l : List R3, ioW t 0 l = false → (∀ x ∈ l, x.o = 0 → x = w) → w ∈ l → w.a + 2 * (t.C.length : Int) ≤ w.b := by
    intro l
    induction l with
    | nil => intro _ _ h; simp at h
    | cons x l ih =>
      intro h1 h2 h3
      rw [ioW, if_pos rfl] at h1
      by_cases c : x.o = 0
      · rw [if_pos c, h2 x (by simp) c, ok, Bool.true_and] at h1
        have := of_decide_eq_false h1
        omega
      · rw [if_neg c] at h1
        refine ih h1 (fun y hy => h2 y (List.mem_cons_of_mem _ hy)) ?_
        rcases List.mem_cons.1 h3 with e | e
        · subst e; exact absurd w1 c
        · exact e
  exact key t.W g.io (fun x hx e => wins_uniq g.wpair hx hw (by rw [e, w1]; rfl)) hw
end Go.Proofs.Ytehemoachikpgaa
end

section
namespace Go.Proofs.Ytehemoachikpgaa
open Go Go.PS
def R3.nums (w : R3) : List F2 := [⟨w.o, 1⟩, ⟨w.a, 2⟩, ⟨w.b, 2⟩]
def Cl.nums (c : Cl) : List F2 := [⟨c.base, 2⟩, ⟨c.size, 2⟩, ⟨c.q, 1⟩, ⟨c.at_, 2⟩, ⟨c.n, 1⟩, ⟨c.pr, 1⟩, ⟨c.id, 1⟩, ⟨c.irq, 1⟩, ⟨c.hb, 2⟩, ⟨c.hn, 1⟩]
def headN (t : Tab) : List F2 := [⟨67, 1⟩, ⟨1, 1⟩, ⟨t.f, 2⟩, ⟨t.W.length, 1⟩]
def nums (t : Tab) : List F2 := headN t ++ t.W.flatMap R3.nums ++ [⟨t.S.length, 1⟩] ++ t.S.flatMap R3.nums ++ [⟨t.C.length, 1⟩] ++ t.C.flatMap Cl.nums
theorem f104 (n : Nat) (a b c : Int) (hp : Heap) : evalCall Try.prog hints (n + 1) 104 [.int .i64 a, .int .i64 b, .int .i64 c] hp = some (.sl (.mu 2) 3 ((R3.nums ⟨a, b, c⟩).flatMap F2.cells), hp, false) := by
  rw [evalCall_at _ _ _ hh104 rfl Try.func104 rfl (Nat.le_of_ble_eq_true rfl) rfl]
  simp [R3.nums, F2.cells]
theorem flat_snoc {α β : Type} (f : α → List β) (l : List α) (k : Nat) (h : k < l.length) : (l.take (k + 1)).flatMap f = (l.take k).flatMap f ++ f l[k] := by
  rw [List.take_succ_eq_append_getElem h, List.flatMap_append]; simp
theorem R3.numsLen (c : R3) : (R3.nums c).length = 3 := rfl
theorem Cl.numsLen (c : Cl) : (Cl.nums c).length = 10 := rfl
theorem nlen {α : Type} {f : α → List F2} {k : Nat} (hk : ∀ x, (f x).length = k) : ∀ l : List α, (l.flatMap f).length = l.length * k
  | [] => by simp
  | a :: l => by rw [List.flatMap_cons, List.length_append, hk, nlen hk l, List.length_cons]; rw [Nat.succ_mul]; omega
theorem bigW {a c : Nat} (ha : a ≤ 20000) (hc : c ≤ 10) : (a + c) * 16 ≤ 140737488355328 := by omega
set_option maxHeartbeats 4000000 in
theorem f77 (n : Nat) (t : Tab) (hp : Heap) (hW : t.W.length ≤ 1000) (hS : t.S.length ≤ 1000) (hC : t.C.length ≤ 1000) (hn : 2000 < n) :
    evalCall Try.prog hints (n + 2) 77 [.agg t.cells] hp = some (.sl (.mu 2) (nums t).length ((nums t).flatMap F2.cells), hp, false) := by
  have e95 := fun a b c => f104 n a b c hp
  rw [evalCall_at _ _ _ hh77 rfl Try.func77 rfl (Nat.le_of_ble_eq_true rfl) rfl]
  have lW := flat_len R3.len t.W
  have lS := flat_len R3.len t.S
  have lC := flat_len Cl.len t.C
  have w0 := fun k h => flat_get R3.len t.W k h 0 (by omega)
  have w1 := fun k h => flat_get R3.len t.W k h 1 (by omega)
  have w2 := fun k h => flat_get R3.len t.W k h 2 (by omega)
  have s0 := fun k h => flat_get R3.len t.S k h 0 (by omega)
  have s1 := fun k h => flat_get R3.len t.S k h 1 (by omega)
  have s2 := fun k h => flat_get R3.len t.S k h 2 (by omega)
  have rC := fun k h => flat_row Cl.len t.C k h
  have hR : nums t = headN t ++ t.W.flatMap R3.nums ++ [⟨t.S.length, 1⟩] ++ t.S.flatMap R3.nums ++ [⟨t.C.length, 1⟩] ++ t.C.flatMap Cl.nums := rfl
  generalize nums t = R at *
  simp only [Tab.cells]
  generalize t.S.flatMap R3.cells = Y at *
  generalize t.W.flatMap R3.cells = X at *
  generalize t.C.flatMap Cl.cells = Z at *
  obtain ⟨A, hA⟩ : ∃ A, A = headN t := ⟨_, rfl⟩
  have lA : A.length = 4 := by rw [hA]; rfl
  rw [← hA] at hR
  generalize hRf : R.flatMap F2.cells = RF
  simp
  rw [iter_count (fun k => { fr := [(1, .box [.int .i64 t.f, .sl .sh t.W.length X, .sl .sh t.S.length Y, .sl .sh t.C.length Z]), (3, .sl (.mu 2) (A ++ (t.W.take k).flatMap R3.nums).length ((A ++ (t.W.take k).flatMap R3.nums).flatMap F2.cells)), (4, .int .i64 k)], hp := hp, base := hp.length, dirty := false })
    (.exit 0, { fr := [(1, .box [.int .i64 t.f, .sl .sh t.W.length X, .sl .sh t.S.length Y, .sl .sh t.C.length Z]), (3, .sl (.mu 2) (A ++ t.W.flatMap R3.nums).length ((A ++ t.W.flatMap R3.nums).flatMap F2.cells)), (4, .int .i64 t.W.length), (22, .bool false)], hp := hp, base := hp.length, dirty := false }) t.W.length]
  rotate_left
  · rw [hA]; simp [headN, F2.cells]
  · omega
  · intro k hk
    have w0 := w0 k hk
    have w1 := w1 k hk
    have w2 := w2 k hk
    have z : k * 3 + 3 ≤ t.W.length * 3 := by omega
    have hT : (t.W.take k).length = k := by rw [List.length_take]; omega
    have lD := nlen R3.numsLen (t.W.take k)
    rw [flat_snoc _ _ _ hk]
    obtain ⟨D, hD⟩ : ∃ D, D = A ++ (t.W.take k).flatMap R3.nums := ⟨_, rfl⟩
    have lD2 : D.length = A.length + k * 3 := by rw [hD, List.length_append]; omega
    rw [← List.append_assoc, ← hD]
    have lDf := flat_len F2.len D
    have wk := wrap_id (x := (k : Int) + 1) (by omega)
    have m := bigW (a := D.length) (c := 3) (by omega) (by omega)
    have a3 : D.length * 2 + 6 = (D.length + 3) * 2 := by omega
    generalize t.W[k] = x at *
    obtain ⟨o, a, b⟩ := x
    have e := e95 o a b
    have eV : (R3.nums ⟨o, a, b⟩).flatMap F2.cells = [.int .i64 o, .int .i64 1, .int .i64 a, .int .i64 2, .int .i64 b, .int .i64 2] := rfl
    rw [List.flatMap_append, List.length_append, R3.numsLen, eV]
    rw [eV] at e
    clear hD eV
    generalize D.flatMap F2.cells = Q at *
    generalize D.length = d at *
    simp only [R3.cells, Nat.add_zero, List.getElem?_cons_zero, List.getElem?_cons_succ] at *
    simp [-getElem?_pos, List.getElem?_cons_zero, hk, lW, w0, w1, w2, z, e, wk, m, lDf, a3]
  · simp
  · simp
  have l2 := nlen R3.numsLen t.W
  obtain ⟨B, hB⟩ : ∃ B, B = A ++ t.W.flatMap R3.nums := ⟨_, rfl⟩
  have lB : B.length = A.length + t.W.length * 3 := by rw [hB, List.length_append]; omega
  rw [← hB]
  have lBf := flat_len F2.len B
  obtain ⟨B', hB'⟩ : ∃ D : List F2, D = B ++ [⟨t.S.length, 1⟩] := ⟨_, rfl⟩
  have lB' : B'.length = B.length + 1 := by rw [hB']; simp
  have fB' : B'.flatMap F2.cells = B.flatMap F2.cells ++ [.int .i64 t.S.length, .int .i64 1] := by rw [hB', List.flatMap_append]; rfl
  have m := bigW (a := B.length) (c := 1) (by omega) (by omega)
  have a3 : B.length * 2 + 2 = (B.length + 1) * 2 := by omega
  have hB'2 : B' = A ++ t.W.flatMap R3.nums ++ [⟨t.S.length, 1⟩] := by rw [hB', hB]
  clear hB hB'
  generalize B.flatMap F2.cells = Q at *
  simp [lBf, m, a3]
  rw [← lB', ← fB']
  rw [iter_count (fun k => { fr := [(1, .box [.int .i64 t.f, .sl .sh t.W.length X, .sl .sh t.S.length Y, .sl .sh t.C.length Z]), (3, .sl (.mu 2) (B' ++ (t.S.take k).flatMap R3.nums).length ((B' ++ (t.S.take k).flatMap R3.nums).flatMap F2.cells)), (5, .int .i64 k)], hp := hp, base := hp.length, dirty := false })
    (.exit 2, { fr := [(1, .box [.int .i64 t.f, .sl .sh t.W.length X, .sl .sh t.S.length Y, .sl .sh t.C.length Z]), (3, .sl (.mu 2) (B' ++ t.S.flatMap R3.nums).length ((B' ++ t.S.flatMap R3.nums).flatMap F2.cells)), (5, .int .i64 t.S.length), (57, .bool false)], hp := hp, base := hp.length, dirty := false }) t.S.length]
  rotate_left
  · simp
  · omega
  · intro k hk
    have w0 := s0 k hk
    have w1 := s1 k hk
    have w2 := s2 k hk
    have z : k * 3 + 3 ≤ t.S.length * 3 := by omega
    have hT : (t.S.take k).length = k := by rw [List.length_take]; omega
    have lD := nlen R3.numsLen (t.S.take k)
    rw [flat_snoc _ _ _ hk]
    obtain ⟨D, hD⟩ : ∃ D, D = B' ++ (t.S.take k).flatMap R3.nums := ⟨_, rfl⟩
    have lD2 : D.length = B'.length + k * 3 := by rw [hD, List.length_append]; omega
    rw [← List.append_assoc, ← hD]
    have lDf := flat_len F2.len D
    have wk := wrap_id (x := (k : Int) + 1) (by omega)
    have m := bigW (a := D.length) (c := 3) (by omega) (by omega)
    have a3 : D.length * 2 + 6 = (D.length + 3) * 2 := by omega
    generalize t.S[k] = x at *
    obtain ⟨o, a, b⟩ := x
    have e := e95 o a b
    have eV : (R3.nums ⟨o, a, b⟩).flatMap F2.cells = [.int .i64 o, .int .i64 1, .int .i64 a, .int .i64 2, .int .i64 b, .int .i64 2] := rfl
    rw [List.flatMap_append, List.length_append, R3.numsLen, eV]
    rw [eV] at e
    clear hD eV
    generalize D.flatMap F2.cells = Q at *
    generalize D.length = d at *
    simp only [R3.cells, Nat.add_zero, List.getElem?_cons_zero, List.getElem?_cons_succ] at *
    simp [-getElem?_pos, List.getElem?_cons_zero, hk, lS, w0, w1, w2, z, e, wk, m, lDf, a3]
  · simp
  · simp
  rw [← hB'2] at hR
  clear hB'2 fB' lBf m a3
  have l2 := nlen R3.numsLen t.S
  obtain ⟨B, hB2⟩ : ∃ B, B = B' ++ t.S.flatMap R3.nums := ⟨_, rfl⟩
  have lB2 : B.length = B'.length + t.S.length * 3 := by rw [hB2, List.length_append]; omega
  rw [← hB2]
  have lBg := flat_len F2.len B
  obtain ⟨C', hC'⟩ : ∃ D : List F2, D = B ++ [⟨t.C.length, 1⟩] := ⟨_, rfl⟩
  have lC' : C'.length = B.length + 1 := by rw [hC']; simp
  have fC' : C'.flatMap F2.cells = B.flatMap F2.cells ++ [.int .i64 t.C.length, .int .i64 1] := by rw [hC', List.flatMap_append]; rfl
  have m := bigW (a := B.length) (c := 1) (by omega) (by omega)
  have a3 : B.length * 2 + 2 = (B.length + 1) * 2 := by omega
  have hC'2 : C' = B' ++ t.S.flatMap R3.nums ++ [⟨t.C.length, 1⟩] := by rw [hC', hB2]
  clear hB2 hC'
  generalize B.flatMap F2.cells = Q at *
  simp [lBg, m, a3]
  rw [← lC', ← fC']
  rw [iter_count (fun k => { fr := [(1, .box [.int .i64 t.f, .sl .sh t.W.length X, .sl .sh t.S.length Y, .sl .sh t.C.length Z]), (3, .sl (.mu 2) (C' ++ (t.C.take k).flatMap Cl.nums).length ((C' ++ (t.C.take k).flatMap Cl.nums).flatMap F2.cells)), (6, .int .i64 k)], hp := hp, base := hp.length, dirty := false })
    (.exit 4, { fr := [(1, .box [.int .i64 t.f, .sl .sh t.W.length X, .sl .sh t.S.length Y, .sl .sh t.C.length Z]), (3, .sl (.mu 2) (C' ++ t.C.flatMap Cl.nums).length ((C' ++ t.C.flatMap Cl.nums).flatMap F2.cells)), (6, .int .i64 t.C.length), (92, .bool false)], hp := hp, base := hp.length, dirty := false }) t.C.length]
  rotate_left
  · simp
  · omega
  · intro k hk
    have rC := rC k hk
    have z : k * 10 + 10 ≤ t.C.length * 10 := by omega
    have hT : (t.C.take k).length = k := by rw [List.length_take]; omega
    have lD := nlen Cl.numsLen (t.C.take k)
    rw [flat_snoc _ _ _ hk]
    obtain ⟨D, hD⟩ : ∃ D, D = C' ++ (t.C.take k).flatMap Cl.nums := ⟨_, rfl⟩
    have lD2 : D.length = C'.length + k * 10 := by rw [hD, List.length_append]; omega
    rw [← List.append_assoc, ← hD]
    have lDf := flat_len F2.len D
    have wk := wrap_id (x := (k : Int) + 1) (by omega)
    have m := bigW (a := D.length) (c := 10) (by omega) (by omega)
    have a3 : D.length * 2 + 20 = (D.length + 10) * 2 := by omega
    generalize t.C[k] = x at *
    obtain ⟨base, size, q, at_, nn, pr, id, irq, hb, hn⟩ := x
    have eV : (Cl.nums ⟨base, size, q, at_, nn, pr, id, irq, hb, hn⟩).flatMap F2.cells = [.int .i64 base, .int .i64 2, .int .i64 size, .int .i64 2, .int .i64 q, .int .i64 1, .int .i64 at_, .int .i64 2, .int .i64 nn, .int .i64 1, .int .i64 pr, .int .i64 1, .int .i64 id, .int .i64 1, .int .i64 irq, .int .i64 1, .int .i64 hb, .int .i64 2, .int .i64 hn, .int .i64 1] := rfl
    rw [List.flatMap_append, List.length_append, Cl.numsLen, eV]
    clear hD eV
    generalize D.flatMap F2.cells = Q at *
    generalize D.length = d at *
    simp only [Cl.cells] at *
    simp [hk, lC, rC, z, wk, m, lDf, a3]
  · simp
  · simp
  rw [← hC'2] at hR
  rw [← hR, hRf]
  simp
end Go.Proofs.Ytehemoachikpgaa
end

section
namespace Go.Proofs.Ytehemoachikpgaa
open Go Go.PS
theorem stood120 : Try.prog.stoodInHeld 120 = false := by kernel_rfl
@[simp] theorem guard120 : Try.prog.eqGuardType Try.prog.depth 120 = false := by kernel_rfl
theorem eqF (x y : F2) : eqT Try.prog 20 120 x.cells y.cells = some (decide (x = y)) := by
  obtain ⟨x1, x2⟩ := x
  obtain ⟨y1, y2⟩ := y
  show eqT Try.prog (18 + 1 + 1) 120 _ _ = _
  unfold eqT
  rw [Try.underlying120]
  simp only [stood120, F2.cells]
  simp [eqi3, andL]
  rw [Bool.eq_iff_iff]
  simp
theorem flat_plain {α : Type} {f : α → List PV} (h : ∀ x, (f x).all plain1 = true) (l : List α) : (l.flatMap f).all plain1 = true := by
  rw [List.all_eq_true]
  intro x hx
  obtain ⟨a, _, h2⟩ := List.mem_flatMap.1 hx
  exact List.all_eq_true.1 (h a) x h2
def same (t u : Tab) : Bool := decide (nums t = nums u ∧ t.W.length = u.W.length ∧ t.S.length = u.S.length)
set_option maxHeartbeats 1000000 in
theorem f52 (n : Nat) (t u : Tab) (hp : Heap) (h1 : t.W.length ≤ 1000 ∧ t.S.length ≤ 1000 ∧ t.C.length ≤ 1000) (h2 : u.W.length ≤ 1000 ∧ u.S.length ≤ 1000 ∧ u.C.length ≤ 1000) (hn : 20000 < n) :
    evalCall Try.prog hints (n + 3) 52 [.agg t.cells, .agg u.cells] hp = some (.bool (same t u), hp, false) := by
  have e1 := f77 n t hp h1.1 h1.2.1 h1.2.2 (by omega)
  have e2 := f77 n u hp h2.1 h2.2.1 h2.2.2 (by omega)
  rw [evalCall_at _ _ _ hh52 rfl Try.func52 rfl (Nat.le_of_ble_eq_true rfl) rfl]
  unfold same
  have lt : (nums t).length ≤ 20000 := by
    have a1 := nlen R3.numsLen t.W
    have a2 := nlen R3.numsLen t.S
    have a3 := nlen Cl.numsLen t.C
    unfold nums headN
    simp only [List.length_append, List.length_cons, List.length_nil]; omega
  have fT := flat_len F2.len (nums t)
  have fU := flat_len F2.len (nums u)
  have pT := flat_plain (fun x : F2 => (rfl : x.cells.all plain1 = true)) (nums t)
  have pU := flat_plain (fun x : F2 => (rfl : x.cells.all plain1 = true)) (nums u)
  have rT := fun k h => flat_row F2.len (nums t) k h
  have rU := fun k h => flat_row F2.len (nums u) k h
  simp only [Tab.cells] at e1 e2 ⊢
  generalize nums t = T at *
  generalize nums u = U at *
  generalize t.S.flatMap R3.cells = Y at *
  generalize t.W.flatMap R3.cells = X at *
  generalize t.C.flatMap Cl.cells = Z at *
  generalize u.S.flatMap R3.cells = Y' at *
  generalize u.W.flatMap R3.cells = X' at *
  generalize u.C.flatMap Cl.cells = Z' at *
  generalize T.flatMap F2.cells = Q at *
  generalize U.flatMap F2.cells = Q' at *
  have hh : ∀ a b : Nat, a ≠ b → ((a : Int) != b) = true := fun a b h => by
    have : (a : Int) ≠ b := by omega
    simp [this]
  obtain ⟨a, ha⟩ : ∃ a, a = T.length := ⟨_, rfl⟩
  obtain ⟨b, hb⟩ : ∃ b, b = U.length := ⟨_, rfl⟩
  have hTU : T = U → a = b := fun h => by rw [ha, hb, h]
  rw [← ha] at e1 fT lt
  rw [← hb] at e2 fU
  generalize t.W.length = wT at *
  generalize u.W.length = wU at *
  generalize t.S.length = sT at *
  generalize u.S.length = sU at *
  by_cases c1 : a = b
  · subst c1
    by_cases c2 : wT = wU
    · subst c2
      by_cases c3 : sT = sU
      · subst c3
        have hB : decide (T = U ∧ wT = wT ∧ sT = sT) = !(List.range a).any (fun k => !decide (T[k]? = U[k]?)) := by
          rw [Bool.eq_iff_iff]
          simp only [decide_eq_true_eq, Bool.not_eq_true', List.any_eq_false, List.mem_range, Bool.not_eq_true', decide_eq_false_iff_not, Decidable.not_not]
          constructor
          · rintro ⟨rfl, -⟩ k _; rfl
          · intro h
            refine ⟨List.ext_getElem? fun k => ?_, trivial, trivial⟩
            by_cases hk : k < a
            · exact h k hk
            · rw [List.getElem?_eq_none (by omega), List.getElem?_eq_none (by omega)]
        rw [hB]
        generalize hC : (List.range a).any _ = B
        clear hB
        simp [-List.all_eq_true, pT, pU, e1, e2]
        rw [iter_find' (fun k => { fr := [(5, .sl (.mu 2) a Q), (6, .sl (.mu 2) a Q'), (7, .int .i64 k)], hp := hp, base := hp.length, dirty := false }) (fun k => !decide (T[k]? = U[k]?)) (.ret, { fr := [(4, .bool false)], hp := hp, base := hp.length, dirty := false }) (.exit 0, { fr := [(5, .sl (.mu 2) a Q), (6, .sl (.mu 2) a Q'), (7, .int .i64 a), (38, .bool false)], hp := hp, base := hp.length, dirty := false }) a]
        · rw [hC]
          cases B <;> simp
        · simp
        · omega
        · intro k hk
          have r1 := rT k (by omega)
          have r2 := rU k (by omega)
          rw [List.getElem?_eq_getElem (by omega), List.getElem?_eq_getElem (by omega)]
          have e := eqF T[k] U[k]
          generalize T[k] = x at r1 e ⊢
          generalize U[k] = y at r2 e ⊢
          have w := wrap_id (x := (k : Int) + 1) (by omega)
          have z : k * 2 + 2 ≤ a * 2 := by omega
          simp only [Option.some.injEq]
          generalize decide (x = y) = c at *
          obtain ⟨x1, x2⟩ := x
          obtain ⟨y1, y2⟩ := y
          simp only [F2.cells] at *
          cases c <;> simp [hk, fT, fU, r1, r2, e, w, z]
        · simp
        · simp
        · simp
      · simp [-List.all_eq_true, pT, pU, e1, e2, c3, hh _ _ c3]
    · simp [-List.all_eq_true, pT, pU, e1, e2, c2, hh _ _ c2]
  · have : T ≠ U := fun e => c1 (hTU e)
    simp [-List.all_eq_true, pT, pU, e1, e2, this, hh _ _ c1]
end Go.Proofs.Ytehemoachikpgaa
end

section
namespace Go.Proofs.Ytehemoachikpgaa
open Go Go.PS
def slotA (s : R3) : R3 := ⟨1, s.a, s.b⟩
/-- An owner's rows. -/
def aloneT (t : Tab) (o : Int) : Tab := ⟨t.f, [⟨0, whenO t 1 o, whenO t 1 o + 2⟩, ⟨1, (winO t o).a, (winO t o).b⟩], (t.S.filter fun s => decide (s.o = o)).map slotA, [clO t o]⟩
theorem units_alone (t u : Tab) (o : Int) (h : ∀ s ∈ t.S, okS t s = true) (hu : ∀ s ∈ t.S, okS u (slotA s) = true) : ∀ l : List R3, (∀ s ∈ l, s ∈ t.S) → units u 1 ((l.filter fun s => decide (s.o = o)).map slotA) = units t o l
  | [], _ => rfl
  | s :: l, hl => by
    have ih := units_alone t u o h hu l fun x hx => hl x (List.mem_cons_of_mem _ hx)
    have hs := hl s (by simp)
    rw [units]
    by_cases c : s.o = o
    · rw [List.filter_cons, if_pos (by simp [c]), List.map_cons, units, ih]
      congr 1
      unfold unit1
      rw [if_pos ⟨rfl, hu s hs⟩, if_pos ⟨c, h s hs⟩]
      rfl
    · rw [List.filter_cons, if_neg (by simp [c]), ih]
      unfold unit1
      rw [if_neg (fun h => c h.1)]; omega
theorem clO_at {t : Tab} {k : Nat} (hk : k < t.C.length) : clO t ((k : Int) + 1) = t.C[k] := by
  unfold clO
  rw [if_pos (show isC t ((k : Int) + 1) = true from decide_eq_true (by omega)), show ((k : Int) + 1 - 1).toNat = k by omega, List.getElem?_eq_getElem hk]; rfl
theorem winO_at {t : Tab} {k : Nat} (hk : k ≤ t.C.length) : winO t (k : Int) = winF t.W k := by
  unfold winO
  rw [if_pos (by omega)]; rfl
theorem when_one {t : Tab} {k : Nat} (hk : k < t.C.length) : whenO t 1 ((k : Int) + 1) = (winF t.W 0).a + 2 * (k : Int) := by
  unfold whenO
  rw [if_pos ⟨decide_eq_true (by omega), .inl rfl⟩]; omega
theorem alone_good {t : Tab} (g : Good t) (k : Nat) (hk : k < t.C.length) : Good (aloneT t ((k : Int) + 1)) := by
  have hf := g.frame
  unfold frameB at hf; simp only [decide_eq_true_eq] at hf
  obtain ⟨wi, hwi, i1, i2, _⟩ := win_good g 0 (by omega)
  obtain ⟨wo, hwo, o1, o2, _⟩ := win_good g (k + 1) (by omega)
  have wb := win_b g 0 (by omega)
  have wl := io_long g
  have ob := win_b g (k + 1) (by omega)
  have e1 := when_one hk
  have e2 := winO_at (t := t) (k := k + 1) (by omega)
  rw [show ((k + 1 : Nat) : Int) = (k : Int) + 1 by omega] at e2
  have e3 := clO_at hk
  have off : (winF t.W 0).b ≤ (winF t.W (k + 1)).a ∨ (winF t.W (k + 1)).b ≤ (winF t.W 0).a := by
    by_cases c : (winF t.W 0).b ≤ (winF t.W (k + 1)).a ∨ (winF t.W (k + 1)).b ≤ (winF t.W 0).a
    · exact c
    · exfalso
      rw [i2, o2] at c
      unfold wsp at c; simp only at c
      have := wins_off g hwi hwo c
      rw [this, o1] at i1
      omega
  obtain ⟨u, hu⟩ : ∃ u, u = aloneT t ((k : Int) + 1) := ⟨_, rfl⟩
  rw [← hu]
  unfold aloneT at hu
  rw [e1, e2, e3] at hu
  have uf : u.f = t.f := by rw [hu]
  have uW : u.W = [⟨0, (winF t.W 0).a + 2 * (k : Int), (winF t.W 0).a + 2 * (k : Int) + 2⟩, ⟨1, (winF t.W (k + 1)).a, (winF t.W (k + 1)).b⟩] := by rw [hu]
  have uS : u.S = (t.S.filter fun s => decide (s.o = (k : Int) + 1)).map slotA := by rw [hu]
  have uC : u.C = [t.C[k]] := by rw [hu]
  have ucl : u.C.length = 1 := by rw [uC]; rfl
  have uSl : u.S.length ≤ t.S.length := by rw [uS, List.length_map]; exact List.length_filter_le _ _
  have hso : ∀ s ∈ t.S, okS u (slotA s) = true := fun s hs => by
    have := g.sok s hs
    unfold okS at *; simp only [decide_eq_true_eq] at *
    rw [uf, ucl]; unfold slotA; simp only; omega
  refine ⟨?_, ?_, ?_, ?_, ?_, ?_, ?_, ?_, ?_, ?_⟩
  · unfold frameB
    rw [uf, ucl, uW]
    simp only [decide_eq_true_eq, List.length_cons, List.length_nil]; omega
  · intro x hx
    rw [uC, List.mem_singleton] at hx
    rw [hx]; exact g.cok _ (List.getElem_mem hk)
  · rw [uC]; exact List.pairwise_singleton _ _
  · intro w hw
    rw [uW] at hw
    unfold okW
    rw [uf, ucl]
    rcases List.mem_cons.1 hw with rfl | hw
    · simp only [decide_eq_true_eq]; omega
    · rw [List.mem_singleton] at hw
      rw [hw]
      simp only [decide_eq_true_eq]; omega
  · rw [uW, List.pairwise_cons]
    refine ⟨fun x hx => ?_, List.pairwise_singleton _ _⟩
    rw [List.mem_singleton] at hx
    rw [hx]
    unfold pairW meets holds
    simp only
    rw [Bool.eq_false_iff]
    simp only [ne_eq, Bool.or_eq_true, Bool.and_eq_true, decide_eq_true_eq]
    omega
  · intro r hr
    rw [ucl] at hr
    rw [uW, List.any_eq_true]
    by_cases c : r = 0
    · subst c
      exact ⟨_, List.mem_cons_self, by simp⟩
    · have : r = 1 := by omega
      subst this
      exact ⟨_, List.mem_cons_of_mem _ (List.mem_singleton.2 rfl), by simp⟩
  · rw [uW, ioW, if_pos rfl]
    simp only [if_true]
    rw [Bool.and_eq_false_iff]
    right
    refine decide_eq_false ?_
    rw [ucl]; omega
  · intro w hw
    rw [uS, List.mem_map] at hw
    obtain ⟨s, hs, rfl⟩ := hw
    exact hso s (List.mem_filter.1 hs).1
  · rw [uS, List.pairwise_map]
    exact (g.spair.filter _).imp fun h => h
  · intro i hi
    have hi0 : i = 0 := by omega
    subst hi0
    have q := g.quota k hk
    unfold overU at *
    have hu1 : units u (((0 : Nat) : Int) + 1) u.S = units t ((k : Int) + 1) t.S := by
      rw [uS]
      exact units_alone t u _ g.sok hso t.S fun _ h => h
    rw [hu1]
    have : u.C[0] = t.C[k] := by simp only [uC]; rfl
    rw [this]; exact q
theorem alone_again {t : Tab} (g : Good t) (k : Nat) (hk : k < t.C.length) : aloneT (aloneT t ((k : Int) + 1)) 1 = aloneT t ((k : Int) + 1) := by
  have g' := alone_good g k hk
  have ucl : (aloneT t ((k : Int) + 1)).C.length = 1 := rfl
  have h1 : isC (aloneT t ((k : Int) + 1)) 1 = true := decide_eq_true (by rw [ucl]; omega)
  have w0 : winF (aloneT t ((k : Int) + 1)).W 0 = ⟨whenO t 1 ((k : Int) + 1), whenO t 1 ((k : Int) + 1) + 2⟩ := by
    unfold aloneT winF
    simp
  have w1 : winF (aloneT t ((k : Int) + 1)).W 1 = ⟨(winO t ((k : Int) + 1)).a, (winO t ((k : Int) + 1)).b⟩ := by
    unfold aloneT winF
    simp
  have e1 : whenO (aloneT t ((k : Int) + 1)) 1 1 = whenO t 1 ((k : Int) + 1) := by
    have := when_one (t := aloneT t ((k : Int) + 1)) (k := 0) (by rw [ucl]; omega)
    rw [show ((0 : Nat) : Int) + 1 = 1 from rfl, w0] at this
    rw [this]; simp
  have e2 : winO (aloneT t ((k : Int) + 1)) 1 = ⟨(winO t ((k : Int) + 1)).a, (winO t ((k : Int) + 1)).b⟩ := by
    have := winO_at (t := aloneT t ((k : Int) + 1)) (k := 1) (by rw [ucl]; omega)
    rw [show ((1 : Nat) : Int) = 1 from rfl, w1] at this
    exact this
  have e3 : clO (aloneT t ((k : Int) + 1)) 1 = clO t ((k : Int) + 1) := by
    have := clO_at (t := aloneT t ((k : Int) + 1)) (k := 0) (by rw [ucl]; omega)
    rw [show ((0 : Nat) : Int) + 1 = 1 from rfl] at this
    rw [this]; rfl
  have e4 : ((aloneT t ((k : Int) + 1)).S.filter fun s => decide (s.o = 1)).map slotA = (aloneT t ((k : Int) + 1)).S := by
    show ((((t.S.filter fun s => decide (s.o = (k : Int) + 1)).map slotA).filter fun s => decide (s.o = 1)).map slotA) = (t.S.filter fun s => decide (s.o = (k : Int) + 1)).map slotA
    generalize (t.S.filter fun s => decide (s.o = (k : Int) + 1)) = l
    induction l with
    | nil => rfl
    | cons s l ih =>
      rw [List.map_cons, List.filter_cons, if_pos (by simp [slotA]), List.map_cons, ih]; rfl
  show (⟨(aloneT t ((k : Int) + 1)).f, [⟨0, whenO (aloneT t ((k : Int) + 1)) 1 1, whenO (aloneT t ((k : Int) + 1)) 1 1 + 2⟩, ⟨1, (winO (aloneT t ((k : Int) + 1)) 1).a, (winO (aloneT t ((k : Int) + 1)) 1).b⟩], ((aloneT t ((k : Int) + 1)).S.filter fun s => decide (s.o = 1)).map slotA, [clO (aloneT t ((k : Int) + 1)) 1]⟩ : Tab) = _
  rw [e1, e2, e3, e4]
  rfl
end Go.Proofs.Ytehemoachikpgaa
end
