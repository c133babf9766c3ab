/-
  What functions of this program compute, as equations about the evaluator. No condition but those stated.
-/
import Derived.Test.YtknoiemnpllapaaGreatEqsZB

set_option linter.all false
section
namespace Go.Proofs.YtknoiemnpllapaaGreat
open Go Go.PS
theorem f65 (n : Nat) (k f : Int) (hp : Heap) (hf : 1 ≤ f ∧ f ≤ 4096) (hk : 0 ≤ k ∧ k < 9223372036854775808) : evalCall Tryz.prog hints (n + 1) 65 [.int .i64 k, .int .i64 f] hp = some (.int .i64 (k % f), hp, false) := by
  rw [evalCall_at _ _ _ hh65 rfl Tryz.func65 rfl (Nat.le_of_ble_eq_true rfl) rfl]
  have hne : (f == 0) = false := by simp; omega
  have hne' : ¬ f = 0 := by omega
  have q1 := td (a := k) f (by omega)
  have b0 := Int.ediv_nonneg (a := k) (b := f) (by omega) (by omega)
  have b1 : k / f ≤ k := Int.ediv_le_self f (by omega)
  have b2 := Int.emod_nonneg k (show f ≠ 0 by omega)
  have b3 := Int.emod_lt_of_pos k (show 0 < f by omega)
  have b4 : k / f * f = k - k % f := by have := Int.mul_ediv_add_emod k f; rw [Int.mul_comm]; omega
  have w1 := wrap_id (x := k / f) (by omega)
  have w2 : IntKind.i64.wrap (k - k % f) = k - k % f := wrap_id (by omega)
  have w3 : IntKind.i64.wrap (k - (k - k % f)) = k % f := by rw [show k - (k - k % f) = k % f by omega]; exact wrap_id (by omega)
  simp [hne, hne', q1, w1, b4, w2, w3]
/-- The owner of the first window that is somebody's and of which something is so. -/
def runR (l : List R3) (q : Sp → Bool) : Int := match idx (fun w : R3 => decide (0 < w.o) && q (wsp w)) l with
  | some k => ((l[k]?).getD ⟨0, 0, 0⟩).o
  | none => 0
theorem findO_eq {t : Tab} (g : Good t) (q : Sp → Bool) (hu : ∀ x ∈ t.W, ∀ y ∈ t.W, q (wsp x) = true → q (wsp y) = true → x = y) : findO t q = runR t.W q := by
  unfold findO runR
  cases hi : (List.range t.C.length).find? (fun i => q (winF t.W (i + 1))) with
  | none =>
    cases hx : idx (fun w : R3 => decide (0 < w.o) && q (wsp w)) t.W with
    | none => rfl
    | some k =>
      exfalso
      obtain ⟨hk, e⟩ := idx_lt hx
      rw [Bool.and_eq_true] at e
      have e1 := of_decide_eq_true e.1
      have ok := g.wok t.W[k] (List.getElem_mem hk)
      unfold okW at ok; simp only [decide_eq_true_eq] at ok
      obtain ⟨i, hi'⟩ : ∃ i : Nat, t.W[k].o = ((i + 1 : Nat) : Int) := ⟨(t.W[k].o - 1).toNat, by omega⟩
      have := List.find?_eq_none.1 hi i (List.mem_range.2 (by omega))
      obtain ⟨w, hw, h1, h2, _⟩ := win_good g (i + 1) (by omega)
      rw [h2, wins_uniq g.wpair hw (List.getElem_mem hk) (by rw [h1, hi'])] at this
      exact this e.2
  | some i =>
    obtain ⟨h1, h2⟩ := find_lt hi
    obtain ⟨w, hw, w1, w2, _⟩ := win_good g (i + 1) (by omega)
    rw [w2] at h2
    cases hx : idx (fun w : R3 => decide (0 < w.o) && q (wsp w)) t.W with
    | none =>
      exfalso
      have := idx_none.1 hx
      rw [List.any_eq_false] at this
      exact this w hw (by rw [h2, Bool.and_true]; exact decide_eq_true (by omega))
    | some k =>
      obtain ⟨hk, e⟩ := idx_lt hx
      rw [Bool.and_eq_true] at e
      have := hu _ (List.getElem_mem hk) w hw e.2 h2
      simp only [List.getElem?_eq_getElem hk, Option.getD_some]
      rw [this, w1]; omega
theorem wins_off {t : Tab} (g : Good t) {x y : R3} (hx : x ∈ t.W) (hy : y ∈ t.W) (h : ¬ (x.b ≤ y.a ∨ y.b ≤ x.a)) : x = y := by
  obtain ⟨i, hi, rfl⟩ := List.getElem_of_mem hx
  obtain ⟨j, hj, rfl⟩ := List.getElem_of_mem hy
  have oi := g.wok _ hx
  have oj := g.wok _ hy
  unfold okW at oi oj; simp only [decide_eq_true_eq] at oi oj
  have p := List.pairwise_iff_getElem.1 g.wpair
  have key : ∀ i j (hi : i < t.W.length) (hj : j < t.W.length), i < j → 0 ≤ t.W[i].a → 0 ≤ t.W[j].a → t.W[i].a < t.W[i].b → t.W[j].a < t.W[j].b → t.W[i].b ≤ t.W[j].a ∨ t.W[j].b ≤ t.W[i].a := fun i j hi hj hij h1 h2 h3 h4 => by
    have := p i j hi hj hij
    unfold pairW at this
    rw [Bool.or_eq_false_iff] at this
    have m := this.2
    unfold meets holds at m
    rw [Bool.eq_false_iff] at m
    simp only [ne_eq, Bool.and_eq_true, Bool.or_eq_true, decide_eq_true_eq] at m
    omega
  by_cases c : i = j
  · subst c; rfl
  · rcases Nat.lt_or_ge i j with h' | h'
    · have := key i j hi hj h' (by omega) (by omega) (by omega) (by omega); omega
    · have := key j i hj hi (by omega) (by omega) (by omega) (by omega) (by omega); omega
theorem runs_eq {t : Tab} (g : Good t) (x : Int) : findO t (inS x) = runR t.W (inS x) :=
  findO_eq g _ fun a ha b hb h1 h2 => by
    unfold inS wsp at h1 h2
    simp only [Bool.and_eq_true, decide_eq_true_eq] at h1 h2
    exact wins_off g ha hb (by omega)
set_option maxHeartbeats 2000000 in
theorem f28 (n : Nat) (t : Tab) (g : Good t) (k : Int) (hp : Heap) (hk : k < 9223372036854775808) (hn : 60 < n) : evalCall Tryz.prog hints (n + 2) 28 [.agg t.cells, .int .i64 k] hp = some (.int .i64 (if k < 0 then 0 else runR t.W (inS (k % t.f))), hp, false) := by
  have hf := g.frame
  unfold frameB at hf; simp only [decide_eq_true_eq] at hf
  have e71 := fun h => f65 n k t.f hp (by omega) ⟨h, hk⟩
  rw [evalCall_at _ _ _ hh28 rfl Tryz.func28 rfl (Nat.le_of_ble_eq_true rfl) rfl]
  have lX := flat_len R3.len t.W
  have g0 := fun k h => flat_get R3.len t.W k h 0 (by omega)
  have g1 := fun k h => flat_get R3.len t.W k h 1 (by omega)
  have g2 := fun k h => flat_get R3.len t.W k h 2 (by omega)
  simp only [Tab.cells_eq]
  generalize t.S.flatMap R3.cells = Y at *
  generalize t.C.flatMap Cl.cells = Z at *
  generalize t.W.flatMap R3.cells = X at *
  by_cases c : k < 0
  · rw [if_pos c]
    have c' : ¬ 0 ≤ k := by omega
    simp
    rw [iter_count (fun i => { fr := [(1, .int .i64 k), (2, .box [.int .i64 t.f, .sl .sh t.W.length X, .sl .sh t.S.length Y, .sl .sh t.C.length Z]), (5, .int .i64 0)], hp := hp, base := hp.length, dirty := false }) (.exit 0, { fr := [(1, .int .i64 k), (2, .box [.int .i64 t.f, .sl .sh t.W.length X, .sl .sh t.S.length Y, .sl .sh t.C.length Z]), (5, .int .i64 0), (15, .bool false)], hp := hp, base := hp.length, dirty := false }) 0]
    · simp
    · simp
    · omega
    · intro i hi; omega
    · by_cases h : 0 < t.W.length
      · simp [-getElem?_pos, List.getElem?_cons_zero, c', h]
      · simp [-getElem?_pos, List.getElem?_cons_zero, c', h]
    · simp
  · rw [if_neg c]
    have c' : 0 ≤ k := by omega
    have e71 := e71 c'
    have b2 := Int.emod_nonneg k (show t.f ≠ 0 by omega)
    have b3 := Int.emod_lt_of_pos k (show 0 < t.f by omega)
    generalize k % t.f = x at *
    unfold runR
    rw [← idx_range]
    simp
    rw [iter_idx (fun i => { fr := [(1, .int .i64 k), (2, .box [.int .i64 t.f, .sl .sh t.W.length X, .sl .sh t.S.length Y, .sl .sh t.C.length Z]), (5, .int .i64 i)], hp := hp, base := hp.length, dirty := false }) (fun i => (t.W[i]?).any fun w => decide (0 < w.o) && inS x (wsp w)) (fun i => (.ret, { fr := [(4, .int .i64 ((t.W[i]?).getD ⟨0, 0, 0⟩).o)], hp := hp, base := hp.length, dirty := false })) (.exit 0, { fr := [(1, .int .i64 k), (2, .box [.int .i64 t.f, .sl .sh t.W.length X, .sl .sh t.S.length Y, .sl .sh t.C.length Z]), (5, .int .i64 t.W.length), (15, .bool false)], hp := hp, base := hp.length, dirty := false }) t.W.length]
    · cases (List.range t.W.length).find? _ <;> simp
    · simp
    · omega
    · intro i hi
      have g0 := g0 i hi
      have g1 := g1 i hi
      have g2 := g2 i hi
      have w := wrap_id (x := (i : Int) + 1) (by omega)
      have ok := g.wok t.W[i] (List.getElem_mem hi)
      unfold okW at ok; simp only [decide_eq_true_eq] at ok
      have hin : inS x (wsp t.W[i]) = decide (t.W[i].a ≤ x ∧ x < t.W[i].b) := by
        show (decide (0 ≤ t.W[i].a ∧ t.W[i].a < t.W[i].b) && decide (t.W[i].a ≤ x ∧ x < t.W[i].b)) = _
        rw [decide_eq_true (show 0 ≤ t.W[i].a ∧ t.W[i].a < t.W[i].b by omega), Bool.true_and]
      rw [List.getElem?_eq_getElem hi]
      simp only [Option.any_some, Option.getD_some, hin]
      clear hin
      generalize t.W[i] = v at *
      obtain ⟨o, a, b⟩ := v
      simp only [R3.cells, Nat.add_zero, List.getElem?_cons_zero, List.getElem?_cons_succ] at *
      by_cases d1 : 0 < o
      · by_cases d2 : a ≤ x
        · by_cases d3 : x < b
          · rw [decide_eq_true d1, decide_eq_true (show a ≤ x ∧ x < b from ⟨d2, d3⟩)]
            simp [-getElem?_pos, List.getElem?_cons_zero, hi, c', lX, g0, g1, g2, w, e71, d1, d2, d3]
          · rw [decide_eq_false (show ¬ (a ≤ x ∧ x < b) from fun h => d3 h.2), Bool.and_false]
            simp [-getElem?_pos, List.getElem?_cons_zero, hi, c', lX, g0, g1, g2, w, e71, d1, d2, d3]
        · rw [decide_eq_false (show ¬ (a ≤ x ∧ x < b) from fun h => d2 h.1), Bool.and_false]
          simp [-getElem?_pos, List.getElem?_cons_zero, hi, c', lX, g0, g1, g2, w, e71, d1, d2]
      · rw [decide_eq_false d1, Bool.false_and]
        simp [-getElem?_pos, List.getElem?_cons_zero, hi, c', lX, g0, g1, g2, w, e71, d1]
    · simp [c']
    · simp
    · simp
end Go.Proofs.YtknoiemnpllapaaGreat
end

section
namespace Go.Proofs.YtknoiemnpllapaaGreat
open Go Go.PS
def dutyP (a x : Int) (i : Nat) : Bool := decide (a + 2 * (i : Int) = x) || decide (a + 2 * (i : Int) + 1 = x)
def dutyR (t : Tab) (x : Int) : Int × Int := match (List.range t.C.length).find? (dutyP (winF t.W 0).a x) with
  | some i => (x - ((winF t.W 0).a + 2 * (i : Int)) + 1, (i : Int) + 1)
  | none => (0, 0)
theorem duty_eq (t : Tab) (k : Int) (hk : 0 ≤ k) : dutyO t k = dutyR t (k % t.f) := by
  unfold dutyO dutyR
  rw [if_neg (by omega)]
  generalize k % t.f = x
  generalize (winF t.W 0).a = a
  cases h : (List.range t.C.length).find? (dutyP a x) with
  | some i =>
    obtain ⟨h1, h2⟩ := find_lt h
    unfold dutyP at h2
    simp only [Bool.or_eq_true, decide_eq_true_eq] at h2
    rw [if_neg (by omega), if_neg (by omega)]
    have e1 : (x - a) / 2 = (i : Int) := by omega
    have e2 : (x - a) % 2 = x - (a + 2 * (i : Int)) := by omega
    rw [e1, e2]
    simp only [Prod.mk.injEq, and_true]; omega
  | none =>
    by_cases c1 : x - a < 0
    · rw [if_pos c1]
    · rw [if_neg c1]
      by_cases c2 : (t.C.length : Int) < (x - a) / 2 + 1
      · rw [if_pos c2]
      · exfalso
        have := List.find?_eq_none.1 h ((x - a) / 2).toNat (List.mem_range.2 (by omega))
        unfold dutyP at this
        simp only [Bool.or_eq_true, decide_eq_true_eq] at this
        omega
theorem when_at (t : Tab) (w i : Nat) (hw : w < 2) (hi : i < t.C.length) : whenO t ((w : Int) + 1) ((i : Int) + 1) = (winF t.W 0).a + 2 * (i : Int) + (w : Int) := by
  unfold whenO
  rw [if_pos ⟨decide_eq_true (by omega), by omega⟩]; omega
set_option maxHeartbeats 2000000 in
theorem f27 (n : Nat) (t : Tab) (g : Good t) (k : Int) (hp : Heap) (hk : k < 9223372036854775808) (hn : 60 < n) : evalCall Tryz.prog hints (n + 3) 27 [.agg t.cells, .int .i64 k] hp = some (.tup [.int .i64 (dutyO t k).1, .int .i64 (dutyO t k).2], hp, false) := by
  have hf := g.frame
  unfold frameB at hf; simp only [decide_eq_true_eq] at hf
  have e71 := fun h => f65 (n + 1) k t.f hp (by omega) ⟨h, hk⟩
  have e38 : ∀ w i : Nat, w < 2 → i < t.C.length → evalCall Tryz.prog hints (n + 2) 66 [.agg t.cells, .int .i64 ((w : Int) + 1), .int .i64 ((i : Int) + 1)] hp = some (.int .i64 ((winF t.W 0).a + 2 * (i : Int) + (w : Int)), hp, false) := fun w i hw hi => by
    rw [← when_at t w i hw hi]
    exact f66 n t g ((w : Int) + 1) ((i : Int) + 1) hp (by omega) (by omega) hn
  rw [evalCall_at _ _ _ hh27 rfl Tryz.func27 rfl (Nat.le_of_ble_eq_true rfl) rfl]
  have hd := duty_eq t k
  by_cases c : k < 0
  · have c' : ¬ 0 ≤ k := by omega
    rw [show dutyO t k = (0, 0) by unfold dutyO; rw [if_pos c]]
    simp only [Tab.cells_eq] at *
    generalize t.S.flatMap R3.cells = Y at *
    generalize t.C.flatMap Cl.cells = Z at *
    generalize t.W.flatMap R3.cells = X at *
    simp
    rw [iter_count (fun i => { fr := [(1, .int .i64 k), (2, .box [.int .i64 t.f, .sl .sh t.W.length X, .sl .sh t.S.length Y, .sl .sh t.C.length Z]), (6, .int .i64 1)], hp := hp, base := hp.length, dirty := false }) (.exit 0, { fr := [(1, .int .i64 k), (2, .box [.int .i64 t.f, .sl .sh t.W.length X, .sl .sh t.S.length Y, .sl .sh t.C.length Z]), (6, .int .i64 1), (16, .bool false)], hp := hp, base := hp.length, dirty := false }) 0]
    · simp
    · simp
    · omega
    · intro i hi; omega
    · have h : (1 : Int) ≤ t.C.length := by omega
      have h' : 1 ≤ t.C.length := by omega
      simp [-getElem?_pos, List.getElem?_cons_zero, c', h, h']
    · simp
  · have c' : 0 ≤ k := by omega
    have e71 := e71 c'
    rw [hd c']
    unfold dutyR
    clear hd
    simp only [Tab.cells_eq] at *
    generalize t.S.flatMap R3.cells = Y at *
    generalize t.C.flatMap Cl.cells = Z at *
    generalize t.W.flatMap R3.cells = X at *
    generalize k % t.f = x at *
    generalize (winF t.W 0).a = a at *
    simp
    rw [iter_idx (fun i => { fr := [(1, .int .i64 k), (2, .box [.int .i64 t.f, .sl .sh t.W.length X, .sl .sh t.S.length Y, .sl .sh t.C.length Z]), (6, .int .i64 ((i : Int) + 1))], hp := hp, base := hp.length, dirty := false }) (dutyP a x) (fun i => (.ret, { fr := [(4, .int .i64 (x - (a + 2 * (i : Int)) + 1)), (5, .int .i64 ((i : Int) + 1))], hp := hp, base := hp.length, dirty := false })) (.exit 0, { fr := [(1, .int .i64 k), (2, .box [.int .i64 t.f, .sl .sh t.W.length X, .sl .sh t.S.length Y, .sl .sh t.C.length Z]), (6, .int .i64 ((t.C.length : Int) + 1)), (16, .bool false)], hp := hp, base := hp.length, dirty := false }) t.C.length]
    · cases (List.range t.C.length).find? _ <;> simp
    · simp
    · omega
    · intro i hi
      have c1 : (i : Int) + 1 ≤ t.C.length := by omega
      have c1' : i + 1 ≤ t.C.length := by omega
      have w := wrap_id (x := (i : Int) + 1 + 1) (by omega)
      have e0 := e38 0 i (by omega) hi
      have e1 := e38 1 i (by omega) hi
      simp [-getElem?_pos, List.getElem?_cons_zero, c1, c1', c']
      rw [iter_idx (fun w : Nat => { fr := [(1, .int .i64 k), (2, .box [.int .i64 t.f, .sl .sh t.W.length X, .sl .sh t.S.length Y, .sl .sh t.C.length Z]), (6, .int .i64 ((i : Int) + 1)), (7, .int .i64 ((w : Int) + 1))], hp := hp, base := hp.length, dirty := false }) (fun w => decide (a + 2 * (i : Int) + (w : Int) = x)) (fun w => (.ret, { fr := [(4, .int .i64 ((w : Int) + 1)), (5, .int .i64 ((i : Int) + 1))], hp := hp, base := hp.length, dirty := false })) (.exit 2, { fr := [(1, .int .i64 k), (2, .box [.int .i64 t.f, .sl .sh t.W.length X, .sl .sh t.S.length Y, .sl .sh t.C.length Z]), (6, .int .i64 ((i : Int) + 1)), (7, .int .i64 3), (20, .bool false)], hp := hp, base := hp.length, dirty := false }) 2]
      · unfold dutyP
        by_cases d1 : a + 2 * (i : Int) = x
        · rw [show (List.range 2).find? (fun w : Nat => decide (a + 2 * (i : Int) + (w : Int) = x)) = some 0 by
            rw [show List.range 2 = [0, 1] from rfl, List.find?_cons]
            rw [show decide (a + 2 * (i : Int) + ((0 : Nat) : Int) = x) = true from decide_eq_true (by omega)]]
          rw [decide_eq_true d1, Bool.true_or, show x - (a + 2 * (i : Int)) + 1 = 1 by omega]
          simp
        · by_cases d2 : a + 2 * (i : Int) + 1 = x
          · rw [show (List.range 2).find? (fun w : Nat => decide (a + 2 * (i : Int) + (w : Int) = x)) = some 1 by
              rw [show List.range 2 = [0, 1] from rfl, List.find?_cons]
              rw [show decide (a + 2 * (i : Int) + ((0 : Nat) : Int) = x) = false from decide_eq_false (by omega)]
              rw [List.find?_cons]
              rw [show decide (a + 2 * (i : Int) + ((1 : Nat) : Int) = x) = true from decide_eq_true (by omega)]]
            rw [decide_eq_true d2, Bool.or_true, show x - (a + 2 * (i : Int)) + 1 = 2 by omega]
            simp
          · rw [show (List.range 2).find? (fun w : Nat => decide (a + 2 * (i : Int) + (w : Int) = x)) = none by
              rw [show List.range 2 = [0, 1] from rfl, List.find?_cons]
              rw [show decide (a + 2 * (i : Int) + ((0 : Nat) : Int) = x) = false from decide_eq_false (by omega)]
              rw [List.find?_cons]
              rw [show decide (a + 2 * (i : Int) + ((1 : Nat) : Int) = x) = false from decide_eq_false (by omega)]
              rfl]
            rw [decide_eq_false d1, decide_eq_false d2]
            simp [w]
      · simp
      · omega
      · intro v hv
        have e := e38 v i hv hi
        have wv := wrap_id (x := (v : Int) + 1 + 1) (by omega)
        have cv : (v : Int) + 1 ≤ 2 := by omega
        have cv' : v + 1 ≤ 2 := by omega
        by_cases d : a + 2 * (i : Int) + (v : Int) = x
        · have d' : (a + 2 * (i : Int) + (v : Int) == x) = true := by simp [d]
          rw [decide_eq_true d]
          simp [-getElem?_pos, List.getElem?_cons_zero, e, e71, d', cv, cv', wv]
        · have d' : (a + 2 * (i : Int) + (v : Int) == x) = false := by simp [d]
          rw [decide_eq_false d]
          simp [-getElem?_pos, List.getElem?_cons_zero, e, e71, d', cv, cv', wv]
      · simp
      · simp
      · simp
    · have cn : ¬ ((t.C.length : Int) + 1 ≤ t.C.length) := by omega
      simp [-getElem?_pos, List.getElem?_cons_zero, cn]
    · simp
    · simp
end Go.Proofs.YtknoiemnpllapaaGreat
end

section
namespace Go.Proofs.YtknoiemnpllapaaGreat
open Go Go.PS
theorem find_ge (m : Nat) : ∀ K : Nat, (List.range K).find? (fun u : Nat => decide (m ≤ u)) = if m < K then some m else none
  | 0 => rfl
  | K + 1 => by
    rw [List.range_succ, List.find?_append, find_ge m K]
    by_cases c : m < K
    · rw [if_pos c, if_pos (by omega)]; rfl
    · rw [if_neg c]
      by_cases c' : m = K
      · subst c'
        rw [if_pos (by omega)]; simp
      · rw [if_neg (by omega)]
        have : decide (m ≤ K) = false := decide_eq_false (by omega)
        simp [this]
/-- What the bus is in a slot. -/
def slotU (w : R3) (x : Int) : R3 := if (w.b - w.a) / 4 ≤ (x - w.a) / 4 then ⟨w.o, -1, 0⟩ else ⟨w.o, (x - w.a) / 4, (x - w.a) % 4⟩
def atS (x : Int) (w : R3) : Bool := decide (w.a ≤ x ∧ x < w.b)
def busO (t : Tab) (x : Int) : R3 := match idx (atS x) t.S with
  | some i => slotU ((t.S[i]?).getD ⟨0, 0, 0⟩) x
  | none => ⟨0, -1, 0⟩
set_option maxHeartbeats 4000000 in
theorem f26 (n : Nat) (t : Tab) (g : Good t) (k : Int) (hp : Heap) (hk : k < 9223372036854775808) (hn : 1100 < n) : evalCall Tryz.prog hints (n + 2) 26 [.int .i64 t.f, .sl .sh t.S.length (t.S.flatMap R3.cells), .int .i64 k] hp = some (.agg (if k < 0 then ⟨0, -1, 0⟩ else busO t (k % t.f) : R3).cells, hp, false) := by
  have hf := g.frame
  unfold frameB at hf; simp only [decide_eq_true_eq] at hf
  have e71 := fun h => f65 n k t.f hp (by omega) ⟨h, hk⟩
  rw [evalCall_at _ _ _ hh26 rfl Tryz.func26 rfl (Nat.le_of_ble_eq_true rfl) rfl]
  have lX := flat_len R3.len t.S
  have g0 := fun k h => flat_get R3.len t.S k h 0 (by omega)
  have g1 := fun k h => flat_get R3.len t.S k h 1 (by omega)
  have g2 := fun k h => flat_get R3.len t.S k h 2 (by omega)
  generalize t.S.flatMap R3.cells = Y at *
  by_cases c : k < 0
  · rw [if_pos c]
    simp [-getElem?_pos, List.getElem?_cons_zero, c, R3.cells]
  · rw [if_neg c]
    have e71 := e71 (by omega)
    have b2 := Int.emod_nonneg k (show t.f ≠ 0 by omega)
    have b3 := Int.emod_lt_of_pos k (show 0 < t.f by omega)
    generalize k % t.f = x at *
    unfold busO
    rw [← idx_range]
    simp [-getElem?_pos, List.getElem?_cons_zero, c, e71]
    rw [iter_idx (fun i => { fr := [(1, .sl .sh t.S.length Y), (6, .box [.int .i64 0, .int .i64 0, .int .i64 0]), (7, .int .i64 x), (8, .int .i64 i)], hp := hp, base := hp.length, dirty := false }) (fun i => (t.S[i]?).any (atS x)) (fun i => (.ret, { fr := [(6, .box (slotU ((t.S[i]?).getD ⟨0, 0, 0⟩) x).cells)], hp := hp, base := hp.length, dirty := false })) (.exit 0, { fr := [(1, .sl .sh t.S.length Y), (6, .box [.int .i64 0, .int .i64 0, .int .i64 0]), (7, .int .i64 x), (8, .int .i64 t.S.length), (20, .bool false)], hp := hp, base := hp.length, dirty := false }) t.S.length]
    · cases (List.range t.S.length).find? _ <;> simp [R3.cells]
    · simp
    · omega
    · intro i hi
      have g0 := g0 i hi
      have g1 := g1 i hi
      have g2 := g2 i hi
      have w := wrap_id (x := (i : Int) + 1) (by omega)
      have ok := g.sok t.S[i] (List.getElem_mem hi)
      unfold okS at ok; simp only [decide_eq_true_eq] at ok
      rw [List.getElem?_eq_getElem hi]
      simp only [Option.any_some, Option.getD_some]
      generalize t.S[i] = v at *
      obtain ⟨o, a, b⟩ := v
      simp only [R3.cells, Nat.add_zero, List.getElem?_cons_zero, List.getElem?_cons_succ] at *
      by_cases d1 : x < a
      · rw [show atS x ⟨o, a, b⟩ = false from decide_eq_false (show ¬ (a ≤ x ∧ x < b) by omega)]
        simp [-getElem?_pos, List.getElem?_cons_zero, hi, lX, g0, g1, g2, w, d1]
      · by_cases d2 : b ≤ x
        · rw [show atS x ⟨o, a, b⟩ = false from decide_eq_false (show ¬ (a ≤ x ∧ x < b) by omega)]
          simp [-getElem?_pos, List.getElem?_cons_zero, hi, lX, g0, g1, g2, w, d1, d2]
        · rw [show atS x ⟨o, a, b⟩ = true from decide_eq_true (show a ≤ x ∧ x < b by omega)]
          obtain ⟨K, hK⟩ : ∃ K : Nat, (K : Int) = (b - a) / 4 := ⟨((b - a) / 4).toNat, by omega⟩
          obtain ⟨m, hm⟩ : ∃ m : Nat, (m : Int) = (x - a) / 4 := ⟨((x - a) / 4).toNat, by omega⟩
          have hR : slotU ⟨o, a, b⟩ x = if K ≤ m then ⟨o, -1, 0⟩ else ⟨o, (m : Int), x - (a + 4 * (m : Int))⟩ := by
            unfold slotU
            simp only
            rw [← hK, ← hm]
            by_cases h : K ≤ m
            · rw [if_pos h, if_pos (by omega)]
            · rw [if_neg h, if_neg (by omega), show (x - a) % 4 = x - (a + 4 * (m : Int)) by omega]
          rw [hR]
          obtain ⟨RR, hRR⟩ : ∃ RR : R3, RR = if K ≤ m then ⟨o, -1, 0⟩ else ⟨o, (m : Int), x - (a + 4 * (m : Int))⟩ := ⟨_, rfl⟩
          rw [← hRR]
          simp [-getElem?_pos, List.getElem?_cons_zero, hi, lX, g0, g1, g2, w, d1, d2]
          rw [iter_idx (fun u => { fr := [(1, .sl .sh t.S.length Y), (6, .box [.int .i64 0, .int .i64 0, .int .i64 0]), (7, .int .i64 x), (8, .int .i64 i), (9, .int .i64 u), (10, .int .i64 (a + 4 * (u : Int)))], hp := hp, base := hp.length, dirty := false }) (fun u : Nat => decide (m ≤ u)) (fun u => (.ret, { fr := [(6, .box [.int .i64 o, .int .i64 u, .int .i64 (x - (a + 4 * (u : Int)))])], hp := hp, base := hp.length, dirty := false })) (.exit 2, { fr := [(1, .sl .sh t.S.length Y), (6, .box [.int .i64 0, .int .i64 0, .int .i64 0]), (7, .int .i64 x), (8, .int .i64 i), (9, .int .i64 K), (10, .int .i64 (a + 4 * (K : Int))), (51, .bool false)], hp := hp, base := hp.length, dirty := false }) K]
          · rw [find_ge]
            by_cases h : K ≤ m
            · rw [if_neg (by omega)]
              rw [if_pos h] at hRR
              subst hRR
              simp [-getElem?_pos, List.getElem?_cons_zero, hi, lX, g0]
            · rw [if_pos (by omega)]
              rw [if_neg h] at hRR
              subst hRR
              simp
          · simp
          · omega
          · intro u hu
            have v1 := wrap_id (x := a + 4 * (u : Int) + 4) (by omega)
            have v2 := wrap_id (x := x - (a + 4 * (u : Int))) (by omega)
            have v3 := wrap_id (x := (u : Int) + 1) (by omega)
            have h1 : a + 4 * (u : Int) + 4 ≤ b := by omega
            have h3 : a + 4 * ((u : Int) + 1) = a + 4 * (u : Int) + 4 := by omega
            by_cases h2 : m ≤ u
            · have h2' : x < a + 4 * (u : Int) + 4 := by omega
              rw [decide_eq_true h2]
              simp [-getElem?_pos, List.getElem?_cons_zero, hi, lX, g0, g2, v1, v2, h1, h2']
            · have h2' : ¬ x < a + 4 * (u : Int) + 4 := by omega
              rw [decide_eq_false h2]
              simp [-getElem?_pos, List.getElem?_cons_zero, hi, lX, g0, g2, v1, v3, h1, h2', h3]
          · have v1 := wrap_id (x := a + 4 * (K : Int) + 4) (by omega)
            have h1 : ¬ a + 4 * (K : Int) + 4 ≤ b := by omega
            simp [-getElem?_pos, List.getElem?_cons_zero, hi, lX, g2, v1, h1]
          · simp
          · simp
    · simp
    · simp
    · simp
end Go.Proofs.YtknoiemnpllapaaGreat
end

section
namespace Go.PS
theorem scope_once {f : Option Nat → St → Option (Ex × St)} {has : Nat → Bool} {head : Nat → List Nat} {k : Nat} {st st' : St} {ex : Ex} (h : f none st = some (ex, st')) (hx : ∀ l, ex = .goto l → False) : scopeIter f has head (k + 1) none st = some (ex, st') := by
  simp only [scopeIter, h]
  split
  · rename_i h'
    simp only [Option.some.injEq, Prod.mk.injEq] at h'
    exact (hx _ h'.1).elim
  · rfl
end Go.PS
namespace Go.Proofs.YtknoiemnpllapaaGreat
open Go Go.PS
section
variable {t : Tab} {hp : Heap} {j js jr jm : Nat} {P : List PV}
set_option maxHeartbeats 2000000 in
theorem f59 (n : Nat) (g : Good t) (a : PlanAt t hp j P js jr jm) (k : Int) (hk : k < 9223372036854775808) (hn : 60 < n) : evalCall Tryz.prog hints (n + 3) 59 [.ptr (.heap js) none 0, .int .i64 k] hp = some (.agg (if k < 0 then ⟨0, -1, 0⟩ else busO t (k % t.f) : R3).cells, hp, false) := by
  have hf := g.frame
  unfold frameB at hf; simp only [decide_eq_true_eq] at hf
  have e76 := f60 n k t.f hp (by omega) hk
  obtain ⟨_, a2, a3, a4, a5⟩ := a
  rw [evalCall_at _ _ _ hh59 rfl Tryz.func59 rfl (Nat.le_of_ble_eq_true rfl) rfl]
  have lX := flat_len R3.len t.S
  have rr := fun k h => flat_row R3.len t.S k h
  generalize t.S.flatMap R3.cells = Y at *
  generalize tg3 t.S.length = q at *
  by_cases c : k < 0
  · rw [if_pos c]
    simp [-getElem?_pos, List.getElem?_cons_zero, R3.cells]
    refine Eq.trans (congrArg (fin _ _) (scope_once (k := n + 1) (ex := .ret) (st' := { fr := [(4, .box [.int .i64 0, .int .i64 (-1), .int .i64 0])], hp := hp, base := hp.length, dirty := false }) ?_ (by simp))) (by simp)
    simp [-getElem?_pos, List.getElem?_cons_zero, c]
  · rw [if_neg c]
    rw [if_neg c, if_neg c] at e76
    have b2 := Int.emod_nonneg k (show t.f ≠ 0 by omega)
    have b3 := Int.emod_lt_of_pos k (show 0 < t.f by omega)
    generalize k / t.f = d at *
    generalize k % t.f = x at *
    obtain ⟨RR, hRR⟩ : ∃ RR : R3, RR = busO t x := ⟨_, rfl⟩
    rw [← hRR]
    unfold busO at hRR
    rw [← idx_range] at hRR
    simp
    refine Eq.trans (congrArg (fin _ _) (scope_once (k := n + 1) (ex := .ret) (st' := { fr := [(4, .box RR.cells)], hp := hp, base := hp.length, dirty := false }) ?_ (by simp))) (by simp [R3.cells])
    simp [-getElem?_pos, List.getElem?_cons_zero, c, e76, a3]
    rw [iter_idx (fun i => { fr := [(4, .box [.int .i64 0, .int .i64 0, .int .i64 0]), (6, .int .i64 x), (29, .hd (.heap js) (some 1)), (30, .int .i64 t.S.length), (31, .int .i64 i)], hp := hp, base := hp.length, dirty := false }) (fun i => (t.S[i]?).any (atS x)) (fun i => (.ret, { fr := [(4, .box (slotU ((t.S[i]?).getD ⟨0, 0, 0⟩) x).cells)], hp := hp, base := hp.length, dirty := false })) (.exit 0, { fr := [(4, .box [.int .i64 0, .int .i64 0, .int .i64 0]), (6, .int .i64 x), (29, .hd (.heap js) (some 1)), (30, .int .i64 t.S.length), (31, .int .i64 t.S.length), (32, .bool false)], hp := hp, base := hp.length, dirty := false }) t.S.length]
    · rw [hRR]
      cases (List.range t.S.length).find? _ <;> simp [R3.cells]
    · simp
    · omega
    · intro i hi
      have r := rr i hi
      have z : i * 3 + 3 ≤ t.S.length * 3 := by omega
      have w := wrap_id (x := (i : Int) + 1) (by omega)
      have ok := g.sok t.S[i] (List.getElem_mem hi)
      unfold okS at ok; simp only [decide_eq_true_eq] at ok
      have e100 := f51 (n + 1) t.S[i] hp
      have his : (wsp t.S[i]).is = true := decide_eq_true (show 0 ≤ t.S[i].a ∧ t.S[i].a < t.S[i].b by omega)
      have e56 : evalCall Tryz.prog hints (n + 2) 64 [.agg (wsp t.S[i]).cells, .int .i64 x] hp = some (.bool (atS x t.S[i]), hp, false) := by
        have h := f64 n (wsp t.S[i]) x hp
        rw [his, Bool.true_and] at h; exact h
      rw [List.getElem?_eq_getElem hi]
      simp only [Option.any_some, Option.getD_some]
      clear his hRR
      generalize t.S[i] = v at *
      obtain ⟨o, a, b⟩ := v
      simp only [R3.cells, wsp, Sp.cells] at *
      by_cases d : a ≤ x ∧ x < b
      · rw [show atS x ⟨o, a, b⟩ = true from decide_eq_true d] at e56 ⊢
        have w1 := wrap_id (x := x - a) (by omega)
        have q1 := td (a := x - a) 4 (by omega)
        have q2 := tm (a := x - a) 4 (by omega)
        have q3 := td (a := b - a) 4 (by omega)
        have w2 := wrap_id (x := (x - a) / 4) (by omega)
        have w3 := wrap_id (x := (x - a) % 4) (by omega)
        have w4 := wrap_id (x := b - a) (by omega)
        have w5 := wrap_id (x := (b - a) / 4) (by omega)
        unfold slotU
        by_cases h : (b - a) / 4 ≤ (x - a) / 4
        · simp only [if_pos h]
          simp [-getElem?_pos, List.getElem?_cons_zero, hi, a3, lX, r, z, e100, e56, w1, q1, q3, w2, w4, w5, h]
        · simp only [if_neg h]
          simp [-getElem?_pos, List.getElem?_cons_zero, hi, a3, lX, r, z, e100, e56, w1, q1, q2, q3, w2, w3, w4, w5, h]
      · rw [show atS x ⟨o, a, b⟩ = false from decide_eq_false d] at e56 ⊢
        simp [-getElem?_pos, List.getElem?_cons_zero, hi, a3, lX, r, z, e100, e56, w]
    · simp
    · simp
    · simp
theorem f23 (n : Nat) (g : Good t) (a : PlanAt t hp j P js jr jm) (k : Int) (hk : k < 9223372036854775808) (hn : 60 < n) : evalCall Tryz.prog hints (n + 4) 23 [.ptr (.heap j) none 0, .int .i64 k] hp = some (.agg (if k < 0 then ⟨0, -1, 0⟩ else busO t (k % t.f) : R3).cells, hp, false) := by
  have e1 := f58 (n + 2) a
  have e2 := f59 n g a k hk hn
  rw [evalCall_at _ _ _ hh23 rfl Tryz.func23 rfl (Nat.le_of_ble_eq_true rfl) rfl]
  generalize (if k < 0 then ⟨0, -1, 0⟩ else busO t (k % t.f) : R3) = v at *
  obtain ⟨o, x, y⟩ := v
  simp only [R3.cells] at *
  simp [-getElem?_pos, List.getElem?_cons_zero, e1, e2]
end
end Go.Proofs.YtknoiemnpllapaaGreat
end
