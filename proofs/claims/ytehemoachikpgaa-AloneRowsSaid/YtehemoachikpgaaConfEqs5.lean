/-
  What functions of this program compute, as equations about the evaluator. No condition but those stated.
-/
import Derived.Test.YtehemoachikpgaaConfEqs4
set_option linter.all false
section
namespace Go.Proofs.Ytehemoachikpgaa
open Go Go.PS
theorem ioW_none (t : Tab) : ∀ l : List R3, idx (fun w : R3 => decide (w.o = 0)) l = none → ioW t 0 l = false
  | [], _ => rfl
  | w :: l, h => by
    have h' := h
    rw [idx_none, List.any_cons, Bool.or_eq_false_iff] at h
    rw [ioW, if_pos rfl, if_neg (of_decide_eq_false h.1)]
    exact ioW_none t l (idx_none.2 h.2)
theorem ioW_some (t : Tab) : ∀ (l : List R3) (i : Nat) (hi : i < l.length), idx (fun w : R3 => decide (w.o = 0)) l = some i → ioW t 0 l = (okW t l[i] && decide (l[i].b - l[i].a < 2 * (t.C.length : Int)))
  | [], i, hi, _ => by simp at hi
  | w :: l, i, hi, h => by
    rw [idx] at h
    rw [ioW, if_pos rfl]
    by_cases c : w.o = 0
    · rw [if_pos (decide_eq_true c)] at h
      cases h
      rw [if_pos c]; try rfl
    · rw [if_neg (by simp [c])] at h
      rw [if_neg c]
      cases hx : idx (fun w : R3 => decide (w.o = 0)) l with
      | none => rw [hx] at h; cases h
      | some j =>
        rw [hx] at h
        cases h
        have hj : j < l.length := by simpa using hi
        rw [ioW_some t l j hj hx]; rfl
def L93a (t : Tab) (L : List F2) : List F2 := L ++ rowsQ 4 (qat t.W fun w => !okW t w) t.W.length ++ rowsQ 5 (qpre t.W pairW) t.W.length
def L93 (t : Tab) (L : List F2) : List F2 := L93a t L ++ rowsF t 6 (t.C.length + 1) ++ if ioW t 0 t.W = true then [⟨0, 7⟩] else []
def hp93 (t : Tab) (hp : Heap) (k : Nat) : Heap := hp ++ [PS.Node.cells t.cells] ++ (List.range k).map fun i : Nat => PS.Node.cells [.int .i64 (i : Int)]
theorem hp93_succ (t : Tab) (hp : Heap) (k : Nat) : hp93 t hp (k + 1) = hp93 t hp k ++ [PS.Node.cells [.int .i64 k]] := by
  unfold hp93; rw [List.range_succ, List.map_append, ← List.append_assoc]; rfl
theorem hp93_c (t : Tab) (hp : Heap) (k : Nat) : (hp93 t hp k)[hp.length]? = some (.cells t.cells) := by
  unfold hp93
  rw [List.getElem?_append_left (by simp)]
  simp
theorem hp93_le (t : Tab) (hp : Heap) (k : Nat) : hp.length < (hp93 t hp k).length := by
  unfold hp93; simp
  all_goals omega
theorem flat_at1 {f : R3 → List PV} (l : List R3) (k : Nat) (h : k < l.length) : (l.map f)[k]? = some (f l[k]) := by simp [h]
set_option maxHeartbeats 2000000 in
theorem f93 (n : Nat) (t : Tab) (L : List F2) (hp : Heap) (hL : L.length ≤ 100) (hf : frameB t = true) (hn : 60 < n) : ∃ H, evalCall Try.prog hints (n + 9) 93 [.sl (.mu 2) L.length (L.flatMap F2.cells), .agg t.cells] hp = some (.sl (.mu 2) (L93 t L).length ((L93 t L).flatMap F2.cells), H, false) := by
  unfold frameB at hf; simp only [decide_eq_true_eq] at hf
  obtain ⟨HP, hHP⟩ : ∃ HP : Nat → Heap, HP = hp93 t hp := ⟨_, rfl⟩
  have hj : ∀ k, (HP k)[hp.length]? = some (.cells t.cells) := fun k => by rw [hHP]; exact hp93_c t hp k
  have h0 : hp ++ [PS.Node.cells t.cells] = HP 0 := by rw [hHP]; unfold hp93; simp
  have hS : ∀ k, HP (k + 1) = HP k ++ [PS.Node.cells [.int .i64 k]] := fun k => by rw [hHP]; exact hp93_succ t hp k
  have hlast : ∀ k, (HP (k + 1))[(HP k).length]? = some (.cells [.int .i64 k]) := fun k => by rw [hS]; simp
  have e1 : evalCall Try.prog hints (n + 8) 95 [.sl (.mu 2) L.length (L.flatMap F2.cells), .int .i64 4, .int .i64 t.W.length, .fn 123 [.ptr (.heap hp.length) none 0]] (HP 0) = _ := f95 (n + 7) 123 [.ptr (.heap hp.length) none 0] 4 (qat t.W fun w => !okW t w) t.W.length L _ (by omega) (by omega) (by omega) rfl (fun k hk => ⟨_, by rw [qat_lt hk]; exact f123 (n + 3) hp.length k t _ (hj 0) hk⟩)
  have l1 := rowsQ_len 4 (qat t.W fun w => !okW t w) t.W.length
  have l2 := rowsQ_len 5 (qpre t.W pairW) t.W.length
  obtain ⟨L1, hL1⟩ : ∃ L1, L1 = L ++ rowsQ 4 (qat t.W fun w => !okW t w) t.W.length := ⟨_, rfl⟩
  rw [← hL1] at e1
  have l3 : L1.length ≤ 120 := by rw [hL1, List.length_append]; omega
  have e2 : evalCall Try.prog hints (n + 8) 95 [.sl (.mu 2) L1.length (L1.flatMap F2.cells), .int .i64 5, .int .i64 t.W.length, .fn 125 [.ptr (.heap hp.length) none 0]] (HP 0) = _ := f95 (n + 7) 125 [.ptr (.heap hp.length) none 0] 5 (qpre t.W pairW) t.W.length L1 _ (by omega) (by omega) (by omega) rfl (fun k hk => by
    rw [qpre_lt hk]
    exact f125 (n + 1) hp.length k t _ (hj 0) hk (by omega) (by omega))
  obtain ⟨L2, hL2⟩ : ∃ L2, L2 = L1 ++ rowsQ 5 (qpre t.W pairW) t.W.length := ⟨_, rfl⟩
  rw [← hL2] at e2
  have l4 : L2.length ≤ 140 := by rw [hL2, List.length_append]; omega
  have hL2a : L93a t L = L2 := by rw [hL2, hL1]; rfl
  obtain ⟨M, hM⟩ : ∃ M : Nat → List F2, M = fun k => L2 ++ rowsF t 6 k := ⟨_, rfl⟩
  have hM0 : M 0 = L2 := by rw [hM]; simp [rowsF]
  have hMl : ∀ k, k ≤ 9 → (M k).length ≤ 160 := fun k hk => by have := rowsF_len t 6 k; rw [hM]; simp; omega
  have hMS : ∀ k, k < t.C.length + 1 → M (k + 1) = M k ++ if (!t.W.any fun w => decide (w.o = (k : Int))) = true then [⟨k, 6⟩] else [] := fun k hk => by
    have hd : decide ((k : Int) ≤ t.C.length) = true := decide_eq_true (by omega)
    have : hasB t 6 k = !t.W.any fun w => decide (w.o = (k : Int)) := by
      show (_ && decide ((k : Int) ≤ t.C.length)) = _
      rw [hd, Bool.and_true]
    rw [hM]
    show L2 ++ rowsF t 6 (k + 1) = _
    rw [rowsF, this, List.append_assoc]; rfl
  have e3 : ∀ k : Nat, evalCall Try.prog hints (n + 8) 126 [.sl .sh t.W.length (t.W.flatMap R3.cells), .fn 128 [.ptr (.heap (HP k).length) none 0]] (HP (k + 1)) = _ := fun k => f126 (n + 6) 128 [.ptr (.heap (HP k).length) none 0] (fun w => decide (w.o = (k : Int))) t.W _ (by omega) (by omega) rfl (fun w _ => ⟨_, f128 (n + 5) _ k w _ (hlast k)⟩)
  obtain ⟨N1, hN1⟩ : ∃ N1, N1 = t.C.length + 1 := ⟨_, rfl⟩
  have e4 : evalCall Try.prog hints (n + 8) 129 [.sl .sh t.W.length (t.W.flatMap R3.cells), .fn 130 []] (HP N1) = _ := f129 (n + 7) 130 [] (fun w => decide (w.o = 0)) t.W _ (by omega) (by omega) rfl (fun w _ => ⟨_, f130 (n + 6) w _⟩)
  have e5 := fun w => f124 (n + 5) t w (HP N1)
  have lM := fun k => flat_len F2.len (M k)
  have aM := fun k => flat_all (f := F2.cells) (fun _ => rfl) (M k)
  have px1 : (L1.flatMap F2.cells).all plain1 = true := by rw [List.all_flatMap]; simp [F2.cells, plain1]
  have px2 : (L2.flatMap F2.cells).all plain1 = true := by rw [List.all_flatMap]; simp [F2.cells, plain1]
  have lX := flat_len R3.len t.W
  have rr := fun k h => flat_row R3.len t.W k h
  have g1 := fun k h => flat_get R3.len t.W k h 1 (by omega)
  have g2 := fun k h => flat_get R3.len t.W k h 2 (by omega)
  have hFL : L93 t L = M N1 ++ if ioW t 0 t.W = true then [⟨0, 7⟩] else [] := by unfold L93; rw [hL2a, hM, hN1]
  have hMN : (M N1).length ≤ 160 := hMl N1 (by omega)
  obtain ⟨FL, hFLe⟩ : ∃ FL, FL = L93 t L := ⟨_, rfl⟩
  rw [← hFLe] at hFL ⊢
  obtain ⟨YF, hYF⟩ : ∃ YF, YF = FL.flatMap F2.cells := ⟨_, rfl⟩
  obtain ⟨yF, hyF⟩ : ∃ yF, yF = FL.length := ⟨_, rfl⟩
  rw [← hYF, ← hyF]
  refine ⟨HP N1, ?_⟩
  rw [evalCall_at _ _ _ hh93 rfl Try.func93 rfl (Nat.le_of_ble_eq_true rfl) rfl]
  have w0 := wrap_id (x := (t.C.length : Int) + 1) (by omega)
  have w00 : (t.C.length : Int) + 1 = (N1 : Int) := by omega
  rw [w00] at w0
  have dN : N1 ≤ 9 := by omega
  have iO := fun h => ioW_none t t.W h
  have iS := fun i hi h => ioW_some t t.W i hi h
  have hM0F : L2.flatMap F2.cells = (M 0).flatMap F2.cells := by rw [hM0]
  have hM0l : L2.length = (M 0).length := by rw [hM0]
  rw [hM0F, hM0l] at e2
  rw [hM0F] at px2
  have hS' := fun k => (hS k).symm
  have hz : (M 0).length = 0 + (M 0).length := by omega
  clear hM0F hM0l hM0 hL2a hL1 hL2 hHP hS l1 l2
  simp only [Tab.cells_eq] at h0 hj e5 ⊢
  generalize t.S.flatMap R3.cells = Y at *
  generalize t.C.flatMap Cl.cells = Z at *
  generalize t.W.flatMap R3.cells = X at *
  generalize L1.flatMap F2.cells = A1 at *
  generalize L1.length = a1 at *
  generalize L.flatMap F2.cells = A at *
  generalize L.length = a at *
  simp [-getElem?_pos, -List.all_eq_true, List.getElem?_cons_zero, h0, hj, e1, e2, px1, px2, w0, w00]
  rw [iter_count (fun k => { fr := [(0, .sl (.mu 2) (M k).length ((M k).flatMap F2.cells)), (3, .ptr (.heap hp.length) none 0), (22, .int .i64 N1), (23, .int .i64 k)], hp := HP k, base := hp.length, dirty := false }) (.exit 0, { fr := [(0, .sl (.mu 2) (M N1).length ((M N1).flatMap F2.cells)), (3, .ptr (.heap hp.length) none 0), (22, .int .i64 N1), (23, .int .i64 N1), (24, .bool false)], hp := HP N1, base := hp.length, dirty := false }) N1]
  · cases hx : idx (fun w : R3 => decide (w.o = 0)) t.W with
    | none =>
      rw [hx] at e4
      rw [iO hx, if_neg (by simp), List.append_nil] at hFL
      rw [hFL] at hYF hyF
      rw [hYF, hyF]
      simp only [idxI] at e4
      generalize (M N1).flatMap F2.cells = Q at *
      generalize (M N1).length = q at *
      simp [-getElem?_pos, List.getElem?_cons_zero, hj, e4]
    | some i =>
      obtain ⟨hi, _⟩ := idx_lt hx
      have io := iS i hi hx
      rw [hx] at e4
      rw [io] at hFL
      have e5 := e5 t.W[i]
      have r := rr i hi
      have g1 := g1 i hi
      have g2 := g2 i hi
      have hb : okW t t.W[i] = true → IntKind.i64.wrap (t.W[i].b - t.W[i].a) = t.W[i].b - t.W[i].a := fun h => by
        unfold okW at h; simp only [decide_eq_true_eq] at h
        exact wrap_id (by omega)
      have w2 := wrap_id (x := 2 * (t.C.length : Int)) (by omega)
      have z : i * 3 + 3 ≤ t.W.length * 3 := by omega
      have m1 : ((M N1).length + 1) * 16 ≤ 140737488355328 := by omega
      have lMN := lM N1
      have aMN := aM N1
      clear io iS iO rr hx e3
      simp only [idxI] at e4
      generalize okW t t.W[i] = ok at *
      generalize t.W[i] = w at *
      obtain ⟨o, x, y⟩ := w
      simp only [R3.cells] at *
      simp only [Nat.add_zero, List.getElem?_cons_zero, List.getElem?_cons_succ] at g1 g2
      cases ok with
      | false =>
        rw [Bool.false_and, if_neg (by simp), List.append_nil] at hFL
        rw [hFL] at hYF hyF
        rw [hYF, hyF]
        generalize (M N1).flatMap F2.cells = Q at *
        generalize (M N1).length = q at *
        simp [-getElem?_pos, List.getElem?_cons_zero, hj, e4, e5, r, g1, g2, z, lX, hi]
      | true =>
        have hb := hb rfl
        by_cases c : y - x < 2 * (t.C.length : Int)
        · rw [decide_eq_true c, Bool.true_and, if_pos rfl] at hFL
          rw [hFL, List.flatMap_append] at hYF
          rw [hFL, List.length_append] at hyF
          rw [hYF, hyF]
          generalize (M N1).flatMap F2.cells = Q at *
          generalize (M N1).length = q at *
          simp [-getElem?_pos, List.getElem?_cons_zero, hj, e4, e5, r, g1, g2, z, lX, hi, hb, w2, c, lMN, aMN, m1, F2.cells]
        · rw [decide_eq_false c, Bool.and_false, if_neg (by simp), List.append_nil] at hFL
          rw [hFL] at hYF hyF
          rw [hYF, hyF]
          generalize (M N1).flatMap F2.cells = Q at *
          generalize (M N1).length = q at *
          simp [-getElem?_pos, List.getElem?_cons_zero, hj, e4, e5, r, g1, g2, z, lX, hi, hb, w2, c]
  · simp
  · omega
  · intro k hk
    have lMk := lM k
    have aMk := aM k
    have ml := hMl k (by omega)
    have m1 : ((M k).length + 1) * 16 ≤ 140737488355328 := by omega
    have e := e3 k
    have hs := hS' k
    have hl := hlast k
    have hjk := hj (k + 1)
    have hla : ∀ c : PS.Node, (HP k ++ [c])[(HP k).length]? = some c := fun c => by simp
    have hbb : ¬ (HP k).length < hp.length := by
      have := (List.getElem?_eq_some_iff.1 (hj k)).1
      omega
    have w := wrap_id (x := (k : Int) + 1) (by omega)
    rw [hMS k (by omega)]
    cases hb : t.W.any fun w => decide (w.o = (k : Int)) with
    | true =>
      rw [hb] at e
      rw [if_neg (by simp), List.append_nil]
      generalize (M k).flatMap F2.cells = Q at *
      generalize (M k).length = q at *
      simp [-getElem?_pos, List.getElem?_cons_zero, hk, hs, hl, hla, hbb, hjk, e, w]
    | false =>
      rw [hb] at e
      rw [if_pos (by simp), List.flatMap_append, List.length_append]
      generalize (M k).flatMap F2.cells = Q at *
      generalize (M k).length = q at *
      simp [-getElem?_pos, List.getElem?_cons_zero, hk, hs, hl, hla, hbb, hjk, e, w, lMk, aMk, m1, F2.cells]
  · simp
  · simp
end Go.Proofs.Ytehemoachikpgaa
end

section
namespace Go.Proofs.Ytehemoachikpgaa
open Go Go.PS
theorem rows_eq (t : Tab) (k : Nat) (q : Nat → Bool) (N : Nat) (h0 : hasB t k 0 = false) (h1 : ∀ i, i < N → hasB t k (i + 1) = q i) : ∀ j, j ≤ N → rowsF t k (j + 1) = rowsQ k q j
  | 0, _ => by rw [rowsF, rowsF, h0]; rfl
  | j + 1, h => by
    rw [rowsF, rows_eq t k q N h0 h1 j (by omega), h1 j (by omega), rowsQ]
    rfl
theorem rows_tail (t : Tab) (k m : Nat) (h : ∀ i, m ≤ i → hasB t k i = false) : ∀ j, rowsF t k (m + j) = rowsF t k m
  | 0 => rfl
  | j + 1 => by
    rw [← Nat.add_assoc, rowsF, h _ (by omega), rows_tail t k m h j]
    simp
theorem rows_all (t : Tab) (k : Nat) (q : Nat → Bool) (N : Nat) (hN : N ≤ 32) (h0 : hasB t k 0 = false) (h1 : ∀ i, i < N → hasB t k (i + 1) = q i) (h2 : ∀ i, N ≤ i → hasB t k (i + 1) = false) : rowsF t k 33 = rowsQ k q N := by
  have := rows_tail t k (N + 1) (fun i hi => by
    obtain ⟨j, rfl⟩ : ∃ j, i = j + 1 := ⟨i - 1, by omega⟩
    exact h2 j (by omega)) (32 - N)
  rw [show N + 1 + (32 - N) = 33 by omega] at this
  rw [this, rows_eq t k q N h0 h1 N (Nat.le_refl _)]
theorem ats_ge {α : Type} (l : List α) (p : α → Bool) (i : Nat) (h : l.length ≤ i) : ats l (i + 1) p = false := by
  rw [ats, List.getElem?_eq_none h]; rfl
theorem rows_at {α : Type} (t : Tab) (k : Nat) (l : List α) (p : α → Bool) (hl : l.length ≤ 32) (h : ∀ r, hasB t k r = ats l r p) : rowsF t k 33 = rowsQ k (qat l p) l.length :=
  rows_all t k _ _ hl (h 0) (fun i _ => h (i + 1)) (fun i hi => (h (i + 1)).trans (ats_ge l p i hi))
theorem any_range_take {α : Type} (p : α → Bool) (l : List α) (i : Nat) (h : i ≤ l.length) : ((List.range i).any fun k => (l[k]?).any p) = (l.take i).any p := by
  rw [← any_range p (l.take i), List.length_take, Nat.min_eq_left h]
  rw [Bool.eq_iff_iff, List.any_eq_true, List.any_eq_true]
  constructor
  · rintro ⟨k, hk, e⟩
    have hk' := List.mem_range.1 hk
    refine ⟨k, hk, ?_⟩
    rw [List.getElem?_take_of_lt hk']; exact e
  · rintro ⟨k, hk, e⟩
    have hk' := List.mem_range.1 hk
    refine ⟨k, hk, ?_⟩
    rw [List.getElem?_take_of_lt hk'] at e; exact e
theorem rows_pre {α : Type} (t : Tab) (k : Nat) (l : List α) (p : α → α → Bool) (hl : l.length ≤ 32) (h : ∀ r, hasB t k r = pre l r p) : rowsF t k 33 = rowsQ k (qpre l p) l.length :=
  rows_all t k _ _ hl (h 0) (fun i hi => by
    rw [h, pre, qpre, List.getElem?_eq_getElem hi]
    exact any_range_take _ l i (Nat.le_of_lt hi)) (fun i hi => by
    rw [h, pre, List.getElem?_eq_none hi]; rfl)
theorem rows_own (t : Tab) (hC : t.C.length ≤ 32) : rowsF t 6 33 = rowsF t 6 (t.C.length + 1) := by
  have := rows_tail t 6 (t.C.length + 1) (fun i hi => by
    have : decide ((i : Int) ≤ t.C.length) = false := decide_eq_false (by omega)
    show (_ && decide ((i : Int) ≤ t.C.length)) = false
    rw [this, Bool.and_false]) (32 - t.C.length)
  rw [show t.C.length + 1 + (32 - t.C.length) = 33 by omega] at this
  exact this
theorem rows_io (t : Tab) : rowsF t 7 33 = if ioW t 0 t.W = true then [⟨0, 7⟩] else [] := by
  have := rows_tail t 7 1 (fun i hi => ioW_ne t i (by omega) t.W) 32
  rw [show 1 + 32 = 33 by omega] at this
  rw [this, rowsF, rowsF]
  show [] ++ (if ioW t 0 t.W = true then _ else _) = _
  rw [List.nil_append]
  rfl
def L66 (t : Tab) : List F2 := L92 t (L93 t (L94 t [])) ++ rowsQ 10 (fun k => (t.C[k]?).any (overU t ((k : Int) + 1))) t.C.length
theorem L66_eq (t : Tab) (hf : frameB t = true) : L66 t = faults t := by
  unfold faults; rw [if_pos hf]
  unfold frameB at hf; simp only [decide_eq_true_eq] at hf
  have a2 := rows_at t 2 t.C (fun c => !decide c.ok) (by omega) (fun _ => rfl)
  have a3 := rows_pre t 3 t.C pairC (by omega) (fun _ => rfl)
  have a4 := rows_at t 4 t.W (fun w => !okW t w) (by omega) (fun _ => rfl)
  have a5 := rows_pre t 5 t.W pairW (by omega) (fun _ => rfl)
  have a6 := rows_own t (by omega)
  have a7 := rows_io t
  have a8 := rows_at t 8 t.S (fun w => !okS t w) (by omega) (fun _ => rfl)
  have a9 := rows_pre t 9 t.S pairS (by omega) (fun _ => rfl)
  have a10 := rows_all t 10 (fun k => (t.C[k]?).any (overU t ((k : Int) + 1))) t.C.length (by omega) rfl (fun i hi => by
    show (t.C[i]?).any (overU t ((i + 1 : Nat) : Int)) = _
    rw [show ((i + 1 : Nat) : Int) = (i : Int) + 1 by omega]) (fun i hi => by
    show (t.C[i]?).any (overU t ((i + 1 : Nat) : Int)) = _
    rw [List.getElem?_eq_none hi]; rfl)
  simp only [allF, a2, a3, a4, a5, a6, a7, a8, a9, a10, List.nil_append]
  simp only [L66, L92, L93, L93a, L94, List.nil_append, List.append_assoc]
  rfl
end Go.Proofs.Ytehemoachikpgaa
end

section
namespace Go.Proofs.Ytehemoachikpgaa
open Go Go.PS
theorem L94_len (t : Tab) (h : t.C.length ≤ 8) : (L94 t []).length ≤ 16 := by
  have := rowsQ_len 2 (qat t.C fun c => !decide c.ok) t.C.length
  have := rowsQ_len 3 (qpre t.C pairC) t.C.length
  unfold L94; simp only [List.length_append, List.length_nil]; omega
theorem L93_len (t : Tab) (L : List F2) (h : t.C.length ≤ 8) (hW : t.W.length ≤ 9) : (L93 t L).length ≤ L.length + 28 := by
  have := rowsQ_len 4 (qat t.W fun w => !okW t w) t.W.length
  have := rowsQ_len 5 (qpre t.W pairW) t.W.length
  have := rowsF_len t 6 (t.C.length + 1)
  have : (if ioW t 0 t.W = true then [(⟨0, 7⟩ : F2)] else []).length ≤ 1 := by split <;> simp
  unfold L93 L93a; simp only [List.length_append]; omega
theorem L92_len (t : Tab) (L : List F2) (hS : t.S.length ≤ 32) : (L92 t L).length ≤ L.length + 64 := by
  have := rowsQ_len 8 (qat t.S fun c => !okS t c) t.S.length
  have := rowsQ_len 9 (qpre t.S pairS) t.S.length
  unfold L92; simp only [List.length_append]; omega
set_option maxHeartbeats 1000000 in
theorem f66 (n : Nat) (t : Tab) (hp : Heap) (hn : 60 < n) : ∃ H, evalCall Try.prog hints (n + 10) 66 [.agg t.cells] hp = some (.sl (.mu 2) (faults t).length ((faults t).flatMap F2.cells), H, false) := by
  have hj : (hp ++ [PS.Node.cells t.cells])[hp.length]? = some (.cells t.cells) := by simp
  have e68 := f68 (n + 7) t (hp ++ [PS.Node.cells t.cells])
  rw [evalCall_at _ _ _ hh66 rfl Try.func66 rfl (Nat.le_of_ble_eq_true rfl) rfl]
  have lX := flat_len R3.len t.W
  cases hf : frameB t with
  | false =>
    rw [hf] at e68
    rw [show faults t = [⟨0, 1⟩] by unfold faults; rw [if_neg (by rw [hf]; simp)]]
    simp only [Tab.cells_eq] at *
    generalize t.S.flatMap R3.cells = Y at *
    generalize t.C.flatMap Cl.cells = Z at *
    generalize t.W.flatMap R3.cells = X at *
    exact ⟨_, by simp [-getElem?_pos, List.getElem?_cons_zero, hj, e68, F2.cells]; rfl⟩
  | true =>
    rw [hf] at e68
    have hf' := hf
    unfold frameB at hf'; simp only [decide_eq_true_eq] at hf'
    obtain ⟨H1, e1⟩ := f94 n t (hp ++ [PS.Node.cells t.cells]) (by omega) hn
    have a1 := L94_len t (by omega)
    obtain ⟨H2, e2⟩ := f93 n t (L94 t []) (hp ++ [PS.Node.cells t.cells]) (by omega) hf hn
    have a2 := L93_len t (L94 t []) (by omega) (by omega)
    obtain ⟨H3, e3⟩ := f92 n t (L93 t (L94 t [])) (hp ++ [PS.Node.cells t.cells]) (by omega) (by omega) (by omega) hn
    have a3 := L92_len t (L93 t (L94 t [])) (by omega)
    have e4 : evalCall Try.prog hints (n + 9) 95 [.sl (.mu 2) (L92 t (L93 t (L94 t []))).length ((L92 t (L93 t (L94 t []))).flatMap F2.cells), .int .i64 10, .int .i64 t.C.length, .fn 96 [.ptr (.heap hp.length) none 0]] (hp ++ [PS.Node.cells t.cells]) = _ := f95 (n + 8) 96 [.ptr (.heap hp.length) none 0] 10 (fun k => (t.C[k]?).any (overU t ((k : Int) + 1))) t.C.length (L92 t (L93 t (L94 t []))) _ (by omega) (by omega) (by omega) rfl (fun k hk => ⟨_, by rw [List.getElem?_eq_getElem hk]; exact f96 (n + 3) hp.length k t _ hj hk hf (by omega)⟩)
    rw [show L92 t (L93 t (L94 t [])) ++ rowsQ 10 (fun k => (t.C[k]?).any (overU t ((k : Int) + 1))) t.C.length = L66 t from rfl, L66_eq t hf] at e4
    have p1 : ((L94 t []).flatMap F2.cells).all plain1 = true := by rw [List.all_flatMap]; simp [F2.cells, plain1]
    have p2 : ((L93 t (L94 t [])).flatMap F2.cells).all plain1 = true := by rw [List.all_flatMap]; simp [F2.cells, plain1]
    have p3 : ((L92 t (L93 t (L94 t []))).flatMap F2.cells).all plain1 = true := by rw [List.all_flatMap]; simp [F2.cells, plain1]
    have p4 : ((faults t).flatMap F2.cells).all plain1 = true := by rw [List.all_flatMap]; simp [F2.cells, plain1]
    simp only [Tab.cells_eq] at *
    generalize (L92 t (L93 t (L94 t []))).flatMap F2.cells = A3 at *
    generalize (L92 t (L93 t (L94 t []))).length = n3 at *
    generalize (L93 t (L94 t [])).flatMap F2.cells = A2 at *
    generalize (L93 t (L94 t [])).length = n2 at *
    generalize (L94 t []).flatMap F2.cells = A1 at *
    generalize (L94 t []).length = n1 at *
    generalize (faults t).flatMap F2.cells = A at *
    generalize (faults t).length = n0 at *
    generalize t.S.flatMap R3.cells = Y at *
    generalize t.C.flatMap Cl.cells = Z at *
    generalize t.W.flatMap R3.cells = X at *
    refine ⟨hp ++ [PS.Node.cells [.int .i64 t.f, .sl .sh t.W.length X, .sl .sh t.S.length Y, .sl .sh t.C.length Z]], ?_⟩
    simp [-getElem?_pos, -List.all_eq_true, List.getElem?_cons_zero, hj, e68, e1, e2, e3, e4, p1, p2, p3, p4]
theorem f28 (n : Nat) (t : Tab) (hp : Heap) (hn : 60 < n) : ∃ H, evalCall Try.prog hints (n + 11) 28 [.agg t.cells] hp = some (.bool (decide ((faults t).length = 0)), H, false) := by
  obtain ⟨H, e⟩ := f66 n t hp hn
  rw [evalCall_at _ _ _ hh28 rfl Try.func28 rfl (Nat.le_of_ble_eq_true rfl) rfl]
  have p4 : ((faults t).flatMap F2.cells).all plain1 = true := by rw [List.all_flatMap]; simp [F2.cells, plain1]
  simp only [Tab.cells_eq] at *
  generalize (faults t).flatMap F2.cells = A at *
  generalize (faults t).length = n0 at *
  generalize t.S.flatMap R3.cells = Y at *
  generalize t.C.flatMap Cl.cells = Z at *
  generalize t.W.flatMap R3.cells = X at *
  by_cases c : n0 = 0
  · subst c
    exact ⟨_, by simp [-getElem?_pos, -List.all_eq_true, List.getElem?_cons_zero, e, p4]; rfl⟩
  · have c' : ((n0 : Int) == 0) = false := by simp [c]
    exact ⟨_, by simp [-getElem?_pos, -List.all_eq_true, List.getElem?_cons_zero, e, p4, c, c']; rfl⟩
end Go.Proofs.Ytehemoachikpgaa
end

section
namespace Go.Proofs.Ytehemoachikpgaa
open Go Go.PS
/-- Tables that are right. -/
structure Good (t : Tab) : Prop where
  frame : frameB t = true
  cok : ∀ x ∈ t.C, x.ok
  cpair : t.C.Pairwise fun y x => pairC x y = false
  wok : ∀ w ∈ t.W, okW t w = true
  wpair : t.W.Pairwise fun y x => pairW x y = false
  own : ∀ r : Nat, r ≤ t.C.length → (t.W.any fun w => decide (w.o = (r : Int))) = true
  io : ioW t 0 t.W = false
  sok : ∀ w ∈ t.S, okS t w = true
  spair : t.S.Pairwise fun y x => pairS x y = false
  quota : ∀ (i : Nat) (h : i < t.C.length), overU t ((i : Int) + 1) t.C[i] = false
theorem rowsF_nil {t : Tab} {k : Nat} : ∀ {n : Nat}, rowsF t k n = [] → ∀ r, r < n → hasB t k r = false
  | 0, _, r, h => absurd h (by omega)
  | n + 1, h, r, hr => by
    rw [rowsF, List.append_eq_nil_iff] at h
    by_cases e : r = n
    · subst e
      cases hb : hasB t k r with
      | false => rfl
      | true => rw [hb] at h; simp at h
    · exact rowsF_nil h.1 r (by omega)
theorem allF_nil' {t : Tab} : ∀ {j : Nat}, allF t j = [] → ∀ k, 2 ≤ k → k < j + 2 → rowsF t k 33 = []
  | 0, _, k, h1, h2 => absurd h2 (by omega)
  | j + 1, h, k, h1, h2 => by
    rw [allF, List.append_eq_nil_iff] at h
    by_cases e : k = j + 2
    · subst e; exact h.2
    · exact allF_nil' h.1 k h1 (by omega)
theorem ats_all {α : Type} {l : List α} {p : α → Bool} (hl : l.length ≤ 32) (h : ∀ r, r < 33 → ats l r p = false) : ∀ x ∈ l, p x = false := fun x hx => by
  obtain ⟨i, hi, rfl⟩ := List.getElem_of_mem hx
  have := h (i + 1) (by omega)
  rw [ats, List.getElem?_eq_getElem hi] at this
  exact this
theorem pre_all {α : Type} {l : List α} {p : α → α → Bool} (hl : l.length ≤ 32) (h : ∀ r, r < 33 → pre l r p = false) : l.Pairwise fun y x => p x y = false := by
  rw [List.pairwise_iff_getElem]
  intro i j hi hj hij
  have := h (j + 1) (by omega)
  rw [pre, List.getElem?_eq_getElem hj] at this
  simp only [Option.any_some] at this
  rw [List.any_eq_false] at this
  have := this i (List.mem_range.2 hij)
  rw [List.getElem?_eq_getElem hi] at this
  simpa using this
theorem good_of {t : Tab} (h : faults t = []) : Good t := by
  unfold faults at h
  cases hf : frameB t with
  | false => rw [hf] at h; simp at h
  | true =>
    rw [hf, if_pos rfl] at h
    have hb := fun k h1 h2 => rowsF_nil (allF_nil' h k h1 h2)
    have hf' := hf
    unfold frameB at hf'; simp only [decide_eq_true_eq] at hf'
    refine ⟨hf, ?_, ?_, ?_, ?_, ?_, ?_, ?_, ?_, ?_⟩
    · intro x hx
      have := ats_all (by omega) (hb 2 (by omega) (by omega)) x hx
      simpa using this
    · exact pre_all (by omega) (hb 3 (by omega) (by omega))
    · intro x hx
      have := ats_all (by omega) (hb 4 (by omega) (by omega)) x hx
      simpa using this
    · exact pre_all (by omega) (hb 5 (by omega) (by omega))
    · intro r hr
      have := hb 6 (by omega) (by omega) r (by omega)
      have e : (!(t.W.any fun w => decide (w.o = (r : Int))) && decide ((r : Int) ≤ t.C.length)) = false := this
      rw [decide_eq_true (show (r : Int) ≤ t.C.length by omega), Bool.and_true] at e
      simpa using e
    · exact hb 7 (by omega) (by omega) 0 (by omega)
    · intro x hx
      have := ats_all (by omega) (hb 8 (by omega) (by omega)) x hx
      simpa using this
    · exact pre_all (by omega) (hb 9 (by omega) (by omega))
    · intro i hi
      have : ats t.C (i + 1) (overU t ((i + 1 : Nat) : Int)) = false := hb 10 (by omega) (by omega) (i + 1) (by omega)
      rw [ats, List.getElem?_eq_getElem hi] at this
      exact this
theorem Good.nil {t : Tab} (g : Good t) : faults t = [] := by
  refine faults_nil g.frame fun k r h1 h2 h3 => ?_
  have hb : k = 2 ∨ k = 3 ∨ k = 4 ∨ k = 5 ∨ k = 6 ∨ k = 7 ∨ k = 8 ∨ k = 9 ∨ k = 10 := by omega
  rcases hb with rfl | rfl | rfl | rfl | rfl | rfl | rfl | rfl | rfl
  · exact ats_false (fun x hx => by simp [g.cok x hx]) r
  · exact pre_false g.cpair (fun x y _ _ h => h) r
  · exact ats_false (fun x hx => by simp [g.wok x hx]) r
  · exact pre_false g.wpair (fun x y _ _ h => h) r
  · show (!(t.W.any fun w => decide (w.o = (r : Int))) && decide ((r : Int) ≤ t.C.length)) = false
    by_cases c : r ≤ t.C.length
    · rw [g.own r c]; rfl
    · rw [decide_eq_false (by omega), Bool.and_false]
  · show ioW t r t.W = false
    by_cases c : r = 0
    · subst c; exact g.io
    · exact ioW_ne t r c _
  · exact ats_false (fun x hx => by simp [g.sok x hx]) r
  · exact pre_false g.spair (fun x y _ _ h => h) r
  · show ats t.C r (overU t r) = false
    unfold ats
    cases r with
    | zero => rfl
    | succ i =>
      simp only
      by_cases hi : i < t.C.length
      · rw [List.getElem?_eq_getElem hi]
        exact g.quota i hi
      · rw [List.getElem?_eq_none (by omega)]; rfl
end Go.Proofs.Ytehemoachikpgaa
end
