/-
  What functions of this program compute, as equations about the evaluator. No condition but those stated.
-/
import Derived.Test.YtknoiemnpllapaaGreatEqsD
import Derived.Test.YtknoiemnpllapaaGreatEqsE
import Derived.Test.YtknoiemnpllapaaGreatEqsF
import Derived.Test.YtknoiemnpllapaaGreatEqsG
import Derived.Test.YtknoiemnpllapaaGreatEqsH

set_option linter.all false
section
namespace Go.Proofs.YtknoiemnpllapaaGreat
open Go Go.PS
structure F2 where
  r : Int
  k : Int
  deriving DecidableEq
def F2.cells (c : F2) : List PV := [.int .i64 c.r, .int .i64 c.k]
theorem F2.len (c : F2) : c.cells.length = 2 := rfl
def rowsF (t : Tab) (k : Nat) : Nat → List F2
  | 0 => []
  | r + 1 => rowsF t k r ++ if hasB t k r = true then [⟨r, k⟩] else []
def allF (t : Tab) : Nat → List F2
  | 0 => []
  | j + 1 => allF t j ++ rowsF t (j + 2) 33
def faults (t : Tab) : List F2 := if frameB t = true then allF t 9 else [⟨0, 1⟩]
theorem rowsF_len (t : Tab) (k : Nat) : ∀ r, (rowsF t k r).length ≤ r
  | 0 => by simp [rowsF]
  | r + 1 => by
    have := rowsF_len t k r
    rw [rowsF]; split <;> simp <;> omega
theorem allF_len (t : Tab) : ∀ j, (allF t j).length ≤ 33 * j
  | 0 => by simp [allF]
  | j + 1 => by
    have := allF_len t j
    have := rowsF_len t (j + 2) 33
    rw [allF, List.length_append]; omega
theorem mem2 {a b j : Nat} (ha : a ≤ 33 * j) (hb : b ≤ 33) (hj : j ≤ 9) : (a + b + 1) * 16 ≤ 140737488355328 := by omega
theorem ar2 (a : Nat) : a * 2 + 2 = (a + 1) * 2 := by omega
set_option maxHeartbeats 1000000 in
theorem f5 (n : Nat) (t : Tab) (hp : Heap) (hn : 100 < n)
    (has : frameB t = true → ∀ (k r : Nat), 2 ≤ k → k ≤ 10 → r ≤ 32 → evalCall Tryz.prog hints (n + 5) 14 [.agg t.cells, .int .i64 k, .int .i64 r] hp = some (.bool (hasB t k r), hp, false)) (e68 : evalCall Tryz.prog hints (n + 5) 13 [.agg t.cells] hp = some (.bool (frameB t), hp, false)) :
    evalCall Tryz.prog hints (n + 6) 5 [.agg t.cells] hp = some (.sl (.mu 2) (faults t).length ((faults t).flatMap F2.cells), hp, false) := by
  rw [evalCall_at _ _ _ hh5 rfl Tryz.func5 rfl (Nat.le_of_ble_eq_true rfl) rfl]
  have hA := allF_len t
  have hR := rowsF_len t
  simp only [Tab.cells] at *
  unfold faults
  cases hf : frameB t with
  | false =>
    rw [hf] at e68
    generalize t.S.flatMap _ = Y at *
    generalize t.W.flatMap _ = X at *
    generalize t.C.flatMap _ = Z at *
    simp [e68, F2.cells]
  | true =>
    rw [hf] at e68
    have has := has hf
    simp only [if_true]
    generalize t.S.flatMap _ = Y at *
    generalize t.W.flatMap _ = X at *
    generalize t.C.flatMap _ = Z at *
    simp [e68]
    rw [iter_count (fun j => { fr := [(1, .box [.int .i64 t.f, .sl .sh t.W.length X, .sl .sh t.S.length Y, .sl .sh t.C.length Z]), (3, .sl (.mu 2) (allF t j).length ((allF t j).flatMap F2.cells)), (4, .int .i64 (2 + j))], hp := hp, base := hp.length, dirty := false })
      (.exit 0, { fr := [(1, .box [.int .i64 t.f, .sl .sh t.W.length X, .sl .sh t.S.length Y, .sl .sh t.C.length Z]), (3, .sl (.mu 2) (allF t 9).length ((allF t 9).flatMap F2.cells)), (4, .int .i64 11), (13, .bool false)], hp := hp, base := hp.length, dirty := false }) 9]
    · generalize (allF t 9).flatMap _ = Q
      simp
    · simp [allF]
    · omega
    · intro j hj
      have w1 := wrap_id (x := 2 + (j : Int) + 1) (by omega)
      have c1 : 2 + (j : Int) ≤ 10 := by omega
      have hA := hA j
      rw [allF, List.length_append, List.flatMap_append]
      generalize hB : allF t j = B at *
      simp [c1]
      rw [iter_count (fun r => { fr := [(1, .box [.int .i64 t.f, .sl .sh t.W.length X, .sl .sh t.S.length Y, .sl .sh t.C.length Z]), (3, .sl (.mu 2) (B.length + (rowsF t (j + 2) r).length) (B.flatMap F2.cells ++ (rowsF t (j + 2) r).flatMap F2.cells)), (4, .int .i64 (2 + j)), (5, .int .i64 r)], hp := hp, base := hp.length, dirty := false })
        (.exit 2, { fr := [(1, .box [.int .i64 t.f, .sl .sh t.W.length X, .sl .sh t.S.length Y, .sl .sh t.C.length Z]), (3, .sl (.mu 2) (B.length + (rowsF t (j + 2) 33).length) (B.flatMap F2.cells ++ (rowsF t (j + 2) 33).flatMap F2.cells)), (4, .int .i64 (2 + j)), (5, .int .i64 33), (17, .bool false)], hp := hp, base := hp.length, dirty := false }) 33]
      · generalize B.flatMap _ = Q
        generalize (rowsF t (j + 2) 33).flatMap _ = Q'
        simp [w1]
        omega
      · simp [rowsF]
      · omega
      · intro r hr
        have e := has (j + 2) r (by omega) (by omega) (by omega)
        rw [show ((j + 2 : Nat) : Int) = 2 + (j : Int) by omega] at e
        have w2 := wrap_id (x := (r : Int) + 1) (by omega)
        have c2 : (r : Int) ≤ 32 := by omega
        have c2' : r ≤ 32 := by omega
        have hR := hR (j + 2) r
        have m1 := mem2 hA (Nat.le_trans hR (Nat.le_of_lt hr)) (Nat.le_of_lt hj)
        have a1 := ar2 (B.length + (rowsF t (j + 2) r).length)
        have lB := flat_len F2.len B
        have lR := flat_len F2.len (rowsF t (j + 2) r)
        rw [rowsF]
        generalize rowsF t (j + 2) r = D at *
        have a2 : (B.flatMap F2.cells ++ D.flatMap F2.cells).length = (B.length + D.length) * 2 := by rw [List.length_append]; omega
        cases hb : hasB t (j + 2) r with
        | true =>
          rw [hb] at e
          simp only [if_true, List.flatMap_append, List.flatMap_cons, List.flatMap_nil, List.append_nil, List.length_append, List.length_cons, List.length_nil, F2.cells]
          rw [← List.append_assoc, ← Nat.add_assoc, show ((j + 2 : Nat) : Int) = 2 + (j : Int) by omega]
          generalize B.flatMap F2.cells ++ D.flatMap F2.cells = Q at *
          generalize B.length + D.length = q at *
          simp [c2, c2', e, w2, a2, a1, m1]
        | false =>
          rw [hb] at e
          simp only [Bool.false_eq_true, if_false, List.append_nil]
          generalize B.flatMap F2.cells ++ D.flatMap F2.cells = Q at *
          generalize B.length + D.length = q at *
          simp [c2, c2', e, w2]
      · simp
      · simp
    · simp
    · simp
end Go.Proofs.YtknoiemnpllapaaGreat
end

section
namespace Go.Proofs.YtknoiemnpllapaaGreat
open Go Go.PS
theorem f14 (n : Nat) (t : Tab) (k r : Nat) (hp : Heap) (hf : frameB t = true) (h2 : 2 ≤ k) (h10 : k ≤ 10) (hr : r ≤ 32) (hn : 60 < n) : evalCall Tryz.prog hints (n + 5) 14 [.agg t.cells, .int .i64 k, .int .i64 r] hp = some (.bool (hasB t k r), hp, false) := by
  rcases (by omega : k = 2 ∨ k = 3 ∨ k = 4 ∨ k = 5 ∨ k = 6 ∨ k = 7 ∨ k = 8 ∨ k = 9 ∨ k = 10) with h | h | h | h | h | h | h | h | h <;> subst h
  · cases r with
    | zero => exact f69_z2 n t hp hn
    | succ i => exact f69_2 n t i hp (by omega)
  · cases r with
    | zero => exact f69_z3 n t hp hn
    | succ i => exact f69_3 n t i hp (by omega) hn
  · cases r with
    | zero => exact f69_z4 n t hp hn
    | succ i => exact f69_4 n t i hp hf (by omega) hn
  · cases r with
    | zero => exact f69_z5 n t hp hn
    | succ i => exact f69_5 n t i hp (by omega) hn
  · exact f69_6 n t r hp hf (by omega) hn
  · by_cases h : r = 0
    · subst h; exact f69_7 n t hp hf hn
    · exact f69_7n n t r hp h (by omega) hn
  · cases r with
    | zero => exact f69_z8 n t hp hn
    | succ i => exact f69_8 n t i hp hf (by omega) hn
  · cases r with
    | zero => exact f69_z9 n t hp hn
    | succ i => exact f69_9 n t i hp (by omega) hn
  · cases r with
    | zero => exact f69_z10 n t hp hn
    | succ i => exact f69_10 n t i hp hf (by omega) hn
theorem f5' (n : Nat) (t : Tab) (hp : Heap) (hn : 100 < n) : evalCall Tryz.prog hints (n + 6) 5 [.agg t.cells] hp = some (.sl (.mu 2) (faults t).length ((faults t).flatMap F2.cells), hp, false) :=
  f5 n t hp hn (fun hf k r h1 h2 h3 => f14 n t k r hp hf h1 h2 h3 (by omega)) (f13 (n + 4) t hp)
theorem allF_nil (t : Tab) (h : ∀ k r, 2 ≤ k → k ≤ 10 → r ≤ 32 → hasB t k r = false) : ∀ j, j ≤ 9 → allF t j = []
  | 0, _ => rfl
  | j + 1, hj => by
    have : ∀ r, r ≤ 33 → rowsF t (j + 2) r = [] := by
      intro r
      induction r with
      | zero => intro _; rfl
      | succ r ih => intro hr; rw [rowsF, ih (by omega), h (j + 2) r (by omega) (by omega) (by omega)]; rfl
    rw [allF, allF_nil t h j (by omega), this 33 (by omega)]; rfl
theorem faults_nil {t : Tab} (hf : frameB t = true) (h : ∀ k r, 2 ≤ k → k ≤ 10 → r ≤ 32 → hasB t k r = false) : faults t = [] := by
  unfold faults; rw [if_pos hf, allF_nil t h 9 (by omega)]
theorem ats_false {α : Type} {l : List α} {p : α → Bool} (h : ∀ x ∈ l, p x = false) (r : Nat) : ats l r p = false := by
  unfold ats; cases r with
  | zero => rfl
  | succ i =>
    simp only
    cases hx : l[i]? with
    | none => rfl
    | some x => exact h x (List.mem_of_getElem? hx)
theorem pre_false {α : Type} {l : List α} {p : α → α → Bool} {R : α → α → Prop} (hw : l.Pairwise R) (h : ∀ x y, x ∈ l → y ∈ l → R y x → p x y = false) (r : Nat) : pre l r p = false := by
  unfold pre; cases r with
  | zero => rfl
  | succ i =>
    simp only
    cases hx : l[i]? with
    | none => rfl
    | some x =>
      simp only [Option.any_some]
      rw [List.any_eq_false]
      intro k hk
      have hk : k < i := by simpa using hk
      cases hy : l[k]? with
      | none => simp
      | some y =>
        obtain ⟨i1, i2⟩ := List.getElem?_eq_some_iff.1 hx
        obtain ⟨k1, k2⟩ := List.getElem?_eq_some_iff.1 hy
        have := List.pairwise_iff_getElem.1 hw k i k1 i1 hk
        rw [i2, k2] at this
        simp only [Option.any_some]
        rw [h x y (List.mem_of_getElem? hx) (List.mem_of_getElem? hy) this]
        simp
end Go.Proofs.YtknoiemnpllapaaGreat
end
