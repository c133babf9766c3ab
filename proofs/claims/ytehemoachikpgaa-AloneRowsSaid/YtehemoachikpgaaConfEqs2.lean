/-
  What functions of this program compute, as equations about the evaluator. No condition but those stated.
-/
import Derived.Test.YtehemoachikpgaaConfEqs
set_option linter.all false
section
namespace Go.Proofs.Ytehemoachikpgaa
open Go Go.PS
def ats {α : Type} (l : List α) (r : Nat) (p : α → Bool) : Bool := match r with | 0 => false | i + 1 => (l[i]?).any p
/-- Is there one ahead of row r that is so with it? -/
def pre {α : Type} (l : List α) (r : Nat) (p : α → α → Bool) : Bool := match r with | 0 => false | i + 1 => (l[i]?).any fun x => (List.range i).any fun k => (l[k]?).any (p x)
def pairC (x y : Cl) : Bool := decide x.ok && decide y.ok && (decide (x.id = y.id) || decide (x.irq = y.irq) || meets x.base (x.base + x.size) y.base (y.base + y.size) || meets x.hb (x.hb + x.hn) y.hb (y.hb + y.hn))
def pairW (x y : R3) : Bool := decide (x.o = y.o) || meets x.a x.b y.a y.b
def pairS (x y : R3) : Bool := meets x.a x.b y.a y.b
def ioW (t : Tab) (r : Nat) : List R3 → Bool
  | [] => false
  | w :: l => if r = 0 then (if w.o = 0 then okW t w && decide (w.b - w.a < 2 * (t.C.length : Int)) else ioW t r l) else false
def overU (t : Tab) (r : Int) (c : Cl) : Bool := decide (units t r t.S < c.n)
def hasB (t : Tab) : Nat → Nat → Bool
  | 2, r => ats t.C r fun c => !decide c.ok
  | 3, r => pre t.C r pairC
  | 4, r => ats t.W r fun w => !okW t w
  | 5, r => pre t.W r pairW
  | 6, r => !t.W.any (fun w => decide (w.o = r)) && decide ((r : Int) ≤ t.C.length)
  | 7, r => ioW t r t.W
  | 8, r => ats t.S r fun w => !okS t w
  | 9, r => pre t.S r pairS
  | _, r => ats t.C r (overU t r)
theorem any_range {α : Type} (p : α → Bool) : ∀ l : List α, (List.range l.length).any (fun k => (l[k]?).any p) = l.any p
  | [] => rfl
  | a :: l => by
    rw [List.length_cons, List.range_succ_eq_map, List.any_cons, List.any_map, List.any_cons, ← any_range p l]
    rfl
theorem ioW_ne (t : Tab) (r : Nat) (hr : r ≠ 0) (l : List R3) : ioW t r l = false := by
  cases l with
  | nil => rfl
  | cons w l => simp [ioW, hr]
theorem ioW_drop (t : Tab) (l : List R3) (k : Nat) (h : k < l.length) : ioW t 0 (l.drop k) = if l[k].o = 0 then okW t l[k] && decide (l[k].b - l[k].a < 2 * (t.C.length : Int)) else ioW t 0 (l.drop (k + 1)) := by
  rw [List.drop_eq_getElem_cons h, ioW]; rfl
end Go.Proofs.Ytehemoachikpgaa
end

section
namespace Go.Proofs.Ytehemoachikpgaa
open Go Go.PS
theorem f69_2 (n : Nat) (t : Tab) (i : Nat) (hp : Heap) (hi : i ≤ 40) : evalCall Try.prog hints (n + 5) 65 [.agg t.cells, .int .i64 2, .int .i64 ((i : Int) + 1)] hp = some (.bool (hasB t 2 (i + 1)), hp, false) := by
  have w0 := wrap_id (x := (i : Int)) (by omega)
  have lC := flat_len Cl.len t.C
  have e := fun c => f87g (n + 2) c hp
  rw [evalCall_at _ _ _ hh65 rfl Try.func65 rfl (Nat.le_of_ble_eq_true rfl) rfl]
  simp only [hasB, ats, Tab.cells]
  by_cases h : i < t.C.length
  · rw [List.getElem?_eq_getElem h]
    have r := flat_row Cl.len t.C i h
    have z : i * 10 + 10 ≤ t.C.length * 10 := by omega
    have e := e t.C[i]
    simp only [Option.any_some]
    generalize t.C[i] = c at *
    generalize hb : (!decide c.ok) = b at *
    clear hb
    obtain ⟨c1, c2, c3, c4, c5, c6, c7, c8, c9, c10⟩ := c
    simp only [Cl.cells] at *
    generalize t.S.flatMap _ = Y at *
    generalize t.W.flatMap _ = X at *
    generalize t.C.flatMap _ = Z at *
    simp [w0, h, lC, r, z, e]
  · rw [List.getElem?_eq_none (by omega)]
    simp only [Option.any_none]
    have h' : ¬ ((i : Int) < t.C.length) := by omega
    generalize t.S.flatMap _ = Y at *
    generalize t.W.flatMap _ = X at *
    generalize t.C.flatMap _ = Z at *
    simp [w0, h]
theorem f69_20 (n : Nat) (t : Tab) (hp : Heap) : evalCall Try.prog hints (n + 5) 65 [.agg t.cells, .int .i64 2, .int .i64 0] hp = some (.bool false, hp, false) := by
  have w0 := wrap_id (x := (-1 : Int)) (by omega)
  rw [evalCall_at _ _ _ hh65 rfl Try.func65 rfl (Nat.le_of_ble_eq_true rfl) rfl]
  simp only [Tab.cells]
  generalize t.S.flatMap _ = Y at *
  generalize t.W.flatMap _ = X at *
  generalize t.C.flatMap _ = Z at *
  simp [w0]
end Go.Proofs.Ytehemoachikpgaa
end

section
namespace Go.Proofs.Ytehemoachikpgaa
open Go Go.PS
set_option maxHeartbeats 2000000 in
theorem f69_3 (n : Nat) (t : Tab) (i : Nat) (hp : Heap) (hi : i ≤ 40) (hn : 60 < n) : evalCall Try.prog hints (n + 5) 65 [.agg t.cells, .int .i64 3, .int .i64 ((i : Int) + 1)] hp = some (.bool (hasB t 3 (i + 1)), hp, false) := by
  have w0 := wrap_id (x := (i : Int)) (by omega)
  have lC := flat_len Cl.len t.C
  have e := fun c => f87g (n + 2) c hp
  have rr := fun k h => flat_row Cl.len t.C k h
  rw [evalCall_at _ _ _ hh65 rfl Try.func65 rfl (Nat.le_of_ble_eq_true rfl) rfl]
  simp only [hasB, pre, Tab.cells]
  obtain ⟨f, W, S, C⟩ := t
  simp only at *
  generalize S.flatMap _ = Y at *
  generalize W.flatMap _ = X at *
  generalize C.flatMap _ = Z at *
  by_cases h : i < C.length
  · rw [List.getElem?_eq_getElem h]
    have r := rr i h
    have z : i * 10 + 10 ≤ C.length * 10 := by omega
    simp only [Option.any_some]
    generalize hB : (List.range i).any _ = B
    simp [w0]
    rw [iter_find' (fun k => { fr := [(3, .box [.int .i64 f, .sl .sh W.length X, .sl .sh S.length Y, .sl .sh C.length Z]), (7, .int .i64 i), (8, .int .i64 k)], hp := hp, base := hp.length, dirty := false }) (fun k => (C[k]?).any (pairC C[i])) (.ret, { fr := [(6, .bool true)], hp := hp, base := hp.length, dirty := false }) (.exit 1, { fr := [(3, .box [.int .i64 f, .sl .sh W.length X, .sl .sh S.length Y, .sl .sh C.length Z]), (7, .int .i64 i), (8, .int .i64 i), (52, .bool false)], hp := hp, base := hp.length, dirty := false }) i]
    · rw [hB]
      cases B <;> simp
    · simp
    · omega
    · intro k hk
      rw [List.getElem?_eq_getElem (by omega)]
      have r' := rr k (by omega)
      have hk' : k < C.length := by omega
      have z' : k * 10 + 10 ≤ C.length * 10 := by omega
      have e0 := e C[i]
      have e1 := e C[k]
      simp only [Option.any_some]
      generalize C[i] = x at r e0 ⊢
      generalize C[k] = y at r' e1 ⊢
      have w1 := wrap_id (x := (k : Int) + 1) (by omega)
      have e2 : x.ok → y.ok → evalCall Try.prog hints (n + 4) 88 [.int .i64 x.base, .int .i64 x.size, .int .i64 y.base, .int .i64 y.size] hp = some (.bool (meets x.base (x.base + x.size) y.base (y.base + y.size)), hp, false) := fun h1 h2 => by
        unfold Cl.ok at h1 h2
        exact f88 n _ _ _ _ hp (by omega) (by omega) (by omega) (by omega)
      have e3 : x.ok → y.ok → evalCall Try.prog hints (n + 4) 88 [.int .i64 x.hb, .int .i64 x.hn, .int .i64 y.hb, .int .i64 y.hn] hp = some (.bool (meets x.hb (x.hb + x.hn) y.hb (y.hb + y.hn)), hp, false) := fun h1 h2 => by
        unfold Cl.ok at h1 h2
        exact f88 n _ _ _ _ hp (by omega) (by omega) (by omega) (by omega)
      obtain ⟨P, hP⟩ : ∃ P, P = pairC x y := ⟨_, rfl⟩
      rw [← hP]
      unfold pairC at hP
      generalize meets x.base (x.base + x.size) y.base (y.base + y.size) = m1 at e2 hP
      generalize meets x.hb (x.hb + x.hn) y.hb (y.hb + y.hn) = m2 at e3 hP
      by_cases h1 : x.ok
      · by_cases h2 : y.ok
        · have e2 := e2 h1 h2
          have e3 := e3 h1 h2
          simp only [h1, h2, decide_true, Bool.not_true, Bool.true_and] at *
          clear h1 h2
          obtain ⟨base, size, q, at_, nn, pr, id, irq, hb, hn⟩ := x
          obtain ⟨base', size', q', at_', nn', pr', id', irq', hb', hn'⟩ := y
          simp only [Cl.cells] at *
          by_cases c1 : id = id'
          · subst c1
            simp at hP
            simp [h, hk, hk', lC, r, r', z, z', w1, e0, e1, hP]
          have c1' : (id == id') = false := by simp [c1]
          by_cases c2 : irq = irq'
          · subst c2
            simp at hP
            simp [h, hk, hk', lC, r, r', z, z', w1, e0, e1, c1, c1', hP]
          have c2' : (irq == irq') = false := by simp [c2]
          simp only [c1, c2, decide_false, Bool.false_or] at hP
          cases m1 with
          | true =>
            simp only [Bool.true_or] at hP
            simp [h, hk, hk', lC, r, r', z, z', w1, e0, e1, c1, c1', c2, c2', e2, hP]
          | false =>
            simp only [Bool.false_or] at hP
            subst hP
            cases P <;> simp [h, hk, hk', lC, r, r', z, z', w1, e0, e1, c1, c1', c2, c2', e2, e3]
        · simp only [h1, h2, decide_true, decide_false, Bool.not_true, Bool.not_false, Bool.false_and, Bool.and_false] at *
          clear h1 h2 e2 e3
          obtain ⟨base, size, q, at_, nn, pr, id, irq, hb, hn⟩ := x
          obtain ⟨base', size', q', at_', nn', pr', id', irq', hb', hn'⟩ := y
          simp only [Cl.cells] at *
          simp [h, hk, hk', lC, r, r', z, z', w1, e0, e1, hP]
      · simp only [h1, decide_false, Bool.not_false, Bool.false_and] at *
        clear h1 e2 e3 e1
        obtain ⟨base, size, q, at_, nn, pr, id, irq, hb, hn⟩ := x
        obtain ⟨base', size', q', at_', nn', pr', id', irq', hb', hn'⟩ := y
        simp only [Cl.cells] at *
        simp [h, hk, hk', lC, r, r', z, z', w1, e0, hP]
    · simp [h]
    · simp
    · simp
  · rw [List.getElem?_eq_none (by omega)]
    simp only [Option.any_none]
    simp [w0]
    rw [iter_count (fun k => { fr := [(3, .box [.int .i64 f, .sl .sh W.length X, .sl .sh S.length Y, .sl .sh C.length Z]), (7, .int .i64 i), (8, .int .i64 k)], hp := hp, base := hp.length, dirty := false }) (.exit 1, { fr := [(3, .box [.int .i64 f, .sl .sh W.length X, .sl .sh S.length Y, .sl .sh C.length Z]), (7, .int .i64 i), (8, .int .i64 0), (52, .bool false)], hp := hp, base := hp.length, dirty := false }) 0]
    · simp
    · simp
    · omega
    · intro k hk; omega
    · have h' : ¬ ((i : Int) < C.length) := by omega
      by_cases h0 : 0 < i
      · simp [h, h0]
      · simp [h0]
    · simp
end Go.Proofs.Ytehemoachikpgaa
end

section
namespace Go.Proofs.Ytehemoachikpgaa
open Go Go.PS
set_option maxHeartbeats 2000000 in
theorem f69_5 (n : Nat) (t : Tab) (i : Nat) (hp : Heap) (hi : i ≤ 40) (hn : 60 < n) : evalCall Try.prog hints (n + 5) 65 [.agg t.cells, .int .i64 5, .int .i64 ((i : Int) + 1)] hp = some (.bool (hasB t 5 (i + 1)), hp, false) := by
  have w0 := wrap_id (x := (i : Int)) (by omega)
  have lC := flat_len R3.len t.W
  have rr := fun k h => flat_row R3.len t.W k h
  have e := fun a b c d => f63 (n + 1) a b c d hp
  rw [evalCall_at _ _ _ hh65 rfl Try.func65 rfl (Nat.le_of_ble_eq_true rfl) rfl]
  simp only [hasB, pre, Tab.cells]
  obtain ⟨f, W, S, C⟩ := t
  simp only at *
  generalize S.flatMap _ = Y at *
  generalize W.flatMap _ = X at *
  generalize C.flatMap _ = Z at *
  by_cases h : i < W.length
  · rw [List.getElem?_eq_getElem h]
    have r := rr i h
    have z : i * 3 + 3 ≤ W.length * 3 := by omega
    simp only [Option.any_some]
    generalize hB : (List.range i).any _ = B
    simp [w0]
    rw [iter_find' (fun k => { fr := [(3, .box [.int .i64 f, .sl .sh W.length X, .sl .sh S.length Y, .sl .sh C.length Z]), (7, .int .i64 i), (11, .int .i64 k)], hp := hp, base := hp.length, dirty := false }) (fun k => (W[k]?).any (pairW W[i])) (.ret, { fr := [(6, .bool true)], hp := hp, base := hp.length, dirty := false }) (.exit 3, { fr := [(3, .box [.int .i64 f, .sl .sh W.length X, .sl .sh S.length Y, .sl .sh C.length Z]), (7, .int .i64 i), (11, .int .i64 i), (140, .bool false)], hp := hp, base := hp.length, dirty := false }) i]
    · rw [hB]
      cases B <;> simp
    · simp
    · omega
    · intro k hk
      rw [List.getElem?_eq_getElem (by omega)]
      have r' := rr k (by omega)
      have hk' : k < W.length := by omega
      have z' : k * 3 + 3 ≤ W.length * 3 := by omega
      simp only [Option.any_some]
      generalize W[i] = x at r ⊢
      generalize W[k] = y at r' ⊢
      have w1 := wrap_id (x := (k : Int) + 1) (by omega)
      have e := e x.a x.b y.a y.b
      obtain ⟨P, hP⟩ : ∃ P, P = pairW x y := ⟨_, rfl⟩
      rw [← hP]
      unfold pairW at hP
      generalize meets x.a x.b y.a y.b = m1 at e hP
      obtain ⟨o, a, b⟩ := x
      obtain ⟨o', a', b'⟩ := y
      simp only [R3.cells] at *
      by_cases c1 : o = o'
      · subst c1
        simp at hP
        simp [h, hk, hk', lC, r, r', z, z', w1, hP]
      · have c1' : (o == o') = false := by simp [c1]
        simp only [c1, decide_false, Bool.false_or] at hP
        subst hP
        cases P <;> simp [h, hk, hk', lC, r, r', z, z', w1, c1, c1', e]
    · simp [h]
    · simp
    · simp
  · rw [List.getElem?_eq_none (by omega)]
    simp only [Option.any_none]
    simp [w0]
    rw [iter_count (fun k => { fr := [(3, .box [.int .i64 f, .sl .sh W.length X, .sl .sh S.length Y, .sl .sh C.length Z]), (7, .int .i64 i), (11, .int .i64 k)], hp := hp, base := hp.length, dirty := false }) (.exit 3, { fr := [(3, .box [.int .i64 f, .sl .sh W.length X, .sl .sh S.length Y, .sl .sh C.length Z]), (7, .int .i64 i), (11, .int .i64 0), (140, .bool false)], hp := hp, base := hp.length, dirty := false }) 0]
    · simp
    · simp
    · omega
    · intro k hk; omega
    · have h' : ¬ ((i : Int) < W.length) := by omega
      by_cases h0 : 0 < i
      · simp [h, h0]
      · simp [h0]
    · simp
end Go.Proofs.Ytehemoachikpgaa
end
