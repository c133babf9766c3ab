/-
  What functions of this program compute, as equations about the evaluator. No condition but those stated.
-/
import Derived.Test.YtehemoachikpgaaFacts
set_option linter.all false
section
/-
  A loop that looks for something.
-/
namespace Go.PS
theorem iter_find {body : St → Option (Ex × St)} (s : Nat → St) (p : Nat → Bool) (hit out : Ex × St) : ∀ (N fuel : Nat) (st : St), st = s 0 → N < fuel →
    (∀ k, k < N → p k = false → body (s k) = some (.normal, s (k + 1))) → (∀ k, k < N → p k = true → body (s k) = some hit) → body (s N) = some out → (hit.1 = .normal → False) → (out.1 = .normal → False) →
    iter body fuel st = some (if (List.range N).any p then hit else out)
  | _, 0, _, _, h, _, _, _, _, _ => by omega
  | 0, fuel + 1, st, h0, _, _, _, he, _, hn => by
    subst h0
    simp only [iter, he]
    split
    · rename_i h; cases h; exact (hn rfl).elim
    · rfl
  | N + 1, fuel + 1, st, h0, hf, hs, hh, he, hn1, hn2 => by
    subst h0
    cases hp : p 0 with
    | true =>
      simp only [iter, hh 0 (by omega) hp]
      rw [if_pos (List.any_eq_true.2 ⟨0, by simp, hp⟩)]
      split
      · rename_i h; cases h; exact (hn1 rfl).elim
      · rfl
    | false =>
      simp only [iter, hs 0 (by omega) hp]
      rw [iter_find (fun k => s (k + 1)) (fun k => p (k + 1)) hit out N fuel _ rfl (by omega) (fun k hk => hs (k + 1) (by omega)) (fun k hk => hh (k + 1) (by omega)) he hn1 hn2]
      congr 1
      have : (List.range (N + 1)).any p = (List.range N).any fun k => p (k + 1) := by
        rw [List.range_succ_eq_map, List.any_cons, hp, Bool.false_or, List.any_map]; rfl
      rw [this]
theorem iter_find' {body : St → Option (Ex × St)} (s : Nat → St) (p : Nat → Bool) (hit out : Ex × St) (N fuel : Nat) (st : St) (h0 : st = s 0) (hN : N < fuel)
    (hs : ∀ k, k < N → body (s k) = some (cond (p k) hit (.normal, s (k + 1)))) (ho : body (s N) = some out) (h1 : hit.1 = .normal → False) (h2 : out.1 = .normal → False) :
    iter body fuel st = some (cond ((List.range N).any p) hit out) := by
  rw [iter_find s p hit out N fuel st h0 hN (fun k hk h => by rw [hs k hk, h]; rfl) (fun k hk h => by rw [hs k hk, h]; rfl) ho h1 h2]
  cases (List.range N).any p <;> rfl
theorem find_succ (p : Nat → Bool) (N : Nat) : (List.range (N + 1)).find? p = if p 0 = true then some 0 else ((List.range N).find? fun k => p (k + 1)).map (· + 1) := by
  rw [List.range_succ_eq_map, List.find?_cons]
  cases p 0 with
  | true => rfl
  | false => simp [List.find?_map]; rfl
theorem iter_idx {body : St → Option (Ex × St)} (s : Nat → St) (p : Nat → Bool) (hit : Nat → Ex × St) (out : Ex × St) : ∀ (N fuel : Nat) (st : St), st = s 0 → N < fuel →
    (∀ k, k < N → body (s k) = some (cond (p k) (hit k) (.normal, s (k + 1)))) → body (s N) = some out → (∀ k, (hit k).1 = .normal → False) → (out.1 = .normal → False) →
    iter body fuel st = some (match (List.range N).find? p with | some k => hit k | none => out)
  | _, 0, _, _, h, _, _, _, _ => by omega
  | 0, fuel + 1, st, h0, _, _, he, _, hn => by
    subst h0
    simp only [iter, he]
    split
    · rename_i h; cases h; exact (hn rfl).elim
    · rfl
  | N + 1, fuel + 1, st, h0, hf, hs, he, hn1, hn2 => by
    subst h0
    have h0 := hs 0 (by omega)
    rw [find_succ]
    cases hp : p 0 with
    | true =>
      rw [hp] at h0
      simp only [cond_true] at h0
      simp only [iter, h0, if_true]
      split
      · rename_i h; exact (hn1 0 (by rw [Option.some.inj h])).elim
      · rfl
    | false =>
      rw [hp] at h0
      simp only [cond_false] at h0
      simp only [iter, h0, Bool.false_eq_true, if_false]
      rw [iter_idx (fun k => s (k + 1)) (fun k => p (k + 1)) (fun k => hit (k + 1)) out N fuel _ rfl (by omega) (fun k hk => hs (k + 1) (by omega)) he (fun k => hn1 (k + 1)) hn2]
      cases (List.range N).find? fun k => p (k + 1) <;> rfl
/-- Where the first one is that is so. -/
def idx {α : Type} (q : α → Bool) : List α → Option Nat
  | [] => none
  | a :: l => if q a = true then some 0 else (idx q l).map (· + 1)
theorem idx_range {α : Type} (q : α → Bool) : ∀ l : List α, (List.range l.length).find? (fun k => (l[k]?).any q) = idx q l
  | [] => rfl
  | a :: l => by
    rw [List.length_cons, find_succ, idx, ← idx_range q l]
    rfl
theorem idx_lt {α : Type} {q : α → Bool} : ∀ {l : List α} {i : Nat}, idx q l = some i → ∃ h : i < l.length, q l[i] = true
  | a :: l, i, h => by
    rw [idx] at h
    split at h
    · rename_i hq; cases h; exact ⟨by simp, hq⟩
    · cases hi : idx q l with
      | none => rw [hi] at h; cases h
      | some k =>
        rw [hi] at h
        cases h
        obtain ⟨h1, h2⟩ := idx_lt hi
        exact ⟨by simp; omega, by simpa using h2⟩
theorem idx_none {α : Type} {q : α → Bool} : ∀ {l : List α}, idx q l = none ↔ l.any q = false
  | [] => by simp [idx]
  | a :: l => by
    rw [idx, List.any_cons]
    cases hq : q a with
    | true => simp
    | false =>
      simp only [Bool.false_eq_true, if_false, Bool.false_or]
      rw [← idx_none (l := l)]
      cases idx q l <;> simp
def idxI (o : Option Nat) : Int := match o with | some k => k | none => -1
end Go.PS
end

section
namespace Go.Proofs.Ytehemoachikpgaa
open Go Go.PS
/-- The words of a ring of q. -/
def ring (q : Int) : Int := if q = 1 ∨ q = 2 ∨ q = 4 ∨ q = 8 ∨ q = 16 then 2 + 8 * q else 0
theorem f67 (n : Nat) (q : Int) (hp : Heap) : evalCall Try.prog hints (n + 1) 67 [.int .i64 q] hp = some (.int .i64 (ring q), hp, false) := by
  rw [evalCall_at _ _ _ hh67 rfl Try.func67 rfl (Nat.le_of_ble_eq_true rfl) rfl]
  unfold ring
  by_cases h1 : q = 1
  · subst h1; simp [wrap_id (x := 8) (by omega), wrap_id (x := 10) (by omega)]
  by_cases h2 : q = 2
  · subst h2; simp [wrap_id (x := 16) (by omega), wrap_id (x := 18) (by omega)]
  by_cases h4 : q = 4
  · subst h4; simp [wrap_id (x := 32) (by omega), wrap_id (x := 34) (by omega)]
  by_cases h8 : q = 8
  · subst h8; simp [wrap_id (x := 64) (by omega), wrap_id (x := 66) (by omega)]
  by_cases h16 : q = 16
  · subst h16; simp [wrap_id (x := 128) (by omega), wrap_id (x := 130) (by omega)]
  have e1 : (q == 1) = false := by simp [h1]
  have e2 : (q == 2) = false := by simp [h2]
  have e4 : (q == 4) = false := by simp [h4]
  have e8 : (q == 8) = false := by simp [h8]
  have e16 : (q == 16) = false := by simp [h16]
  simp [e1, e2, e4, e8, e16, h1, h2, h4, h8, h16]
end Go.Proofs.Ytehemoachikpgaa
end

section
namespace Go.Proofs.Ytehemoachikpgaa
open Go Go.PS
/-- Does the window [a, b) hold x? -/
def holds (a b x : Int) : Bool := decide (0 ≤ a ∧ a ≤ x ∧ x < b)
theorem f25 (n : Nat) (a b x : Int) (hp : Heap) : evalCall Try.prog hints (n + 1) 25 [.agg [.int .i64 a, .int .i64 b], .int .i64 x] hp = some (.bool (holds a b x), hp, false) := by
  rw [evalCall_at _ _ _ hh25 rfl Try.func25 rfl (Nat.le_of_ble_eq_true rfl) rfl]
  unfold holds
  by_cases h1 : 0 ≤ a
  · have h1' : ¬ a < 0 := by omega
    by_cases h2 : a ≤ x
    · have h2' : ¬ x < a := by omega
      simp [h1, h2, h1', h2']
    · have h2' : x < a := by omega
      simp [h1, h2, h1', h2']
  · have h1' : a < 0 := by omega
    simp [h1, h1']
theorem f86 (n : Nat) (a b : Int) (hp : Heap) : evalCall Try.prog hints (n + 2) 86 [.agg [.int .i64 a, .int .i64 b]] hp = some (.bool (decide (0 ≤ a ∧ a < b)), hp, false) := by
  have e := fun hp => f25 n a b a hp
  rw [evalCall_at _ _ _ hh86 rfl Try.func86 rfl (Nat.le_of_ble_eq_true rfl) rfl]
  simp [e, holds]
/-- Do two windows meet? -/
def meets (a b c d : Int) : Bool := decide (0 ≤ a ∧ a < b) && decide (0 ≤ c ∧ c < d) && (holds a b c || holds c d a)
theorem f63 (n : Nat) (a b c d : Int) (hp : Heap) : evalCall Try.prog hints (n + 3) 63 [.agg [.int .i64 a, .int .i64 b], .agg [.int .i64 c, .int .i64 d]] hp = some (.bool (meets a b c d), hp, false) := by
  have e1 := fun hp => f86 n a b hp
  have e2 := fun hp => f86 n c d hp
  have e3 := fun hp => f25 (n + 1) a b c hp
  have e4 := fun hp => f25 (n + 1) c d a hp
  rw [evalCall_at _ _ _ hh63 rfl Try.func63 rfl (Nat.le_of_ble_eq_true rfl) rfl]
  unfold meets
  generalize decide (0 ≤ a ∧ a < b) = x at *
  generalize decide (0 ≤ c ∧ c < d) = y at *
  generalize holds a b c = z at *
  generalize holds c d a = w at *
  cases x <;> cases y <;> cases z <;> simp [e1, e2, e3, e4]
theorem f88 (n : Nat) (a b c d : Int) (hp : Heap) (h1 : -100000 ≤ a ∧ a ≤ 100000) (h2 : -100000 ≤ b ∧ b ≤ 100000) (h3 : -100000 ≤ c ∧ c ≤ 100000) (h4 : -100000 ≤ d ∧ d ≤ 100000) :
    evalCall Try.prog hints (n + 4) 88 [.int .i64 a, .int .i64 b, .int .i64 c, .int .i64 d] hp = some (.bool (meets a (a + b) c (c + d)), hp, false) := by
  have e := fun hp => f63 n a (a + b) c (c + d) hp
  have w1 := wrap_id (x := a + b) (by omega)
  have w2 := wrap_id (x := c + d) (by omega)
  rw [evalCall_at _ _ _ hh88 rfl Try.func88 rfl (Nat.le_of_ble_eq_true rfl) rfl]
  simp [e, w1, w2]
theorem f119 (n : Nat) (q : Int) (hp : Heap) : evalCall Try.prog hints (n + 1) 119 [.int .i64 q] hp = some (.int .i64 (ring q), hp, false) := by
  rw [evalCall_at _ _ _ hh119 rfl Try.func119 rfl (Nat.le_of_ble_eq_true rfl) rfl]
  unfold ring
  by_cases h1 : q = 1
  · subst h1; simp [wrap_id (x := 8) (by omega), wrap_id (x := 10) (by omega)]
  by_cases h2 : q = 2
  · subst h2; simp [wrap_id (x := 16) (by omega), wrap_id (x := 18) (by omega)]
  by_cases h4 : q = 4
  · subst h4; simp [wrap_id (x := 32) (by omega), wrap_id (x := 34) (by omega)]
  by_cases h8 : q = 8
  · subst h8; simp [wrap_id (x := 64) (by omega), wrap_id (x := 66) (by omega)]
  by_cases h16 : q = 16
  · subst h16; simp [wrap_id (x := 128) (by omega), wrap_id (x := 130) (by omega)]
  have e1 : (q == 1) = false := by simp [h1]
  have e2 : (q == 2) = false := by simp [h2]
  have e4 : (q == 4) = false := by simp [h4]
  have e8 : (q == 8) = false := by simp [h8]
  have e16 : (q == 16) = false := by simp [h16]
  simp [e1, e2, e4, e8, e16, h1, h2, h4, h8, h16]
end Go.Proofs.Ytehemoachikpgaa
end

section
namespace Go.Proofs.Ytehemoachikpgaa
open Go Go.PS
/-- A client that is right. -/
structure Cl where
  base : Int
  size : Int
  q : Int
  at_ : Int
  n : Int
  pr : Int
  id : Int
  irq : Int
  hb : Int
  hn : Int
def Cl.cells (c : Cl) : List PV := [.int .i64 c.base, .int .i64 c.size, .int .i64 c.q, .int .i64 c.at_, .int .i64 c.n, .int .i64 c.pr, .int .i64 c.id, .int .i64 c.irq, .int .i64 c.hb, .int .i64 c.hn]
theorem Cl.len (c : Cl) : c.cells.length = 10 := rfl
def Cl.ok (c : Cl) : Prop := 32 ≤ c.size ∧ c.size ≤ 1024 ∧ 128 ≤ c.base ∧ c.base ≤ 16384 - c.size ∧ ring c.q ≠ 0 ∧ 0 ≤ c.at_ ∧ c.at_ ≤ c.size - ring c.q ∧ 1 ≤ c.n ∧ c.n ≤ 16 ∧ 0 ≤ c.pr ∧ c.pr ≤ 16 ∧ 0 ≤ c.id ∧ c.id ≤ 255 ∧ 0 ≤ c.irq ∧ c.irq ≤ 255 ∧ 0 ≤ c.hn ∧ c.hn ≤ 64 ∧ 0 ≤ c.hb ∧ c.hb ≤ 512 - c.hn
theorem ring_le (q : Int) : 0 ≤ ring q ∧ ring q ≤ 130 := by unfold ring; split <;> omega
theorem f87 (n : Nat) (c : Cl) (hp : Heap) (h : c.ok) : evalCall Try.prog hints (n + 2) 87 [.agg c.cells] hp = some (.bool false, hp, false) := by
  obtain ⟨h1, h2, h3, h4, h5, h6, h7, h8, h9, h10, h11, h12, h13, h14, h15, h16, h17, h18, h19⟩ := h
  have r := ring_le c.q
  have e := fun hp => f119 n c.q hp
  have w1 := wrap_id (x := 16384 - c.size) (by omega)
  have w2 := wrap_id (x := c.size - ring c.q) (by omega)
  have w3 := wrap_id (x := 512 - c.hn) (by omega)
  rw [evalCall_at _ _ _ hh87 rfl Try.func87 rfl (Nat.le_of_ble_eq_true rfl) rfl]
  obtain ⟨base, size, q, at_, nn, pr, id, irq, hb, hn⟩ := c
  simp only [Cl.cells] at *
  have g1 : ¬ size < 32 := by omega
  have g2 : ¬ 1024 < size := by omega
  have g3 : ¬ base < 128 := by omega
  have g4 : ¬ 16384 - size < base := by omega
  have g6 : ¬ at_ < 0 := by omega
  have g7 : ¬ size - ring q < at_ := by omega
  have g8 : ¬ nn < 1 := by omega
  have g9 : ¬ 16 < nn := by omega
  have g10 : ¬ pr < 0 := by omega
  have g11 : ¬ 16 < pr := by omega
  have g12 : ¬ id < 0 := by omega
  have g13 : ¬ 255 < id := by omega
  have g14 : ¬ irq < 0 := by omega
  have g15 : ¬ 255 < irq := by omega
  have g16 : ¬ hn < 0 := by omega
  have g17 : ¬ 64 < hn := by omega
  have g18 : ¬ hb < 0 := by omega
  have g19 : ¬ 512 - hn < hb := by omega
  have g5 : (ring q == 0) = false := by simp [h5]
  simp [e, w1, w2, w3, g1, g2, g3, g4, g5, g6, g7, g8, g9, g10, g11, g12, g13, g14, g15, g16, g17, g18, g19]
  try omega
end Go.Proofs.Ytehemoachikpgaa
end

section
namespace Go.Proofs.Ytehemoachikpgaa
open Go Go.PS
/-- A window, or a slot. -/
structure R3 where
  o : Int
  a : Int
  b : Int
def R3.cells (c : R3) : List PV := [.int .i64 c.o, .int .i64 c.a, .int .i64 c.b]
theorem R3.len (c : R3) : c.cells.length = 3 := rfl
structure Tab where
  f : Int
  W : List R3
  S : List R3
  C : List Cl
def Tab.cells (t : Tab) : List PV := [.int .i64 t.f, .sl .sh t.W.length (t.W.flatMap R3.cells), .sl .sh t.S.length (t.S.flatMap R3.cells), .sl .sh t.C.length (t.C.flatMap Cl.cells)]
end Go.Proofs.Ytehemoachikpgaa
end

section
namespace Go.Proofs.Ytehemoachikpgaa
open Go Go.PS
instance (c : Cl) : Decidable c.ok := by unfold Cl.ok; infer_instance
def frameB (t : Tab) : Bool := decide (1 ≤ t.f ∧ t.f ≤ 4096 ∧ 1 ≤ (t.C.length : Int) ∧ (t.C.length : Int) ≤ 8 ∧ (t.W.length : Int) ≤ 9 ∧ (t.S.length : Int) ≤ 32)
theorem f64 (n : Nat) (t : Tab) (hp : Heap) : evalCall Try.prog hints (n + 1) 64 [.agg t.cells] hp = some (.bool (frameB t), hp, false) := by
  rw [evalCall_at _ _ _ hh64 rfl Try.func64 rfl (Nat.le_of_ble_eq_true rfl) rfl]
  obtain ⟨f, W, S, C⟩ := t
  simp only [Tab.cells, frameB]
  generalize W.flatMap R3.cells = X at *
  generalize S.flatMap R3.cells = Y at *
  generalize C.flatMap Cl.cells = Z at *
  generalize W.length = nW at *
  generalize S.length = nS at *
  generalize C.length = nC at *
  by_cases c1 : 1 ≤ f
  · by_cases c2 : f ≤ 4096
    · by_cases c3 : (1 : Int) ≤ nC
      · by_cases c4 : (nC : Int) ≤ 8
        · by_cases c5 : (nW : Int) ≤ 9
          · simp [c1, c2, c3, c4, c5]
          · simp [c1, c2, c3, c4, c5]
        · simp [c1, c2, c3, c4]
      · simp [c1, c2, c3]
    · simp [c1, c2]
  · simp [c1]
def okW (t : Tab) (w : R3) : Bool := decide (0 ≤ w.o ∧ w.o ≤ (t.C.length : Int) ∧ 0 ≤ w.a ∧ w.b ≤ t.f ∧ w.a < w.b)
def okS (t : Tab) (w : R3) : Bool := decide (1 ≤ w.o ∧ w.o ≤ (t.C.length : Int) ∧ 0 ≤ w.a ∧ w.b ≤ t.f ∧ w.a < w.b ∧ 4 ≤ w.b - w.a)
theorem f89 (n : Nat) (t : Tab) (w : R3) (hp : Heap) : evalCall Try.prog hints (n + 1) 89 [.agg t.cells, .agg w.cells] hp = some (.bool (!okW t w), hp, false) := by
  rw [evalCall_at _ _ _ hh89 rfl Try.func89 rfl (Nat.le_of_ble_eq_true rfl) rfl]
  obtain ⟨f, W, S, C⟩ := t
  obtain ⟨o, a, b⟩ := w
  simp only [Tab.cells, okW, R3.cells]
  generalize W.flatMap _ = X at *
  generalize S.flatMap _ = Y at *
  generalize C.flatMap Cl.cells = Z at *
  generalize W.length = nW at *
  generalize S.length = nS at *
  generalize C.length = nC at *
  by_cases c1 : o < 0
  · simp [c1]
  have c1' : 0 ≤ o := by omega
  by_cases c2 : (nC : Int) < o
  · simp [c1, c2]
  have c2' : o ≤ (nC : Int) := by omega
  by_cases c3 : a < 0
  · simp [c1, c2, c3]
  have c3' : 0 ≤ a := by omega
  by_cases c4 : f < b
  · simp [c1, c2, c3, c4]
  have c4' : b ≤ f := by omega
  by_cases c5 : b ≤ a
  · simp [c1, c2, c3, c4, c5]
  · have c5' : a < b := by omega
    simp [c1, c2, c3, c4, c5, c1', c2', c3', c4', c5']
theorem f90 (n : Nat) (t : Tab) (w : R3) (hp : Heap) (hf : t.f ≤ 4096) : evalCall Try.prog hints (n + 1) 90 [.agg t.cells, .agg w.cells] hp = some (.bool (!okS t w), hp, false) := by
  rw [evalCall_at _ _ _ hh90 rfl Try.func90 rfl (Nat.le_of_ble_eq_true rfl) rfl]
  obtain ⟨f, W, S, C⟩ := t
  obtain ⟨o, a, b⟩ := w
  simp only [Tab.cells, okS, R3.cells] at *
  generalize W.flatMap _ = X at *
  generalize S.flatMap _ = Y at *
  generalize C.flatMap Cl.cells = Z at *
  generalize W.length = nW at *
  generalize S.length = nS at *
  generalize C.length = nC at *
  by_cases c1 : o < 1
  · have : ¬ 1 ≤ o := by omega
    simp [c1, this]
  have c1' : 1 ≤ o := by omega
  by_cases c2 : (nC : Int) < o
  · simp [c1, c2]
  have c2' : o ≤ (nC : Int) := by omega
  by_cases c3 : a < 0
  · simp [c1, c2, c3]
  have c3' : 0 ≤ a := by omega
  by_cases c4 : f < b
  · simp [c1, c2, c3, c4]
  have c4' : b ≤ f := by omega
  by_cases c5 : b ≤ a
  · simp [c1, c2, c3, c4, c5]
  have c5' : a < b := by omega
  have w1 := wrap_id (x := b - a) (by omega)
  by_cases c6 : b - a < 4
  · have c6' : ¬ 4 ≤ b - a := by omega
    simp [c1, c2, c3, c4, c5, c1', c2', c3', c4', c5', c6, w1]
  · have c6' : 4 ≤ b - a := by omega
    simp [c1, c2, c3, c4, c5, c1', c2', c3', c4', c5', c6, c6', w1]
end Go.Proofs.Ytehemoachikpgaa
end

section
namespace Go.Proofs.Ytehemoachikpgaa
open Go Go.PS
set_option maxHeartbeats 1000000 in
theorem f87g (n : Nat) (c : Cl) (hp : Heap) : evalCall Try.prog hints (n + 2) 87 [.agg c.cells] hp = some (.bool (!decide c.ok), hp, false) := by
  by_cases hk : c.ok
  · rw [f87 n c hp hk]; simp [hk]
  simp only [hk, decide_false, Bool.not_false]
  have e := fun hp => f119 n c.q hp
  rw [evalCall_at _ _ _ hh87 rfl Try.func87 rfl (Nat.le_of_ble_eq_true rfl) rfl]
  unfold Cl.ok at hk
  obtain ⟨base, size, q, at_, nn, pr, id, irq, hb, hn⟩ := c
  simp only [Cl.cells] at *
  have r := ring_le q
  by_cases g1 : size < 32
  · simp [g1]
  by_cases g2 : 1024 < size
  · simp [g1, g2]
  by_cases g3 : base < 128
  · simp [g1, g2, g3]
  have w1 := wrap_id (x := 16384 - size) (by omega)
  by_cases g4 : 16384 - size < base
  · simp [g1, g2, g3, g4, w1]
  by_cases g5 : ring q = 0
  · have g5' : (ring q == 0) = true := by simp [g5]
    simp [g1, g2, g3, g4, g5', w1, e]
  have g5' : (ring q == 0) = false := by simp [g5]
  by_cases g6 : at_ < 0
  · simp [g1, g2, g3, g4, g5', g6, w1, e]
  have w2 := wrap_id (x := size - ring q) (by omega)
  by_cases g7 : size - ring q < at_
  · simp [g1, g2, g3, g4, g5', g6, g7, w1, w2, e]
  by_cases g8 : nn < 1
  · simp [g1, g2, g3, g4, g5', g6, g7, g8, w1, w2, e]
  by_cases g9 : 16 < nn
  · simp [g1, g2, g3, g4, g5', g6, g7, g8, g9, w1, w2, e]
  by_cases g10 : pr < 0
  · simp [g1, g2, g3, g4, g5', g6, g7, g8, g9, g10, w1, w2, e]
  by_cases g11 : 16 < pr
  · simp [g1, g2, g3, g4, g5', g6, g7, g8, g9, g10, g11, w1, w2, e]
  by_cases g12 : id < 0
  · simp [g1, g2, g3, g4, g5', g6, g7, g8, g9, g10, g11, g12, w1, w2, e]
  by_cases g13 : 255 < id
  · simp [g1, g2, g3, g4, g5', g6, g7, g8, g9, g10, g11, g12, g13, w1, w2, e]
  by_cases g14 : irq < 0
  · simp [g1, g2, g3, g4, g5', g6, g7, g8, g9, g10, g11, g12, g13, g14, w1, w2, e]
  by_cases g15 : 255 < irq
  · simp [g1, g2, g3, g4, g5', g6, g7, g8, g9, g10, g11, g12, g13, g14, g15, w1, w2, e]
  by_cases g16 : hn < 0
  · simp [g1, g2, g3, g4, g5', g6, g7, g8, g9, g10, g11, g12, g13, g14, g15, g16, w1, w2, e]
  by_cases g17 : 64 < hn
  · simp [g1, g2, g3, g4, g5', g6, g7, g8, g9, g10, g11, g12, g13, g14, g15, g16, g17, w1, w2, e]
  by_cases g18 : hb < 0
  · simp [g1, g2, g3, g4, g5', g6, g7, g8, g9, g10, g11, g12, g13, g14, g15, g16, g17, g18, w1, w2, e]
  have w3 := wrap_id (x := 512 - hn) (by omega)
  by_cases g19 : 512 - hn < hb
  · simp [g1, g2, g3, g4, g5', g6, g7, g8, g9, g10, g11, g12, g13, g14, g15, g16, g17, g18, g19, w1, w2, w3, e]
  exact (hk ⟨by omega, by omega, by omega, by omega, g5, by omega, by omega, by omega, by omega, by omega, by omega, by omega, by omega, by omega, by omega, by omega, by omega, by omega, by omega⟩).elim
end Go.Proofs.Ytehemoachikpgaa
end

section
namespace Go.Proofs.Ytehemoachikpgaa
open Go Go.PS
def unit1 (t : Tab) (r : Int) (w : R3) : Int := if w.o = r ∧ okS t w = true then (w.b - w.a) / 4 else 0
def units (t : Tab) (r : Int) : List R3 → Int
  | [] => 0
  | w :: l => unit1 t r w + units t r l
theorem unit1_b (t : Tab) (r : Int) (w : R3) (hf : t.f ≤ 4096) : 0 ≤ unit1 t r w ∧ unit1 t r w ≤ 1024 := by
  unfold unit1 okS; split
  · rename_i h; simp only [decide_eq_true_eq] at h; omega
  · omega
theorem units_b (t : Tab) (r : Int) (hf : t.f ≤ 4096) : ∀ l : List R3, 0 ≤ units t r l ∧ units t r l ≤ 1024 * l.length
  | [] => by simp [units]
  | w :: l => by
    have := unit1_b t r w hf
    have := units_b t r hf l
    simp only [units, List.length_cons]; omega
theorem units_snoc (t : Tab) (r : Int) (w : R3) : ∀ l : List R3, units t r (l ++ [w]) = units t r l + unit1 t r w
  | [] => by simp [units]
  | x :: l => by simp only [List.cons_append, units, units_snoc t r w l]; omega
theorem units_take (t : Tab) (r : Int) (l : List R3) (k : Nat) (h : k < l.length) : units t r (l.take (k + 1)) = units t r (l.take k) + unit1 t r l[k] := by
  rw [List.take_succ_eq_append_getElem h, units_snoc]
set_option maxHeartbeats 1000000 in
theorem f91 (n : Nat) (t : Tab) (r : Int) (hp : Heap) (hf : frameB t = true) (hn : 40 < n) : evalCall Try.prog hints (n + 2) 91 [.agg t.cells, .int .i64 r] hp = some (.int .i64 (units t r t.S), hp, false) := by
  have e68 := f64 n t hp
  rw [hf] at e68
  have hf' := hf
  unfold frameB at hf'; simp only [decide_eq_true_eq] at hf'
  have e93 := fun w => f90 n t w hp hf'.2.1
  rw [evalCall_at _ _ _ hh91 rfl Try.func91 rfl (Nat.le_of_ble_eq_true rfl) rfl]
  simp only [Tab.cells] at e68 e93 ⊢
  have lS := flat_len R3.len t.S
  have uB := units_b t r hf'.2.1
  have u1 := unit1_b t r
  simp
  rw [iter_count (fun k => { fr := [(1, .int .i64 r), (2, .box t.cells), (5, .int .i64 (units t r (t.S.take k))), (6, .int .i64 k)], hp := hp, base := hp.length, dirty := false }) (.exit 0, { fr := [(1, .int .i64 r), (2, .box t.cells), (5, .int .i64 (units t r t.S)), (6, .int .i64 t.S.length), (15, .bool false)], hp := hp, base := hp.length, dirty := false }) t.S.length]
  · simp
  · simp [units, Tab.cells]
  · omega
  · intro k hk
    have uk := units_take t r t.S k hk
    have ub := uB (t.S.take k)
    have ul : (t.S.take k).length ≤ 32 := by rw [List.length_take]; omega
    have hr := flat_row R3.len t.S k hk
    have g1 := flat_get R3.len t.S k hk 1 (by omega)
    have g2 := flat_get R3.len t.S k hk 2 (by omega)
    have g0 := flat_get R3.len t.S k hk 0 (by omega)
    have e := e93 t.S[k]
    have b1 := u1 t.S[k] hf'.2.1
    have z : k * 3 + 3 ≤ t.S.length * 3 := by omega
    generalize units t r (t.S.take k) = u at *
    rw [uk]
    simp only [Tab.cells]
    unfold unit1 at b1 ⊢
    generalize t.S[k] = w at *
    obtain ⟨o, a, b⟩ := w
    simp only [R3.cells] at *
    generalize t.S.flatMap _ = Y at *
    generalize t.W.flatMap _ = X at *
    generalize t.C.flatMap _ = Z at *
    simp only [Nat.add_zero, List.getElem?_cons_zero, List.getElem?_cons_succ] at g0 g1 g2
    generalize okS t ⟨o, a, b⟩ = ok at *
    have w0 := wrap_id (x := (k : Int) + 1) (by omega)
    by_cases c1 : o = r
    · subst c1
      cases hok : ok with
      | true =>
        subst hok
        rw [if_pos ⟨rfl, rfl⟩] at b1
        have q := td (a := b - a) 4 (by omega)
        have w1 := wrap_id (x := b - a) (by omega)
        have w2 := wrap_id (x := (b - a) / 4) (by omega)
        have w3 := wrap_id (x := u + (b - a) / 4) (by omega)
        simp [-getElem?_pos, List.getElem?_cons_zero, hk, e68, e, lS, hr, g0, g1, g2, z, q, w0, w1, w2, w3]
      | false =>
        subst hok
        simp [-getElem?_pos, List.getElem?_cons_zero, hk, e68, e, lS, hr, g0, g1, g2, z, w0]
    · have c1' : (o == r) = false := by simp [c1]
      simp [-getElem?_pos, List.getElem?_cons_zero, hk, e68, c1, c1', lS, hr, g0, g1, g2, z, w0]
  · rw [List.take_length]
    simp only [Tab.cells]
    generalize t.S.flatMap _ = Y at *
    generalize t.W.flatMap _ = X at *
    generalize t.C.flatMap _ = Z at *
    simp
  · simp
end Go.Proofs.Ytehemoachikpgaa
end

section
namespace Go.Proofs.Ytehemoachikpgaa
open Go Go.PS
def ats {α : Type} (l : List α) (r : Nat) (p : α → Bool) : Bool := match r with | 0 => false | i + 1 => (l[i]?).any p
/-- Is there one ahead of row r that is so with it? -/
def pre {α : Type} (l : List α) (r : Nat) (p : α → α → Bool) : Bool := match r with | 0 => false | i + 1 => (l[i]?).any fun x => (List.range i).any fun k => (l[k]?).any (p x)
def pairC (x y : Cl) : Bool := decide x.ok && decide y.ok && (decide (x.id = y.id) || decide (x.irq = y.irq) || meets x.base (x.base + x.size) y.base (y.base + y.size) || meets x.hb (x.hb + x.hn) y.hb (y.hb + y.hn))
def pairW (x y : R3) : Bool := decide (x.o = y.o) || meets x.a x.b y.a y.b
def pairS (x y : R3) : Bool := meets x.a x.b y.a y.b
def ioW (t : Tab) (r : Nat) : List R3 → Bool
  | [] => false
  | w :: l => if r = 0 then (if w.o = 0 then okW t w && decide (w.b - w.a < 2 * (t.C.length : Int)) else ioW t r l) else false
def overU (t : Tab) (r : Int) (c : Cl) : Bool := decide (units t r t.S < c.n)
def hasB (t : Tab) : Nat → Nat → Bool
  | 2, r => ats t.C r fun c => !decide c.ok
  | 3, r => pre t.C r pairC
  | 4, r => ats t.W r fun w => !okW t w
  | 5, r => pre t.W r pairW
  | 6, r => !t.W.any (fun w => decide (w.o = r)) && decide ((r : Int) ≤ t.C.length)
  | 7, r => ioW t r t.W
  | 8, r => ats t.S r fun w => !okS t w
  | 9, r => pre t.S r pairS
  | _, r => ats t.C r (overU t r)
theorem any_range {α : Type} (p : α → Bool) : ∀ l : List α, (List.range l.length).any (fun k => (l[k]?).any p) = l.any p
  | [] => rfl
  | a :: l => by
    rw [List.length_cons, List.range_succ_eq_map, List.any_cons, List.any_map, List.any_cons, ← any_range p l]
    rfl
theorem ioW_ne (t : Tab) (r : Nat) (hr : r ≠ 0) (l : List R3) : ioW t r l = false := by
  cases l with
  | nil => rfl
  | cons w l => simp [ioW, hr]
theorem ioW_drop (t : Tab) (l : List R3) (k : Nat) (h : k < l.length) : ioW t 0 (l.drop k) = if l[k].o = 0 then okW t l[k] && decide (l[k].b - l[k].a < 2 * (t.C.length : Int)) else ioW t 0 (l.drop (k + 1)) := by
  rw [List.drop_eq_getElem_cons h, ioW]; rfl
end Go.Proofs.Ytehemoachikpgaa
end

section
namespace Go.Proofs.Ytehemoachikpgaa
open Go Go.PS
/-- The program's own words for what may be. -/
def inB (x a b : Int) : Bool := decide (a ≤ x ∧ x ≤ b)
theorem f97 (n : Nat) (x a b : Int) (hp : Heap) : evalCall Try.prog hints (n + 1) 97 [.int .i64 x, .int .i64 a, .int .i64 b] hp = some (.bool (inB x a b), hp, false) := by
  rw [evalCall_at _ _ _ hh97 rfl Try.func97 rfl (Nat.le_of_ble_eq_true rfl) rfl]
  unfold inB
  by_cases h : a ≤ x <;> simp [h]
theorem f79 (n : Nat) (a b : Int) (hp : Heap) : evalCall Try.prog hints (n + 1) 79 [.agg [.int .i64 a, .int .i64 b]] hp = some (.bool (decide (0 ≤ a ∧ a < b)), hp, false) := by
  rw [evalCall_at _ _ _ hh79 rfl Try.func79 rfl (Nat.le_of_ble_eq_true rfl) rfl]
  by_cases h : 0 ≤ a
  · simp [h]
  · simp [h]
theorem f98 (n : Nat) (a b m : Int) (hp : Heap) : evalCall Try.prog hints (n + 2) 98 [.agg [.int .i64 a, .int .i64 b], .int .i64 m] hp = some (.bool (decide (0 ≤ a ∧ a < b ∧ b ≤ m)), hp, false) := by
  have e := fun hp => f79 n a b hp
  rw [evalCall_at _ _ _ hh98 rfl Try.func98 rfl (Nat.le_of_ble_eq_true rfl) rfl]
  by_cases h1 : 0 ≤ a
  · by_cases h2 : a < b
    · simp [e, h1, h2]
    · simp [e, h1, h2]
  · simp [e, h1]
def both (a b c d : Int) : Int × Int := if meets a b c d = true then (max a c, min b d) else (0, 0)
theorem meets_max (a b c d : Int) : meets a b c d = (decide (0 ≤ a ∧ a < b) && decide (0 ≤ c ∧ c < d) && decide (0 ≤ max a c ∧ max a c < min b d)) := by
  unfold meets holds
  rw [Bool.eq_iff_iff]
  simp only [Bool.and_eq_true, Bool.or_eq_true, decide_eq_true_eq]
  omega
theorem f103 (n : Nat) (a b c d : Int) (hp : Heap) : evalCall Try.prog hints (n + 2) 103 [.agg [.int .i64 a, .int .i64 b], .agg [.int .i64 c, .int .i64 d]] hp = some (.tup [.agg [.int .i64 (both a b c d).1, .int .i64 (both a b c d).2], .bool (meets a b c d)], hp, false) := by
  have e1 := fun hp => f79 n a b hp
  have e2 := fun hp => f79 n c d hp
  have e3 := fun hp => f79 n (max a c) (min b d) hp
  have hm := meets_max a b c d
  unfold both
  have m1 : (if a < c then c else a) = max a c := by rw [Int.max_def]; split <;> split <;> omega
  have m2 : (if d < b then d else b) = min b d := by rw [Int.min_def]; split <;> split <;> omega
  rw [evalCall_at _ _ _ hh103 rfl Try.func103 rfl (Nat.le_of_ble_eq_true rfl) rfl]
  generalize decide (0 ≤ a ∧ a < b) = x at *
  generalize decide (0 ≤ c ∧ c < d) = y at *
  generalize decide (0 ≤ max a c ∧ max a c < min b d) = z at *
  generalize meets a b c d = q at *
  generalize max a c = m at *
  generalize min b d = k at *
  subst hm
  cases x
  · simp [e1]
  · cases y
    · simp [e1, e2]
    · cases z <;> simp [e1, e2, e3, m1, m2]
theorem f143 (n : Nat) (a m : Int) (hp : Heap) (w : IntKind.i64.wrap (a + m) = a + m) : evalCall Try.prog hints (n + 1) 143 [.int .i64 a, .int .i64 m] hp = some (.agg [.int .i64 a, .int .i64 (a + m)], hp, false) := by
  rw [evalCall_at _ _ _ hh143 rfl Try.func143 rfl (Nat.le_of_ble_eq_true rfl) rfl]
  simp [w]
/-- Have two clients something both? -/
def shareC (x y : Cl) : Bool := decide (x.id = y.id) || decide (x.irq = y.irq) || meets x.base (x.base + x.size) y.base (y.base + y.size) || meets x.hb (x.hb + x.hn) y.hb (y.hb + y.hn)
theorem f68 (n : Nat) (t : Tab) (hp : Heap) : evalCall Try.prog hints (n + 2) 68 [.agg t.cells] hp = some (.bool (frameB t), hp, false) := by
  have e1 := fun hp => f97 n t.f 1 4096 hp
  have e2 := fun hp => f97 n (t.C.length : Int) 1 8 hp
  rw [evalCall_at _ _ _ hh68 rfl Try.func68 rfl (Nat.le_of_ble_eq_true rfl) rfl]
  unfold inB at e1 e2
  obtain ⟨f, W, S, C⟩ := t
  simp only [Tab.cells, frameB] at *
  generalize W.flatMap R3.cells = X at *
  generalize S.flatMap R3.cells = Y at *
  generalize C.flatMap Cl.cells = Z at *
  generalize W.length = nW at *
  generalize S.length = nS at *
  generalize C.length = nC at *
  by_cases c1 : 1 ≤ f
  · by_cases c2 : f ≤ 4096
    · by_cases c3 : (1 : Int) ≤ nC
      · by_cases c4 : (nC : Int) ≤ 8
        · by_cases c5 : (nW : Int) ≤ 9
          · simp [c1, c2, c3, c4, c5, e1, e2]
          · simp [c1, c2, c3, c4, c5, e1, e2]
        · simp [c1, c2, c3, c4, e1, e2]
      · simp [c1, c2, c3, e1, e2]
    · simp [c1, c2, e1]
  · simp [c1, e1]
theorem f124 (n : Nat) (t : Tab) (w : R3) (hp : Heap) : evalCall Try.prog hints (n + 3) 124 [.agg t.cells, .agg w.cells] hp = some (.bool (okW t w), hp, false) := by
  have e1 := fun hp => f97 (n + 1) w.o 0 (t.C.length : Int) hp
  have e2 := fun hp => f98 n w.a w.b t.f hp
  rw [evalCall_at _ _ _ hh124 rfl Try.func124 rfl (Nat.le_of_ble_eq_true rfl) rfl]
  unfold inB at e1
  have hk : okW t w = (decide (0 ≤ w.o ∧ w.o ≤ (t.C.length : Int)) && decide (0 ≤ w.a ∧ w.a < w.b ∧ w.b ≤ t.f)) := by
    unfold okW; rw [Bool.eq_iff_iff]; simp only [Bool.and_eq_true, decide_eq_true_eq]; omega
  rw [hk]
  obtain ⟨f, W, S, C⟩ := t
  obtain ⟨o, a, b⟩ := w
  simp only [Tab.cells, R3.cells] at *
  generalize W.flatMap _ = X at *
  generalize S.flatMap _ = Y at *
  generalize C.flatMap Cl.cells = Z at *
  generalize decide (0 ≤ o ∧ o ≤ (C.length : Int)) = p at *
  generalize decide (0 ≤ a ∧ a < b ∧ b ≤ f) = q at *
  clear hk
  cases p <;> simp [e1, e2]
theorem f69 (n : Nat) (t : Tab) (w : R3) (hp : Heap) (hf : t.f ≤ 4096) : evalCall Try.prog hints (n + 3) 69 [.agg t.cells, .agg w.cells] hp = some (.bool (okS t w), hp, false) := by
  have e1 := fun hp => f97 (n + 1) w.o 1 (t.C.length : Int) hp
  have e2 := fun hp => f98 n w.a w.b t.f hp
  rw [evalCall_at _ _ _ hh69 rfl Try.func69 rfl (Nat.le_of_ble_eq_true rfl) rfl]
  unfold inB at e1
  have hk : okS t w = (decide (1 ≤ w.o ∧ w.o ≤ (t.C.length : Int)) && (decide (0 ≤ w.a ∧ w.a < w.b ∧ w.b ≤ t.f) && decide (4 ≤ w.b - w.a))) := by
    unfold okS; rw [Bool.eq_iff_iff]; simp only [Bool.and_eq_true, decide_eq_true_eq]; omega
  have w1 : 0 ≤ w.a ∧ w.a < w.b ∧ w.b ≤ t.f → IntKind.i64.wrap (w.b - w.a) = w.b - w.a := fun h => wrap_id (by omega)
  rw [hk]
  obtain ⟨f, W, S, C⟩ := t
  obtain ⟨o, a, b⟩ := w
  simp only [Tab.cells, R3.cells] at *
  generalize W.flatMap _ = X at *
  generalize S.flatMap _ = Y at *
  generalize C.flatMap Cl.cells = Z at *
  generalize decide (1 ≤ o ∧ o ≤ (C.length : Int)) = p at *
  clear hk
  by_cases hq : 0 ≤ a ∧ a < b ∧ b ≤ f
  · have w1 := w1 hq
    rw [decide_eq_true hq] at e2 ⊢
    cases p <;> simp [e1, e2, w1]
  · rw [decide_eq_false hq] at e2 ⊢
    cases p <;> simp [e1, e2]
end Go.Proofs.Ytehemoachikpgaa
end

section
namespace Go.Proofs.Ytehemoachikpgaa
open Go Go.PS
theorem live16a (n : Nat) (ks vs c : List PV) : (evalCall Try.prog hints (n + 100) 16 [] [.map ks vs, .cells c]).map (fun r => (r.1, r.2.2)) = some (.bool true, false) := by kernel_rfl
theorem live16b (n : Nat) : (evalCall Try.prog hints (n + 100) 16 [] []).map (fun r => (r.1, r.2.2)) = some (.bool true, false) := by kernel_rfl
end Go.Proofs.Ytehemoachikpgaa
end
