/-
  What functions of this program compute, as equations about the evaluator. No condition but those stated.
-/
import Derived.Test.YtknoiemnpllapaaGreatPsD
import Derived.Test.YtknoiemnpllapaaGreatFacts

set_option linter.all false
section
/-
  A loop that looks for something.
-/
namespace Go.PS
theorem iter_find {body : St → Option (Ex × St)} (s : Nat → St) (p : Nat → Bool) (hit out : Ex × St) : ∀ (N fuel : Nat) (st : St), st = s 0 → N < fuel →
    (∀ k, k < N → p k = false → body (s k) = some (.normal, s (k + 1))) → (∀ k, k < N → p k = true → body (s k) = some hit) → body (s N) = some out → (hit.1 = .normal → False) → (out.1 = .normal → False) →
    iter body fuel st = some (if (List.range N).any p then hit else out)
  | _, 0, _, _, h, _, _, _, _, _ => by omega
  | 0, fuel + 1, st, h0, _, _, _, he, _, hn => by
    subst h0
    simp only [iter, he]
    split
    · rename_i h; cases h; exact (hn rfl).elim
    · rfl
  | N + 1, fuel + 1, st, h0, hf, hs, hh, he, hn1, hn2 => by
    subst h0
    cases hp : p 0 with
    | true =>
      simp only [iter, hh 0 (by omega) hp]
      rw [if_pos (List.any_eq_true.2 ⟨0, by simp, hp⟩)]
      split
      · rename_i h; cases h; exact (hn1 rfl).elim
      · rfl
    | false =>
      simp only [iter, hs 0 (by omega) hp]
      rw [iter_find (fun k => s (k + 1)) (fun k => p (k + 1)) hit out N fuel _ rfl (by omega) (fun k hk => hs (k + 1) (by omega)) (fun k hk => hh (k + 1) (by omega)) he hn1 hn2]
      congr 1
      have : (List.range (N + 1)).any p = (List.range N).any fun k => p (k + 1) := by
        rw [List.range_succ_eq_map, List.any_cons, hp, Bool.false_or, List.any_map]; rfl
      rw [this]
theorem iter_find' {body : St → Option (Ex × St)} (s : Nat → St) (p : Nat → Bool) (hit out : Ex × St) (N fuel : Nat) (st : St) (h0 : st = s 0) (hN : N < fuel)
    (hs : ∀ k, k < N → body (s k) = some (cond (p k) hit (.normal, s (k + 1)))) (ho : body (s N) = some out) (h1 : hit.1 = .normal → False) (h2 : out.1 = .normal → False) :
    iter body fuel st = some (cond ((List.range N).any p) hit out) := by
  rw [iter_find s p hit out N fuel st h0 hN (fun k hk h => by rw [hs k hk, h]; rfl) (fun k hk h => by rw [hs k hk, h]; rfl) ho h1 h2]
  cases (List.range N).any p <;> rfl
theorem find_succ (p : Nat → Bool) (N : Nat) : (List.range (N + 1)).find? p = if p 0 = true then some 0 else ((List.range N).find? fun k => p (k + 1)).map (· + 1) := by
  rw [List.range_succ_eq_map, List.find?_cons]
  cases p 0 with
  | true => rfl
  | false => simp [List.find?_map]; rfl
theorem iter_idx {body : St → Option (Ex × St)} (s : Nat → St) (p : Nat → Bool) (hit : Nat → Ex × St) (out : Ex × St) : ∀ (N fuel : Nat) (st : St), st = s 0 → N < fuel →
    (∀ k, k < N → body (s k) = some (cond (p k) (hit k) (.normal, s (k + 1)))) → body (s N) = some out → (∀ k, (hit k).1 = .normal → False) → (out.1 = .normal → False) →
    iter body fuel st = some (match (List.range N).find? p with | some k => hit k | none => out)
  | _, 0, _, _, h, _, _, _, _ => by omega
  | 0, fuel + 1, st, h0, _, _, he, _, hn => by
    subst h0
    simp only [iter, he]
    split
    · rename_i h; cases h; exact (hn rfl).elim
    · rfl
  | N + 1, fuel + 1, st, h0, hf, hs, he, hn1, hn2 => by
    subst h0
    have h0 := hs 0 (by omega)
    rw [find_succ]
    cases hp : p 0 with
    | true =>
      rw [hp] at h0
      simp only [cond_true] at h0
      simp only [iter, h0, if_true]
      split
      · rename_i h; exact (hn1 0 (by rw [Option.some.inj h])).elim
      · rfl
    | false =>
      rw [hp] at h0
      simp only [cond_false] at h0
      simp only [iter, h0, Bool.false_eq_true, if_false]
      rw [iter_idx (fun k => s (k + 1)) (fun k => p (k + 1)) (fun k => hit (k + 1)) out N fuel _ rfl (by omega) (fun k hk => hs (k + 1) (by omega)) he (fun k => hn1 (k + 1)) hn2]
      cases (List.range N).find? fun k => p (k + 1) <;> rfl
/-- Where the first one is that is so. -/
def idx {α : Type} (q : α → Bool) : List α → Option Nat
  | [] => none
  | a :: l => if q a = true then some 0 else (idx q l).map (· + 1)
theorem idx_range {α : Type} (q : α → Bool) : ∀ l : List α, (List.range l.length).find? (fun k => (l[k]?).any q) = idx q l
  | [] => rfl
  | a :: l => by
    rw [List.length_cons, find_succ, idx, ← idx_range q l]
    rfl
theorem idx_lt {α : Type} {q : α → Bool} : ∀ {l : List α} {i : Nat}, idx q l = some i → ∃ h : i < l.length, q l[i] = true
  | a :: l, i, h => by
    rw [idx] at h
    split at h
    · rename_i hq; cases h; exact ⟨by simp, hq⟩
    · cases hi : idx q l with
      | none => rw [hi] at h; cases h
      | some k =>
        rw [hi] at h
        cases h
        obtain ⟨h1, h2⟩ := idx_lt hi
        exact ⟨by simp; omega, by simpa using h2⟩
theorem idx_none {α : Type} {q : α → Bool} : ∀ {l : List α}, idx q l = none ↔ l.any q = false
  | [] => by simp [idx]
  | a :: l => by
    rw [idx, List.any_cons]
    cases hq : q a with
    | true => simp
    | false =>
      simp only [Bool.false_eq_true, if_false, Bool.false_or]
      rw [← idx_none (l := l)]
      cases idx q l <;> simp
def idxI (o : Option Nat) : Int := match o with | some k => k | none => -1
end Go.PS
end

section
namespace Go.Proofs.YtknoiemnpllapaaGreat
open Go Go.PS
/-- The words of a ring of q. -/
def ring (q : Int) : Int := if q = 1 ∨ q = 2 ∨ q = 4 ∨ q = 8 ∨ q = 16 then 2 + 8 * q else 0
theorem f208 (n : Nat) (q : Int) (hp : Heap) : evalCall Tryz.prog hints (n + 1) 208 [.int .i64 q] hp = some (.int .i64 (ring q), hp, false) := by
  rw [evalCall_at _ _ _ hh208 rfl Tryz.func208 rfl (Nat.le_of_ble_eq_true rfl) rfl]
  unfold ring
  by_cases h1 : q = 1
  · subst h1; simp [wrap_id (x := 8) (by omega), wrap_id (x := 10) (by omega)]
  by_cases h2 : q = 2
  · subst h2; simp [wrap_id (x := 16) (by omega), wrap_id (x := 18) (by omega)]
  by_cases h4 : q = 4
  · subst h4; simp [wrap_id (x := 32) (by omega), wrap_id (x := 34) (by omega)]
  by_cases h8 : q = 8
  · subst h8; simp [wrap_id (x := 64) (by omega), wrap_id (x := 66) (by omega)]
  by_cases h16 : q = 16
  · subst h16; simp [wrap_id (x := 128) (by omega), wrap_id (x := 130) (by omega)]
  have e1 : (q == 1) = false := by simp [h1]
  have e2 : (q == 2) = false := by simp [h2]
  have e4 : (q == 4) = false := by simp [h4]
  have e8 : (q == 8) = false := by simp [h8]
  have e16 : (q == 16) = false := by simp [h16]
  simp [e1, e2, e4, e8, e16, h1, h2, h4, h8, h16]
end Go.Proofs.YtknoiemnpllapaaGreat
end

section
namespace Go.Proofs.YtknoiemnpllapaaGreat
open Go Go.PS
/-- Does the window [a, b) hold x? -/
def holds (a b x : Int) : Bool := decide (0 ≤ a ∧ a ≤ x ∧ x < b)
theorem f69 (n : Nat) (a b x : Int) (hp : Heap) : evalCall Tryz.prog hints (n + 1) 69 [.agg [.int .i64 a, .int .i64 b], .int .i64 x] hp = some (.bool (holds a b x), hp, false) := by
  rw [evalCall_at _ _ _ hh69 rfl Tryz.func69 rfl (Nat.le_of_ble_eq_true rfl) rfl]
  unfold holds
  by_cases h1 : 0 ≤ a
  · have h1' : ¬ a < 0 := by omega
    by_cases h2 : a ≤ x
    · have h2' : ¬ x < a := by omega
      simp [h1, h2, h1', h2']
    · have h2' : x < a := by omega
      simp [h1, h2, h1', h2']
  · have h1' : a < 0 := by omega
    simp [h1, h1']
theorem f68 (n : Nat) (a b : Int) (hp : Heap) : evalCall Tryz.prog hints (n + 2) 68 [.agg [.int .i64 a, .int .i64 b]] hp = some (.bool (decide (0 ≤ a ∧ a < b)), hp, false) := by
  have e := fun hp => f69 n a b a hp
  rw [evalCall_at _ _ _ hh68 rfl Tryz.func68 rfl (Nat.le_of_ble_eq_true rfl) rfl]
  simp [e, holds]
/-- Do two windows meet? -/
def meets (a b c d : Int) : Bool := decide (0 ≤ a ∧ a < b) && decide (0 ≤ c ∧ c < d) && (holds a b c || holds c d a)
theorem f32 (n : Nat) (a b c d : Int) (hp : Heap) : evalCall Tryz.prog hints (n + 3) 32 [.agg [.int .i64 a, .int .i64 b], .agg [.int .i64 c, .int .i64 d]] hp = some (.bool (meets a b c d), hp, false) := by
  have e1 := fun hp => f68 n a b hp
  have e2 := fun hp => f68 n c d hp
  have e3 := fun hp => f69 (n + 1) a b c hp
  have e4 := fun hp => f69 (n + 1) c d a hp
  rw [evalCall_at _ _ _ hh32 rfl Tryz.func32 rfl (Nat.le_of_ble_eq_true rfl) rfl]
  unfold meets
  generalize decide (0 ≤ a ∧ a < b) = x at *
  generalize decide (0 ≤ c ∧ c < d) = y at *
  generalize holds a b c = z at *
  generalize holds c d a = w at *
  cases x <;> cases y <;> cases z <;> simp [e1, e2, e3, e4]
theorem f30 (n : Nat) (a b c d : Int) (hp : Heap) (h1 : -100000 ≤ a ∧ a ≤ 100000) (h2 : -100000 ≤ b ∧ b ≤ 100000) (h3 : -100000 ≤ c ∧ c ≤ 100000) (h4 : -100000 ≤ d ∧ d ≤ 100000) :
    evalCall Tryz.prog hints (n + 4) 30 [.int .i64 a, .int .i64 b, .int .i64 c, .int .i64 d] hp = some (.bool (meets a (a + b) c (c + d)), hp, false) := by
  have e := fun hp => f32 n a (a + b) c (c + d) hp
  have w1 := wrap_id (x := a + b) (by omega)
  have w2 := wrap_id (x := c + d) (by omega)
  rw [evalCall_at _ _ _ hh30 rfl Tryz.func30 rfl (Nat.le_of_ble_eq_true rfl) rfl]
  simp [e, w1, w2]
theorem f67 (n : Nat) (q : Int) (hp : Heap) : evalCall Tryz.prog hints (n + 1) 67 [.int .i64 q] hp = some (.int .i64 (ring q), hp, false) := by
  rw [evalCall_at _ _ _ hh67 rfl Tryz.func67 rfl (Nat.le_of_ble_eq_true rfl) rfl]
  unfold ring
  by_cases h1 : q = 1
  · subst h1; simp [wrap_id (x := 8) (by omega), wrap_id (x := 10) (by omega)]
  by_cases h2 : q = 2
  · subst h2; simp [wrap_id (x := 16) (by omega), wrap_id (x := 18) (by omega)]
  by_cases h4 : q = 4
  · subst h4; simp [wrap_id (x := 32) (by omega), wrap_id (x := 34) (by omega)]
  by_cases h8 : q = 8
  · subst h8; simp [wrap_id (x := 64) (by omega), wrap_id (x := 66) (by omega)]
  by_cases h16 : q = 16
  · subst h16; simp [wrap_id (x := 128) (by omega), wrap_id (x := 130) (by omega)]
  have e1 : (q == 1) = false := by simp [h1]
  have e2 : (q == 2) = false := by simp [h2]
  have e4 : (q == 4) = false := by simp [h4]
  have e8 : (q == 8) = false := by simp [h8]
  have e16 : (q == 16) = false := by simp [h16]
  simp [e1, e2, e4, e8, e16, h1, h2, h4, h8, h16]
end Go.Proofs.YtknoiemnpllapaaGreat
end

section
namespace Go.Proofs.YtknoiemnpllapaaGreat
open Go Go.PS
/-- A client that is right. -/
structure Cl where
  base : Int
  size : Int
  q : Int
  at_ : Int
  n : Int
  pr : Int
  id : Int
  irq : Int
  hb : Int
  hn : Int
def Cl.cells (c : Cl) : List PV := [.int .i64 c.base, .int .i64 c.size, .int .i64 c.q, .int .i64 c.at_, .int .i64 c.n, .int .i64 c.pr, .int .i64 c.id, .int .i64 c.irq, .int .i64 c.hb, .int .i64 c.hn]
theorem Cl.len (c : Cl) : c.cells.length = 10 := rfl
def Cl.ok (c : Cl) : Prop := 32 ≤ c.size ∧ c.size ≤ 1024 ∧ 128 ≤ c.base ∧ c.base ≤ 16384 - c.size ∧ ring c.q ≠ 0 ∧ 0 ≤ c.at_ ∧ c.at_ ≤ c.size - ring c.q ∧ 1 ≤ c.n ∧ c.n ≤ 16 ∧ 0 ≤ c.pr ∧ c.pr ≤ 16 ∧ 0 ≤ c.id ∧ c.id ≤ 255 ∧ 0 ≤ c.irq ∧ c.irq ≤ 255 ∧ 0 ≤ c.hn ∧ c.hn ≤ 64 ∧ 0 ≤ c.hb ∧ c.hb ≤ 512 - c.hn
theorem ring_le (q : Int) : 0 ≤ ring q ∧ ring q ≤ 130 := by unfold ring; split <;> omega
theorem f29 (n : Nat) (c : Cl) (hp : Heap) (h : c.ok) : evalCall Tryz.prog hints (n + 2) 29 [.agg c.cells] hp = some (.bool false, hp, false) := by
  obtain ⟨h1, h2, h3, h4, h5, h6, h7, h8, h9, h10, h11, h12, h13, h14, h15, h16, h17, h18, h19⟩ := h
  have r := ring_le c.q
  have e := fun hp => f67 n c.q hp
  have w1 := wrap_id (x := 16384 - c.size) (by omega)
  have w2 := wrap_id (x := c.size - ring c.q) (by omega)
  have w3 := wrap_id (x := 512 - c.hn) (by omega)
  rw [evalCall_at _ _ _ hh29 rfl Tryz.func29 rfl (Nat.le_of_ble_eq_true rfl) rfl]
  obtain ⟨base, size, q, at_, nn, pr, id, irq, hb, hn⟩ := c
  simp only [Cl.cells] at *
  have g1 : ¬ size < 32 := by omega
  have g2 : ¬ 1024 < size := by omega
  have g3 : ¬ base < 128 := by omega
  have g4 : ¬ 16384 - size < base := by omega
  have g6 : ¬ at_ < 0 := by omega
  have g7 : ¬ size - ring q < at_ := by omega
  have g8 : ¬ nn < 1 := by omega
  have g9 : ¬ 16 < nn := by omega
  have g10 : ¬ pr < 0 := by omega
  have g11 : ¬ 16 < pr := by omega
  have g12 : ¬ id < 0 := by omega
  have g13 : ¬ 255 < id := by omega
  have g14 : ¬ irq < 0 := by omega
  have g15 : ¬ 255 < irq := by omega
  have g16 : ¬ hn < 0 := by omega
  have g17 : ¬ 64 < hn := by omega
  have g18 : ¬ hb < 0 := by omega
  have g19 : ¬ 512 - hn < hb := by omega
  have g5 : (ring q == 0) = false := by simp [h5]
  simp [e, w1, w2, w3, g1, g2, g3, g4, g5, g6, g7, g8, g9, g10, g11, g12, g13, g14, g15, g16, g17, g18, g19]
  try omega
end Go.Proofs.YtknoiemnpllapaaGreat
end

section
namespace Go.Proofs.YtknoiemnpllapaaGreat
open Go Go.PS
/-- A window, or a slot. -/
structure R3 where
  o : Int
  a : Int
  b : Int
def R3.cells (c : R3) : List PV := [.int .i64 c.o, .int .i64 c.a, .int .i64 c.b]
theorem R3.len (c : R3) : c.cells.length = 3 := rfl
structure Tab where
  f : Int
  W : List R3
  S : List R3
  C : List Cl
def Tab.cells (t : Tab) : List PV := [.int .i64 t.f, .sl .sh t.W.length (t.W.flatMap R3.cells), .sl .sh t.S.length (t.S.flatMap R3.cells), .sl .sh t.C.length (t.C.flatMap Cl.cells)]
end Go.Proofs.YtknoiemnpllapaaGreat
end
