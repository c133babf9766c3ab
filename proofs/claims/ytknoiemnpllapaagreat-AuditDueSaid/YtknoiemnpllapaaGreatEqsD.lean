/-
  What functions of this program compute, as equations about the evaluator. No condition but those stated.
-/
import Derived.Test.YtknoiemnpllapaaGreatEqsB
import Derived.Test.YtknoiemnpllapaaGreatEqsA
import Derived.Test.YtknoiemnpllapaaGreatEqsC

set_option linter.all false
section
namespace Go.Proofs.YtknoiemnpllapaaGreat
open Go Go.PS
def unit1 (t : Tab) (r : Int) (w : R3) : Int := if w.o = r ∧ okS t w = true then (w.b - w.a) / 4 else 0
def units (t : Tab) (r : Int) : List R3 → Int
  | [] => 0
  | w :: l => unit1 t r w + units t r l
theorem unit1_b (t : Tab) (r : Int) (w : R3) (hf : t.f ≤ 4096) : 0 ≤ unit1 t r w ∧ unit1 t r w ≤ 1024 := by
  unfold unit1 okS; split
  · rename_i h; simp only [decide_eq_true_eq] at h; omega
  · omega
theorem units_b (t : Tab) (r : Int) (hf : t.f ≤ 4096) : ∀ l : List R3, 0 ≤ units t r l ∧ units t r l ≤ 1024 * l.length
  | [] => by simp [units]
  | w :: l => by
    have := unit1_b t r w hf
    have := units_b t r hf l
    simp only [units, List.length_cons]; omega
theorem units_snoc (t : Tab) (r : Int) (w : R3) : ∀ l : List R3, units t r (l ++ [w]) = units t r l + unit1 t r w
  | [] => by simp [units]
  | x :: l => by simp only [List.cons_append, units, units_snoc t r w l]; omega
theorem units_take (t : Tab) (r : Int) (l : List R3) (k : Nat) (h : k < l.length) : units t r (l.take (k + 1)) = units t r (l.take k) + unit1 t r l[k] := by
  rw [List.take_succ_eq_append_getElem h, units_snoc]
set_option maxHeartbeats 1000000 in
theorem f34 (n : Nat) (t : Tab) (r : Int) (hp : Heap) (hf : frameB t = true) (hn : 40 < n) : evalCall Tryz.prog hints (n + 2) 34 [.agg t.cells, .int .i64 r] hp = some (.int .i64 (units t r t.S), hp, false) := by
  have e68 := f13 n t hp
  rw [hf] at e68
  have hf' := hf
  unfold frameB at hf'; simp only [decide_eq_true_eq] at hf'
  have e93 := fun w => f33 n t w hp hf'.2.1
  rw [evalCall_at _ _ _ hh34 rfl Tryz.func34 rfl (Nat.le_of_ble_eq_true rfl) rfl]
  simp only [Tab.cells] at e68 e93 ⊢
  have lS := flat_len R3.len t.S
  have uB := units_b t r hf'.2.1
  have u1 := unit1_b t r
  simp
  rw [iter_count (fun k => { fr := [(1, .int .i64 r), (2, .box t.cells), (5, .int .i64 (units t r (t.S.take k))), (6, .int .i64 k)], hp := hp, base := hp.length, dirty := false }) (.exit 0, { fr := [(1, .int .i64 r), (2, .box t.cells), (5, .int .i64 (units t r t.S)), (6, .int .i64 t.S.length), (15, .bool false)], hp := hp, base := hp.length, dirty := false }) t.S.length]
  · simp
  · simp [units, Tab.cells]
  · omega
  · intro k hk
    have uk := units_take t r t.S k hk
    have ub := uB (t.S.take k)
    have ul : (t.S.take k).length ≤ 32 := by rw [List.length_take]; omega
    have hr := flat_row R3.len t.S k hk
    have g1 := flat_get R3.len t.S k hk 1 (by omega)
    have g2 := flat_get R3.len t.S k hk 2 (by omega)
    have g0 := flat_get R3.len t.S k hk 0 (by omega)
    have e := e93 t.S[k]
    have b1 := u1 t.S[k] hf'.2.1
    have z : k * 3 + 3 ≤ t.S.length * 3 := by omega
    generalize units t r (t.S.take k) = u at *
    rw [uk]
    simp only [Tab.cells]
    unfold unit1 at b1 ⊢
    generalize t.S[k] = w at *
    obtain ⟨o, a, b⟩ := w
    simp only [R3.cells] at *
    generalize t.S.flatMap _ = Y at *
    generalize t.W.flatMap _ = X at *
    generalize t.C.flatMap _ = Z at *
    simp only [Nat.add_zero, List.getElem?_cons_zero, List.getElem?_cons_succ] at g0 g1 g2
    generalize okS t ⟨o, a, b⟩ = ok at *
    have w0 := wrap_id (x := (k : Int) + 1) (by omega)
    by_cases c1 : o = r
    · subst c1
      cases hok : ok with
      | true =>
        subst hok
        rw [if_pos ⟨rfl, rfl⟩] at b1
        have q := td (a := b - a) 4 (by omega)
        have w1 := wrap_id (x := b - a) (by omega)
        have w2 := wrap_id (x := (b - a) / 4) (by omega)
        have w3 := wrap_id (x := u + (b - a) / 4) (by omega)
        simp [-getElem?_pos, List.getElem?_cons_zero, hk, e68, e, lS, hr, g0, g1, g2, z, q, w0, w1, w2, w3]
      | false =>
        subst hok
        simp [-getElem?_pos, List.getElem?_cons_zero, hk, e68, e, lS, hr, g0, g1, g2, z, w0]
    · have c1' : (o == r) = false := by simp [c1]
      simp [-getElem?_pos, List.getElem?_cons_zero, hk, e68, c1, c1', lS, hr, g0, g1, g2, z, w0]
  · rw [List.take_length]
    simp only [Tab.cells]
    generalize t.S.flatMap _ = Y at *
    generalize t.W.flatMap _ = X at *
    generalize t.C.flatMap _ = Z at *
    simp
  · simp
end Go.Proofs.YtknoiemnpllapaaGreat
end

section
namespace Go.Proofs.YtknoiemnpllapaaGreat
open Go Go.PS
def ats {α : Type} (l : List α) (r : Nat) (p : α → Bool) : Bool := match r with | 0 => false | i + 1 => (l[i]?).any p
/-- Is there one ahead of row r that is so with it? -/
def pre {α : Type} (l : List α) (r : Nat) (p : α → α → Bool) : Bool := match r with | 0 => false | i + 1 => (l[i]?).any fun x => (List.range i).any fun k => (l[k]?).any (p x)
def pairC (x y : Cl) : Bool := decide x.ok && decide y.ok && (decide (x.id = y.id) || decide (x.irq = y.irq) || meets x.base (x.base + x.size) y.base (y.base + y.size) || meets x.hb (x.hb + x.hn) y.hb (y.hb + y.hn))
def pairW (x y : R3) : Bool := decide (x.o = y.o) || meets x.a x.b y.a y.b
def pairS (x y : R3) : Bool := meets x.a x.b y.a y.b
def ioW (t : Tab) (r : Nat) : List R3 → Bool
  | [] => false
  | w :: l => if r = 0 then (if w.o = 0 then okW t w && decide (w.b - w.a < 2 * (t.C.length : Int)) else ioW t r l) else false
def overU (t : Tab) (r : Int) (c : Cl) : Bool := decide (units t r t.S < c.n)
def hasB (t : Tab) : Nat → Nat → Bool
  | 2, r => ats t.C r fun c => !decide c.ok
  | 3, r => pre t.C r pairC
  | 4, r => ats t.W r fun w => !okW t w
  | 5, r => pre t.W r pairW
  | 6, r => !t.W.any (fun w => decide (w.o = r)) && decide ((r : Int) ≤ t.C.length)
  | 7, r => ioW t r t.W
  | 8, r => ats t.S r fun w => !okS t w
  | 9, r => pre t.S r pairS
  | _, r => ats t.C r (overU t r)
theorem any_range {α : Type} (p : α → Bool) : ∀ l : List α, (List.range l.length).any (fun k => (l[k]?).any p) = l.any p
  | [] => rfl
  | a :: l => by
    rw [List.length_cons, List.range_succ_eq_map, List.any_cons, List.any_map, List.any_cons, ← any_range p l]
    rfl
theorem ioW_ne (t : Tab) (r : Nat) (hr : r ≠ 0) (l : List R3) : ioW t r l = false := by
  cases l with
  | nil => rfl
  | cons w l => simp [ioW, hr]
theorem ioW_drop (t : Tab) (l : List R3) (k : Nat) (h : k < l.length) : ioW t 0 (l.drop k) = if l[k].o = 0 then okW t l[k] && decide (l[k].b - l[k].a < 2 * (t.C.length : Int)) else ioW t 0 (l.drop (k + 1)) := by
  rw [List.drop_eq_getElem_cons h, ioW]; rfl
end Go.Proofs.YtknoiemnpllapaaGreat
end
