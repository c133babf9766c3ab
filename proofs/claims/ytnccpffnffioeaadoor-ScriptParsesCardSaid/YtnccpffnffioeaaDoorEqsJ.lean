/-
  What functions of this program compute, as equations about the evaluator. No condition but those stated.
-/
import Derived.Test.YtnccpffnffioeaaDoorEqsH

set_option linter.all false
section
namespace Go.Proofs.YtnccpffnffioeaaDoor
open Go Go.PS
theorem f4 (n : Nat) (hp : Heap) : evalCall Tryd.prog hints (n + 1) 4 [] hp = some (.bool true, hp, false) := rfl
theorem rows0 : RowsOf [] A0.ts := trivial
theorem rowsR0 : RowsR [] A0.ts := trivial
theorem pl_bool (b : Bool) : plain (.bool b) = true := rfl
theorem pl_two (s : List UInt8) (x : Int) : plain (.tup [.str s, .int .i64 x]) = true := rfl
theorem long_row (ts : List (List Evt)) (t : List Evt) (h : t ∈ ts) : t.length ≤ sumE ts := by
  induction ts with
  | nil => cases h
  | cons u ts ih =>
    have e : sumE (u :: ts) = u.length + sumE ts := by simp [sumE]
    rcases List.mem_cons.1 h with rfl | h
    · omega
    · have := ih h; omega
set_option maxHeartbeats 4000000 in
theorem f3 (n : Nat) (s : List UInt8) (hn : 6000 < n) : fstR (evalCall Tryd.prog hints (n + 60) 3 [.str s] []) = some (.bool true) := by
  have e4 := fun hp => f4 (n + 58) hp
  rw [evalCall_at _ _ _ hh3 rfl Tryd.func3 rfl (Nat.le_of_ble_eq_true rfl) rfl]
  by_cases hs : s.length ≤ 3000
  · have hs' : ¬ ((3000 : Int) < s.length) := by omega
    obtain ⟨rows, h5, hrows⟩ := f5 (n + 46) s hs (by omega)
    obtain ⟨hp, d, e5⟩ := of_map h5
    have e6 : ∀ H, ∃ rowsR, evalCall Tryd.prog hints (n + 59) 6 [.str s] H = some (.tup [.agg (if (parseL s).2.2 = 0 then scC (parseL s).1 rowsR else sc0), .int .i64 (parseL s).2.1, .int .i64 (parseL s).2.2], H, false) ∧ ((parseL s).2.2 = 0 → RowsR rowsR (parseL s).1.ts) := by
      intro H
      have := f6 (n + 19) s H hs (by omega)
      rw [parse_eq] at this
      exact this
    have hgood := good_parse s hs
    generalize parseL s = q at *
    obtain ⟨a, i, er⟩ := q
    simp only at e5 e6 hrows hgood
    by_cases c : er = 0
    · subst c
      obtain ⟨g, hpr⟩ := hgood rfl
      have r1 := hrows rfl
      rw [if_pos rfl] at e5
      have e7 : ∀ rowsR H, RowsR rowsR a.ts → evalCall Tryd.prog hints (n + 59) 7 [.agg (scC a rows), .agg (scC a rowsR)] H = some (.bool true, H, false) := fun rowsR H r2 =>
        f7 (n + 35) a rows rowsR H r1 r2 (by have := g.ps; omega) (by have := g.ts; omega) (fun t ht => by have := long_row a.ts t ht; have := g.sum; omega) (by omega)
      have e8 : ∀ H, ∃ hp', evalCall Tryd.prog hints (n + 59) 8 [.agg (scC a rows)] H = some (.tup [.str s, .int .i64 0], hp', false) := by
        intro H
        obtain ⟨hp', e8⟩ := f8 (n + 19) a rows H r1 g.ps (by have := g.ts; omega) (by have := g.sum; omega) g.img g.pl g.ok (by rw [hpr]; exact hs) (by omega)
        rw [hpr] at e8
        exact ⟨hp', e8⟩
      obtain ⟨ra, ea6, ra2⟩ := e6 hp
      obtain ⟨rb, eb6, rb2⟩ := e6 []
      have ea7 := e7 ra hp (ra2 rfl)
      have eb7 := e7 rb [] (rb2 rfl)
      obtain ⟨ha, ea8⟩ := e8 hp
      obtain ⟨hb, eb8⟩ := e8 []
      rw [if_pos rfl] at ea6 eb6
      have ht1 : ∃ P1, P1 = plain (.tup [.agg (scC a rows), .int .i64 i, .int .i64 (0 : Nat)]) := ⟨_, rfl⟩
      clear e6 e7 e8 hgood hrows h5
      obtain ⟨P1, hP1⟩ := ht1
      simp only [scC] at e5 ea6 eb6 ea7 eb7 ea8 eb8 hP1
      generalize a.ps.map PV.str = PS at *
      generalize a.ps.length = pn at *
      generalize a.img = im at *
      simp only [c0i] at hP1 e5 ea6 eb6
      cases d
      · cases P1
        · simp [-getElem?_pos, -plain, List.getElem?_cons_zero, List.getElem?_cons_succ, pl_bool, pl_two, ← hP1, hs', e4, e5, ea6, ea7, ea8, shareRange]
        · simp [-getElem?_pos, -plain, List.getElem?_cons_zero, List.getElem?_cons_succ, pl_bool, pl_two, ← hP1, hs', e4, e5, eb6, eb7, eb8, shareRange]
      · simp [-getElem?_pos, List.getElem?_cons_zero, List.getElem?_cons_succ, hs', e4, e5, ea6, ea7, ea8, shareRange]
    · obtain ⟨ra, ea6, _⟩ := e6 hp
      obtain ⟨rb, eb6, _⟩ := e6 []
      rw [if_neg c] at e5 ea6 eb6
      have e7 : ∀ H, evalCall Tryd.prog hints (n + 59) 7 [.agg sc0, .agg sc0] H = some (.bool true, H, false) := fun H => f7 (n + 35) A0 [] [] H rows0 rowsR0 (by decide) (by decide) (fun t ht => by cases ht) (by omega)
      have c' : ((er : Int) != 0) = true := by simp; omega
      simp only [sc0] at e5 ea6 eb6 e7
      cases d
      · simp [-getElem?_pos, List.getElem?_cons_zero, List.getElem?_cons_succ, hs', e4, e5, eb6, e7, c', shareRange]
      · simp [-getElem?_pos, List.getElem?_cons_zero, List.getElem?_cons_succ, hs', e4, e5, ea6, e7, c', shareRange]
  · have hs' : (3000 : Int) < s.length := by omega
    simp [hs', e4]
end Go.Proofs.YtnccpffnffioeaaDoor
end
