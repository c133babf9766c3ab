/-
  What functions of this program compute, as equations about the evaluator. No condition but those stated.
-/
import Derived.Test.YtaiiboplopljoaaGreatEqsS

set_option linter.all false
section
namespace Go.Proofs.YtaiiboplopljoaaGreat
open Go Go.PS
set_option maxHeartbeats 40000000 in
theorem step2 (n j : Nat) (s : List UInt8) (p : Nat) (HP : Rd → Heap) (h : RdH s j HP) (hr : p ≤ s.length) (hs : s.length ≤ 100000) (f : Int) (t1 t2 t3 : Nat) (W S : List R3) (C : List Cl) (ht : t3 = 10 ∨ t3 = 0 ∧ C = []) (hW : C.length ≤ 100000) (m : Nat) (b : Nat) (d : Bool) (hm : m ≤ 255) :
    cK (head52 1002) (evalCode Tryz.prog hint52 (fun f => (hints f).own) (evalCall Tryz.prog hints (n + 3)) (n + 3) (scopeOf Tryz.f52.body) (some 2) (tS j f t1 t2 t3 W S C ((m : Int) + 1) (HP ⟨p, false⟩) b d)) = some (.goto 2, tS j f t1 t2 10 W S (C ++ [(rdCl s ⟨p, false⟩).1]) m (HP (rdCl s ⟨p, false⟩).2) b true) := by
  have e1 := f83 n j s ⟨p, false⟩ HP h hr hs
  have p1 : (rdTwo s ⟨p, false⟩).2.p ≤ s.length := rdTake_p hr
  have e2 := f83 n j s (rdTwo s ⟨p, false⟩).2 HP h p1 hs
  have p2 : (rdTwo s (rdTwo s ⟨p, false⟩).2).2.p ≤ s.length := rdTake_p p1
  have q2 : (rdTwo s ⟨p, false⟩).2.e = true → rdTwo s (rdTwo s ⟨p, false⟩).2 = (0, (rdTwo s ⟨p, false⟩).2) := fun h => by
    generalize (rdTwo s ⟨p, false⟩).2 = x at *
    obtain ⟨xp, xe⟩ := x
    simp only at h; subst h
    exact rdTwo_err _ _
  have e3 := f84 n j s (rdTwo s (rdTwo s ⟨p, false⟩).2).2 HP h p2 hs
  have p3 : (rdByte s (rdTwo s (rdTwo s ⟨p, false⟩).2).2).2.p ≤ s.length := rdTake_p p2
  have q3 : (rdTwo s (rdTwo s ⟨p, false⟩).2).2.e = true → rdByte s (rdTwo s (rdTwo s ⟨p, false⟩).2).2 = (0, (rdTwo s (rdTwo s ⟨p, false⟩).2).2) := fun h => by
    generalize (rdTwo s (rdTwo s ⟨p, false⟩).2).2 = x at *
    obtain ⟨xp, xe⟩ := x
    simp only at h; subst h
    exact rdByte_err _ _
  have e4 := f83 n j s (rdByte s (rdTwo s (rdTwo s ⟨p, false⟩).2).2).2 HP h p3 hs
  have p4 : (rdTwo s (rdByte s (rdTwo s (rdTwo s ⟨p, false⟩).2).2).2).2.p ≤ s.length := rdTake_p p3
  have q4 : (rdByte s (rdTwo s (rdTwo s ⟨p, false⟩).2).2).2.e = true → rdTwo s (rdByte s (rdTwo s (rdTwo s ⟨p, false⟩).2).2).2 = (0, (rdByte s (rdTwo s (rdTwo s ⟨p, false⟩).2).2).2) := fun h => by
    generalize (rdByte s (rdTwo s (rdTwo s ⟨p, false⟩).2).2).2 = x at *
    obtain ⟨xp, xe⟩ := x
    simp only at h; subst h
    exact rdTwo_err _ _
  have e5 := f84 n j s (rdTwo s (rdByte s (rdTwo s (rdTwo s ⟨p, false⟩).2).2).2).2 HP h p4 hs
  have p5 : (rdByte s (rdTwo s (rdByte s (rdTwo s (rdTwo s ⟨p, false⟩).2).2).2).2).2.p ≤ s.length := rdTake_p p4
  have q5 : (rdTwo s (rdByte s (rdTwo s (rdTwo s ⟨p, false⟩).2).2).2).2.e = true → rdByte s (rdTwo s (rdByte s (rdTwo s (rdTwo s ⟨p, false⟩).2).2).2).2 = (0, (rdTwo s (rdByte s (rdTwo s (rdTwo s ⟨p, false⟩).2).2).2).2) := fun h => by
    generalize (rdTwo s (rdByte s (rdTwo s (rdTwo s ⟨p, false⟩).2).2).2).2 = x at *
    obtain ⟨xp, xe⟩ := x
    simp only at h; subst h
    exact rdByte_err _ _
  have e6 := f84 n j s (rdByte s (rdTwo s (rdByte s (rdTwo s (rdTwo s ⟨p, false⟩).2).2).2).2).2 HP h p5 hs
  have p6 : (rdByte s (rdByte s (rdTwo s (rdByte s (rdTwo s (rdTwo s ⟨p, false⟩).2).2).2).2).2).2.p ≤ s.length := rdTake_p p5
  have q6 : (rdByte s (rdTwo s (rdByte s (rdTwo s (rdTwo s ⟨p, false⟩).2).2).2).2).2.e = true → rdByte s (rdByte s (rdTwo s (rdByte s (rdTwo s (rdTwo s ⟨p, false⟩).2).2).2).2).2 = (0, (rdByte s (rdTwo s (rdByte s (rdTwo s (rdTwo s ⟨p, false⟩).2).2).2).2).2) := fun h => by
    generalize (rdByte s (rdTwo s (rdByte s (rdTwo s (rdTwo s ⟨p, false⟩).2).2).2).2).2 = x at *
    obtain ⟨xp, xe⟩ := x
    simp only at h; subst h
    exact rdByte_err _ _
  have e7 := f84 n j s (rdByte s (rdByte s (rdTwo s (rdByte s (rdTwo s (rdTwo s ⟨p, false⟩).2).2).2).2).2).2 HP h p6 hs
  have p7 : (rdByte s (rdByte s (rdByte s (rdTwo s (rdByte s (rdTwo s (rdTwo s ⟨p, false⟩).2).2).2).2).2).2).2.p ≤ s.length := rdTake_p p6
  have q7 : (rdByte s (rdByte s (rdTwo s (rdByte s (rdTwo s (rdTwo s ⟨p, false⟩).2).2).2).2).2).2.e = true → rdByte s (rdByte s (rdByte s (rdTwo s (rdByte s (rdTwo s (rdTwo s ⟨p, false⟩).2).2).2).2).2).2 = (0, (rdByte s (rdByte s (rdTwo s (rdByte s (rdTwo s (rdTwo s ⟨p, false⟩).2).2).2).2).2).2) := fun h => by
    generalize (rdByte s (rdByte s (rdTwo s (rdByte s (rdTwo s (rdTwo s ⟨p, false⟩).2).2).2).2).2).2 = x at *
    obtain ⟨xp, xe⟩ := x
    simp only at h; subst h
    exact rdByte_err _ _
  have e8 := f84 n j s (rdByte s (rdByte s (rdByte s (rdTwo s (rdByte s (rdTwo s (rdTwo s ⟨p, false⟩).2).2).2).2).2).2).2 HP h p7 hs
  have p8 : (rdByte s (rdByte s (rdByte s (rdByte s (rdTwo s (rdByte s (rdTwo s (rdTwo s ⟨p, false⟩).2).2).2).2).2).2).2).2.p ≤ s.length := rdTake_p p7
  have q8 : (rdByte s (rdByte s (rdByte s (rdTwo s (rdByte s (rdTwo s (rdTwo s ⟨p, false⟩).2).2).2).2).2).2).2.e = true → rdByte s (rdByte s (rdByte s (rdByte s (rdTwo s (rdByte s (rdTwo s (rdTwo s ⟨p, false⟩).2).2).2).2).2).2).2 = (0, (rdByte s (rdByte s (rdByte s (rdTwo s (rdByte s (rdTwo s (rdTwo s ⟨p, false⟩).2).2).2).2).2).2).2) := fun h => by
    generalize (rdByte s (rdByte s (rdByte s (rdTwo s (rdByte s (rdTwo s (rdTwo s ⟨p, false⟩).2).2).2).2).2).2).2 = x at *
    obtain ⟨xp, xe⟩ := x
    simp only at h; subst h
    exact rdByte_err _ _
  have e9 := f83 n j s (rdByte s (rdByte s (rdByte s (rdByte s (rdTwo s (rdByte s (rdTwo s (rdTwo s ⟨p, false⟩).2).2).2).2).2).2).2).2 HP h p8 hs
  have p9 : (rdTwo s (rdByte s (rdByte s (rdByte s (rdByte s (rdTwo s (rdByte s (rdTwo s (rdTwo s ⟨p, false⟩).2).2).2).2).2).2).2).2).2.p ≤ s.length := rdTake_p p8
  have q9 : (rdByte s (rdByte s (rdByte s (rdByte s (rdTwo s (rdByte s (rdTwo s (rdTwo s ⟨p, false⟩).2).2).2).2).2).2).2).2.e = true → rdTwo s (rdByte s (rdByte s (rdByte s (rdByte s (rdTwo s (rdByte s (rdTwo s (rdTwo s ⟨p, false⟩).2).2).2).2).2).2).2).2 = (0, (rdByte s (rdByte s (rdByte s (rdByte s (rdTwo s (rdByte s (rdTwo s (rdTwo s ⟨p, false⟩).2).2).2).2).2).2).2).2) := fun h => by
    generalize (rdByte s (rdByte s (rdByte s (rdByte s (rdTwo s (rdByte s (rdTwo s (rdTwo s ⟨p, false⟩).2).2).2).2).2).2).2).2 = x at *
    obtain ⟨xp, xe⟩ := x
    simp only at h; subst h
    exact rdTwo_err _ _
  have e10 := f84 n j s (rdTwo s (rdByte s (rdByte s (rdByte s (rdByte s (rdTwo s (rdByte s (rdTwo s (rdTwo s ⟨p, false⟩).2).2).2).2).2).2).2).2).2 HP h p9 hs
  have p10 : (rdByte s (rdTwo s (rdByte s (rdByte s (rdByte s (rdByte s (rdTwo s (rdByte s (rdTwo s (rdTwo s ⟨p, false⟩).2).2).2).2).2).2).2).2).2).2.p ≤ s.length := rdTake_p p9
  have q10 : (rdTwo s (rdByte s (rdByte s (rdByte s (rdByte s (rdTwo s (rdByte s (rdTwo s (rdTwo s ⟨p, false⟩).2).2).2).2).2).2).2).2).2.e = true → rdByte s (rdTwo s (rdByte s (rdByte s (rdByte s (rdByte s (rdTwo s (rdByte s (rdTwo s (rdTwo s ⟨p, false⟩).2).2).2).2).2).2).2).2).2 = (0, (rdTwo s (rdByte s (rdByte s (rdByte s (rdByte s (rdTwo s (rdByte s (rdTwo s (rdTwo s ⟨p, false⟩).2).2).2).2).2).2).2).2).2) := fun h => by
    generalize (rdTwo s (rdByte s (rdByte s (rdByte s (rdByte s (rdTwo s (rdByte s (rdTwo s (rdTwo s ⟨p, false⟩).2).2).2).2).2).2).2).2).2 = x at *
    obtain ⟨xp, xe⟩ := x
    simp only at h; subst h
    exact rdByte_err _ _
  have e51 := f51 (n + 2) j s ⟨p, false⟩ HP h
  have lW := flat_len Cl.len C
  have aW : (C.flatMap Cl.cells).all storable = true := flat_all (f := Cl.cells) (fun _ => rfl) _
  have hfm : (C ++ [(rdCl s ⟨p, false⟩).1]).flatMap Cl.cells = C.flatMap Cl.cells ++ (rdCl s ⟨p, false⟩).1.cells := by rw [List.flatMap_append]; simp
  unfold tS
  rw [hfm, List.length_append, List.length_singleton]
  unfold rdCl
  have m0 : (0 : Int) < (m : Int) + 1 := by omega
  have w := wrap_id (x := (m : Int)) (by omega)
  have m1 : (C.length + 1) * 80 ≤ 140737488355328 := by omega
  generalize C.flatMap Cl.cells = Z at *
  generalize hr1 : rdTwo s ⟨p, false⟩ = x1 at *
  obtain ⟨v1, ⟨p1', b1⟩⟩ := x1
  generalize hr2 : rdTwo s ⟨p1', b1⟩ = x2 at *
  obtain ⟨v2, ⟨p2', b2⟩⟩ := x2
  generalize hr3 : rdByte s ⟨p2', b2⟩ = x3 at *
  obtain ⟨v3, ⟨p3', b3⟩⟩ := x3
  generalize hr4 : rdTwo s ⟨p3', b3⟩ = x4 at *
  obtain ⟨v4, ⟨p4', b4⟩⟩ := x4
  generalize hr5 : rdByte s ⟨p4', b4⟩ = x5 at *
  obtain ⟨v5, ⟨p5', b5⟩⟩ := x5
  generalize hr6 : rdByte s ⟨p5', b5⟩ = x6 at *
  obtain ⟨v6, ⟨p6', b6⟩⟩ := x6
  generalize hr7 : rdByte s ⟨p6', b6⟩ = x7 at *
  obtain ⟨v7, ⟨p7', b7⟩⟩ := x7
  generalize hr8 : rdByte s ⟨p7', b7⟩ = x8 at *
  obtain ⟨v8, ⟨p8', b8⟩⟩ := x8
  generalize hr9 : rdTwo s ⟨p8', b8⟩ = x9 at *
  obtain ⟨v9, ⟨p9', b9⟩⟩ := x9
  generalize hr10 : rdByte s ⟨p9', b9⟩ = x10 at *
  obtain ⟨v10, ⟨p10', b10⟩⟩ := x10
  simp only at *
  simp only [Tryz.f52, scopeOf]
  have tt : t3 = 10 ∨ t3 = 0 ∧ C.length = 0 := by
    rcases ht with h | ⟨h1, h2⟩
    · exact .inl h
    · exact .inr ⟨h1, by rw [h2]; rfl⟩
  generalize W.flatMap R3.cells = X at *
  generalize S.flatMap R3.cells = Y at *
  generalize W.length = Wl at *
  generalize S.length = Sl at *
  generalize C.length = Cll at *
  cases b1 with
  | true =>
    have q := q2 rfl
    cases q
    have q := q3 rfl
    cases q
    have q := q4 rfl
    cases q
    have q := q5 rfl
    cases q
    have q := q6 rfl
    cases q
    have q := q7 rfl
    cases q
    have q := q8 rfl
    cases q
    have q := q9 rfl
    cases q
    have q := q10 rfl
    cases q
    simp [-getElem?_pos, List.getElem?_cons_zero, List.getElem?_cons_succ, m0, w, e51, e1, e2, e3, e4, e5, e6, e7, e8, e9, e10, lW, aW, m1, tt, Cl.cells, hr1, hr2, hr3, hr4, hr5, hr6, hr7, hr8, hr9, hr10]
  | false =>
    cases b2 with
    | true =>
      have q := q3 rfl
      cases q
      have q := q4 rfl
      cases q
      have q := q5 rfl
      cases q
      have q := q6 rfl
      cases q
      have q := q7 rfl
      cases q
      have q := q8 rfl
      cases q
      have q := q9 rfl
      cases q
      have q := q10 rfl
      cases q
      simp [-getElem?_pos, List.getElem?_cons_zero, List.getElem?_cons_succ, m0, w, e51, e1, e2, e3, e4, e5, e6, e7, e8, e9, e10, lW, aW, m1, tt, Cl.cells, hr1, hr2, hr3, hr4, hr5, hr6, hr7, hr8, hr9, hr10]
    | false =>
      cases b3 with
      | true =>
        have q := q4 rfl
        cases q
        have q := q5 rfl
        cases q
        have q := q6 rfl
        cases q
        have q := q7 rfl
        cases q
        have q := q8 rfl
        cases q
        have q := q9 rfl
        cases q
        have q := q10 rfl
        cases q
        simp [-getElem?_pos, List.getElem?_cons_zero, List.getElem?_cons_succ, m0, w, e51, e1, e2, e3, e4, e5, e6, e7, e8, e9, e10, lW, aW, m1, tt, Cl.cells, hr1, hr2, hr3, hr4, hr5, hr6, hr7, hr8, hr9, hr10]
      | false =>
        cases b4 with
        | true =>
          have q := q5 rfl
          cases q
          have q := q6 rfl
          cases q
          have q := q7 rfl
          cases q
          have q := q8 rfl
          cases q
          have q := q9 rfl
          cases q
          have q := q10 rfl
          cases q
          simp [-getElem?_pos, List.getElem?_cons_zero, List.getElem?_cons_succ, m0, w, e51, e1, e2, e3, e4, e5, e6, e7, e8, e9, e10, lW, aW, m1, tt, Cl.cells, hr1, hr2, hr3, hr4, hr5, hr6, hr7, hr8, hr9, hr10]
        | false =>
          cases b5 with
          | true =>
            have q := q6 rfl
            cases q
            have q := q7 rfl
            cases q
            have q := q8 rfl
            cases q
            have q := q9 rfl
            cases q
            have q := q10 rfl
            cases q
            simp [-getElem?_pos, List.getElem?_cons_zero, List.getElem?_cons_succ, m0, w, e51, e1, e2, e3, e4, e5, e6, e7, e8, e9, e10, lW, aW, m1, tt, Cl.cells, hr1, hr2, hr3, hr4, hr5, hr6, hr7, hr8, hr9, hr10]
          | false =>
            cases b6 with
            | true =>
              have q := q7 rfl
              cases q
              have q := q8 rfl
              cases q
              have q := q9 rfl
              cases q
              have q := q10 rfl
              cases q
              simp [-getElem?_pos, List.getElem?_cons_zero, List.getElem?_cons_succ, m0, w, e51, e1, e2, e3, e4, e5, e6, e7, e8, e9, e10, lW, aW, m1, tt, Cl.cells, hr1, hr2, hr3, hr4, hr5, hr6, hr7, hr8, hr9, hr10]
            | false =>
              cases b7 with
              | true =>
                have q := q8 rfl
                cases q
                have q := q9 rfl
                cases q
                have q := q10 rfl
                cases q
                simp [-getElem?_pos, List.getElem?_cons_zero, List.getElem?_cons_succ, m0, w, e51, e1, e2, e3, e4, e5, e6, e7, e8, e9, e10, lW, aW, m1, tt, Cl.cells, hr1, hr2, hr3, hr4, hr5, hr6, hr7, hr8, hr9, hr10]
              | false =>
                cases b8 with
                | true =>
                  have q := q9 rfl
                  cases q
                  have q := q10 rfl
                  cases q
                  simp [-getElem?_pos, List.getElem?_cons_zero, List.getElem?_cons_succ, m0, w, e51, e1, e2, e3, e4, e5, e6, e7, e8, e9, e10, lW, aW, m1, tt, Cl.cells, hr1, hr2, hr3, hr4, hr5, hr6, hr7, hr8, hr9, hr10]
                | false =>
                  cases b9 with
                  | true =>
                    have q := q10 rfl
                    cases q
                    simp [-getElem?_pos, List.getElem?_cons_zero, List.getElem?_cons_succ, m0, w, e51, e1, e2, e3, e4, e5, e6, e7, e8, e9, e10, lW, aW, m1, tt, Cl.cells, hr1, hr2, hr3, hr4, hr5, hr6, hr7, hr8, hr9, hr10]
                  | false =>
                    simp [-getElem?_pos, List.getElem?_cons_zero, List.getElem?_cons_succ, m0, w, e51, e1, e2, e3, e4, e5, e6, e7, e8, e9, e10, lW, aW, m1, tt, Cl.cells, hr1, hr2, hr3, hr4, hr5, hr6, hr7, hr8, hr9, hr10]
end Go.Proofs.YtaiiboplopljoaaGreat
end
