/-
  What functions of this program compute, as equations about the evaluator. No condition but those stated.
-/
import Derived.Test.YtehemoachikpgaaConfEqs7
set_option linter.all false
section
namespace Go.Proofs.Ytehemoachikpgaa
open Go Go.PS
theorem f32n (n : Nat) (t : Tab) (h0 : faults t ≠ []) (hp : Heap) (hn : 60 < n) : evalCall Try.prog hints (n + 20) 32 [.agg t.cells] hp = some (.tup [.nilp, .int .i64 11], hp, false) := by
  obtain ⟨H28, e28⟩ : ∃ H, evalCall Try.prog hints (n + 19) 28 [.agg t.cells] hp = some (.bool (decide ((faults t).length = 0)), H, false) := f28 (n + 8) t hp (by omega)
  rw [decide_eq_false (fun h => h0 (List.length_eq_zero_iff.1 h))] at e28
  rw [evalCall_at _ _ _ hh32 rfl Try.func32 rfl (Nat.le_of_ble_eq_true rfl) rfl]
  simp only [Tab.cells_eq] at *
  generalize t.S.flatMap R3.cells = Y at *
  generalize t.C.flatMap Cl.cells = Z at *
  generalize t.W.flatMap R3.cells = X at *
  simp [-getElem?_pos, List.getElem?_cons_zero, e28]
theorem rgs_get (t : Tab) (i : Nat) (hi : i < t.C.length) : (rgsT t)[i]'(by unfold rgsT; rw [rgsK_len (Nat.le_refl _)]; exact hi) = rgOf t.C[i] i := by
  have e := rgsK_at (l := t.C) (Nat.le_refl _) i hi hi
  have : (rgsT t)[i]? = some (rgOf t.C[i] i) := e
  rw [List.getElem?_eq_getElem (by unfold rgsT; rw [rgsK_len (Nat.le_refl _)]; exact hi)] at this
  exact Option.some.inj this
theorem rgs_len (t : Tab) : (rgsT t).length = t.C.length := rgsK_len (Nat.le_refl _)
theorem rgs_yes (t : Tab) (k : Nat) (hk : k < t.C.length) : hasO (rgsT t) ((k : Int) + 1) = true ∧ rowO (rgsT t) ((k : Int) + 1) = rgOf t.C[k] k := by
  unfold hasO rowO ownI
  cases hx : idx (fun r : R3 => decide (r.o = (k : Int) + 1)) (rgsT t) with
  | none =>
    have := idx_none.1 hx
    have hm : rgOf t.C[k] k ∈ rgsT t := by
      rw [← rgs_get t k hk]; exact List.getElem_mem _
    rw [List.any_eq_true.2 ⟨_, hm, by simp [rgOf]⟩] at this
    cases this
  | some i =>
    obtain ⟨hi, e⟩ := idx_lt hx
    have hi' : i < t.C.length := by rw [rgs_len] at hi; exact hi
    rw [rgs_get t i hi'] at e
    have e := of_decide_eq_true e
    unfold rgOf at e; simp only at e
    have : i = k := by omega
    subst this
    refine ⟨rfl, ?_⟩
    simp only [List.getElem?_eq_getElem hi, Option.getD_some]
    exact rgs_get t i hi'
theorem rgs_no (t : Tab) (o : Int) (h : isC t o = false) : hasO (rgsT t) o = false := by
  unfold hasO ownI
  cases hx : idx (fun r : R3 => decide (r.o = o)) (rgsT t) with
  | none => rfl
  | some i =>
    obtain ⟨hi, e⟩ := idx_lt hx
    have hi' : i < t.C.length := by rw [rgs_len] at hi; exact hi
    rw [rgs_get t i hi'] at e
    have e := of_decide_eq_true e
    unfold rgOf at e; simp only at e
    have := of_decide_eq_false h
    omega
set_option maxHeartbeats 4000000 in
theorem f9 (n : Nat) (t : Tab) (w o : Int) (hor : -9223372036854775808 ≤ o ∧ o < 9223372036854775808) : fstR (evalCall Try.prog hints (n + 200) 9 [.agg t.cells, .int .i64 w, .int .i64 o] []) = some (.bool true) := by
  rw [evalCall_at _ _ _ hh9 rfl Try.func9 rfl (Nat.le_of_ble_eq_true rfl) rfl]
  by_cases h0 : faults t = []
  · have g := good_of h0
    have hf := g.frame
    unfold frameB at hf; simp only [decide_eq_true_eq] at hf
    have hC : t.C.length ≤ 8 := by omega
    have e32 : evalCall Try.prog hints (n + 199) 32 [.agg t.cells] [] = some (.tup [.ptr (.heap 0) none 0, .int .i64 0], hpP [] t, false) := f32 (n + 179) t g [] (by omega)
    have a := planAt t []
    rw [List.length_nil] at a
    generalize PCc t _ _ _ _ = P at a
    generalize 0 + t.S.length + 3 = jr at a
    generalize 0 + t.S.length + 2 = jm at a
    generalize 0 + 1 = js at a
    obtain ⟨H, hH⟩ : ∃ H, H = hpP [] t := ⟨_, rfl⟩
    rw [← hH] at e32 a
    have e26 : evalCall Try.prog hints (n + 199) 26 [.agg t.cells] H = _ := f26' (n + 193) t H (by omega)
    rw [h0] at e26
    simp only [List.length_nil, List.flatMap_nil] at e26
    obtain ⟨H33, e33⟩ : ∃ H', evalCall Try.prog hints (n + 199) 33 [] H = some (.bool true, H', false) := live33 (n + 99) H
    have wb := win_b g 0 (by omega)
    have e34 := f34 (n + 198) a
    have e35 := f35 (n + 198) a
    have e36 := f36 (n + 197) a hC o
    have e39 := f39 (n + 198) a
    have e40 := f40 (n + 197) a hC o
    have e41 := f41 (n + 197) a hC (by omega) w o
    have e13 := f13 (n + 198) jm jr (rgsT t) o H a.hr a.hm
    have e37 : evalCall Try.prog hints (n + 199) 37 [.agg t.cells, .int .i64 o] H = _ := f37 (n + 198) t o H (by omega) (by omega)
    have lC := flat_len Cl.len t.C
    simp only [Tab.cells_eq] at *
    by_cases hi : 1 ≤ o ∧ o ≤ (t.C.length : Int)
    · have hic : isC t o = true := decide_eq_true hi
      obtain ⟨k, rfl⟩ : ∃ k : Nat, o = (k : Int) + 1 := ⟨(o - 1).toNat, by omega⟩
      have hk : k < t.C.length := by omega
      have hcl : clO t ((k : Int) + 1) = t.C[k] := by
        unfold clO
        rw [hic, if_pos rfl, show ((k : Int) + 1 - 1).toNat = k by omega, List.getElem?_eq_getElem hk]; rfl
      obtain ⟨hh, hro⟩ := rgs_yes t k hk
      have e38 := fun h => f38 (n + 197) t g w ((k : Int) + 1) H h hi (by omega)
      obtain ⟨wi, _, _, h1, h2⟩ := win_good g (k + 1) (by omega)
      rw [show ((k + 1 : Nat) : Int) = (k : Int) + 1 by omega] at h2
      have hwo : winO t ((k : Int) + 1) = wsp wi := by
        unfold winO
        rw [if_pos (by omega), show ((k : Int) + 1).toNat = k + 1 by omega, h1]
      rw [hcl, hic, if_pos rfl] at e36
      rw [hro] at e13
      unfold errO at e13
      rw [hh, if_pos rfl] at e13
      rw [h2] at e37
      rw [hwo] at e40
      have ck := g.cok t.C[k] (List.getElem_mem hk)
      have hmay : mayR (rgOf t.C[k] k) = true := by
        unfold mayR rgOf; unfold Cl.ok at ck; simp only [decide_eq_true_eq]; omega
      have e23 := f23 (n + 198) (rgOf t.C[k] k) H hmay
      have ws := wrap_id (x := t.C[k].base + t.C[k].size) (by unfold Cl.ok at ck; omega)
      have r := flat_row Cl.len t.C k hk
      have z : k * 10 + 10 ≤ t.C.length * 10 := by omega
      have wk := wrap_id (x := (k : Int)) (by omega)
      have c1 : (1 : Int) ≤ (k : Int) + 1 := by omega
      have c2 : (k : Int) + 1 ≤ t.C.length := by omega
      have c3 : ((k : Int) + 1 == 0) = false := by simp; omega
      simp only [Tab.cells_eq] at e38
      have hw0 : ¬ (1 ≤ w ∧ w ≤ 2) → whenO t w ((k : Int) + 1) = -1 := fun h => by
        unfold whenO; rw [if_neg (fun h' => h (by omega))]
      generalize hY : t.S.flatMap R3.cells = Y at *
      generalize hX : t.W.flatMap R3.cells = X at *
      generalize hZ : t.C.flatMap Cl.cells = Z at *
      clear hcl hro hh hwo h1 h2 hmay ck a
      generalize t.C[k] = x at *
      obtain ⟨x1, x2, x3, x4, x5, x6, x7, x8, x9, x10⟩ := x
      obtain ⟨v1, v2, v3⟩ := wi
      simp only [Cl.cells, rgOf, R3.cells, sp, wsp, Sp.cells] at *
      generalize whenO t w ((k : Int) + 1) = wo at *
      by_cases d1 : w = 1
      · subst d1
        have e38 := e38 (by omega)
        simp [-getElem?_pos, List.getElem?_cons_zero, e32, e26, e33, e34, e35, e36, e39, e40, e41, e13, e37, e23, e38, ws, r, z, wk, c1, c2, c3, lC, hk, eqT58, eqT36]
      · by_cases d2 : w = 2
        · subst d2
          have e38 := e38 (by omega)
          simp [-getElem?_pos, List.getElem?_cons_zero, e32, e26, e33, e34, e35, e36, e39, e40, e41, e13, e37, e23, e38, ws, r, z, wk, c1, c2, c3, lC, hk, eqT58, eqT36]
        · have d1' : (w == 1) = false := by simp [d1]
          have d2' : (w == 2) = false := by simp [d2]
          have hwo := hw0 (by omega)
          subst hwo
          simp [-getElem?_pos, List.getElem?_cons_zero, e32, e26, e33, e34, e35, e36, e39, e40, e41, e13, e37, e23, d1', d2', ws, r, z, wk, c1, c2, c3, lC, hk, eqT58, eqT36]
    · have hic : isC t o = false := decide_eq_false hi
      have hh := rgs_no t o hic
      have hro := rowO_no hh
      have hcl : clO t o = Cl.zero := by unfold clO; rw [hic, if_neg (by simp)]
      have hwo : whenO t w o = -1 := by unfold whenO; rw [hic, if_neg (by simp)]
      rw [hcl, hic, if_neg (by simp)] at e36
      rw [hro] at e13
      unfold errO at e13
      rw [hh, if_neg (by simp)] at e13
      rw [hwo] at e41
      clear a
      generalize t.C.flatMap Cl.cells = Z at *
      generalize t.W.flatMap R3.cells = X at *
      generalize t.S.flatMap R3.cells = Y at *
      simp only [Cl.cells, Cl.zero, R3.cells] at *
      by_cases c0 : o = 0
      · subst c0
        obtain ⟨wi, _, _, h1, h2⟩ := win_good g 0 (by omega)
        rw [show ((0 : Nat) : Int) = 0 from rfl] at h2
        rw [winO_zero, h1] at e40
        rw [h2] at e37
        obtain ⟨v1, v2, v3⟩ := wi
        simp only [wsp, Sp.cells] at *
        simp [-getElem?_pos, List.getElem?_cons_zero, e32, e26, e33, e34, e35, e36, e39, e40, e41, e13, e37, eqT58, eqT36]
      · have c0' : (o == 0) = false := by simp [c0]
        have hw : winO t o = ⟨0, 0⟩ := by unfold winO; rw [if_neg (by omega)]
        rw [hw] at e40
        simp only [Sp.cells] at *
        by_cases c1 : 1 ≤ o
        · have c2 : ¬ o ≤ (t.C.length : Int) := by omega
          simp [-getElem?_pos, List.getElem?_cons_zero, e32, e26, e33, e34, e35, e36, e39, e40, e41, e13, c0', c1, c2, eqT58, eqT36]
        · simp [-getElem?_pos, List.getElem?_cons_zero, e32, e26, e33, e34, e35, e36, e39, e40, e41, e13, c0', c1, eqT58, eqT36]
  · have e32 : evalCall Try.prog hints (n + 199) 32 [.agg t.cells] [] = _ := f32n (n + 179) t h0 [] (by omega)
    have e26 : evalCall Try.prog hints (n + 199) 26 [.agg t.cells] [] = _ := f26' (n + 193) t [] (by omega)
    obtain ⟨H33, e33⟩ : ∃ H', evalCall Try.prog hints (n + 199) 33 [] [] = some (.bool true, H', false) := live33 (n + 99) []
    have px : ((faults t).flatMap F2.cells).all plain1 = true := by rw [List.all_flatMap]; simp [F2.cells, plain1]
    have hl : (faults t).length ≠ 0 := fun h => h0 (List.length_eq_zero_iff.1 h)
    have hp : 0 < ((faults t).length : Int) := by omega
    have hp' : 0 < (faults t).length := by omega
    clear h0 hl
    simp only [Tab.cells_eq] at *
    generalize (faults t).flatMap F2.cells = A at *
    generalize (faults t).length = a at *
    generalize t.S.flatMap R3.cells = Y at *
    generalize t.C.flatMap Cl.cells = Z at *
    generalize t.W.flatMap R3.cells = X at *
    simp [-getElem?_pos, -List.all_eq_true, List.getElem?_cons_zero, e26, e32, e33, px, hp, hp']
end Go.Proofs.Ytehemoachikpgaa
end
