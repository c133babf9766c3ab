/-
  What functions of this program compute, as equations about the evaluator. No condition but those stated.
-/
import Derived.Test.YtehemoachikpgaaConfEqs9
set_option linter.all false
section
namespace Go.Proofs.Ytehemoachikpgaa
open Go Go.PS
/-- Counts that are 0 or 1. -/
def bl (p : Nat → Bool) : List PV := (List.range 9).map fun o => .int .i64 (if p o = true then 1 else 0)
theorem bl_len (p : Nat → Bool) : (bl p).length = 9 := by unfold bl; simp
theorem bl_get (p : Nat → Bool) (j : Nat) (h : j < 9) : (bl p)[j]? = some (.int .i64 (if p j = true then 1 else 0)) := by
  unfold bl; rw [List.getElem?_map, List.getElem?_range h]; rfl
theorem bl_ext {p q : Nat → Bool} (h : ∀ o, q o = p o) : bl q = bl p := by rw [show q = p from funext h]
theorem bl_set {p q : Nat → Bool} {j : Nat} (h : ∀ o, q o = (p o || decide (o = j))) : (bl p).set j (.int .i64 1) = bl q := by
  apply List.ext_getElem?
  intro i
  rw [List.getElem?_set]
  by_cases c : j = i
  · subst c
    rw [if_pos rfl, bl_len]
    by_cases hj : j < 9
    · rw [if_pos hj, bl_get _ _ hj, h, decide_eq_true rfl, Bool.or_true, if_pos rfl]
    · rw [if_neg hj, List.getElem?_eq_none (by rw [bl_len]; omega)]
  · rw [if_neg c]
    by_cases hi : i < 9
    · rw [bl_get _ _ hi, bl_get _ _ hi, h, decide_eq_false (fun e => c e.symm), Bool.or_false]
    · rw [List.getElem?_eq_none (by rw [bl_len]; omega), List.getElem?_eq_none (by rw [bl_len]; omega)]
theorem bl_nil {p : Nat → Bool} (h : ∀ o, p o = false) : bl p = [.int .i64 0, .int .i64 0, .int .i64 0, .int .i64 0, .int .i64 0, .int .i64 0, .int .i64 0, .int .i64 0, .int .i64 0] := by
  rw [show p = fun _ => false from funext h]; rfl
/-- What is due at an offset. -/
def dD (a : Int) (N : Nat) (x : Int) : Int × Int := if x - a < 0 then (0, 0) else if (N : Int) < (x - a) / 2 + 1 then (0, 0) else (1 + (x - a) % 2, (x - a) / 2 + 1)
def lD (a : Int) (N k : Nat) : Int × Int := if k = 0 then (0, 0) else dD a N ((k : Int) - 1)
def pP (a : Int) (N k o : Nat) : Bool := decide (1 ≤ o ∧ o ≤ N ∧ a + 2 * ((o : Int) - 1) < (k : Int))
def pC (a : Int) (N k o : Nat) : Bool := decide (1 ≤ o ∧ o ≤ N ∧ a + 2 * ((o : Int) - 1) + 1 < (k : Int))
theorem lD_succ (a : Int) (N k : Nat) : lD a N (k + 1) = dD a N k := by
  unfold lD
  rw [if_neg (by omega), show ((k + 1 : Nat) : Int) - 1 = (k : Int) by omega]
theorem duty_cases (a : Int) (N k : Nat) (ha : 0 ≤ a) :
    (dD a N k = (0, 0) ∧ (∀ o, pP a N (k + 1) o = pP a N k o) ∧ (∀ o, pC a N (k + 1) o = pC a N k o)) ∨
    (∃ j : Nat, 1 ≤ j ∧ j ≤ N ∧ a + 2 * ((j : Int) - 1) = (k : Int) ∧ dD a N k = (1, (j : Int)) ∧ (∀ o, pP a N (k + 1) o = (pP a N k o || decide (o = j))) ∧ pP a N k j = false ∧ (∀ o, pC a N (k + 1) o = pC a N k o)) ∨
    (∃ j : Nat, 1 ≤ j ∧ j ≤ N ∧ a + 2 * ((j : Int) - 1) + 1 = (k : Int) ∧ dD a N k = (2, (j : Int)) ∧ lD a N k = (1, (j : Int)) ∧ (∀ o, pP a N (k + 1) o = pP a N k o) ∧ pC a N k j = false ∧ (∀ o, pC a N (k + 1) o = (pC a N k o || decide (o = j)))) := by
  have eqb : ∀ {p q : Prop} [Decidable p] [Decidable q], (p ↔ q) → decide p = decide q := fun h => decide_eq_decide.2 h
  by_cases c1 : (k : Int) - a < 0
  · left
    refine ⟨by unfold dD; rw [if_pos c1], fun o => eqb (by omega), fun o => eqb (by omega)⟩
  · by_cases c2 : (N : Int) < ((k : Int) - a) / 2 + 1
    · left
      refine ⟨by unfold dD; rw [if_neg c1, if_pos c2], fun o => eqb (by omega), fun o => eqb (by omega)⟩
    · right
      obtain ⟨j, hj⟩ : ∃ j : Nat, (j : Int) = ((k : Int) - a) / 2 + 1 := ⟨(((k : Int) - a) / 2 + 1).toNat, by omega⟩
      have hd : dD a N k = (1 + ((k : Int) - a) % 2, (j : Int)) := by unfold dD; rw [if_neg c1, if_neg c2, hj]
      have orb : ∀ {p q r : Prop} [Decidable p] [Decidable q] [Decidable r], (p ↔ q ∨ r) → decide p = (decide q || decide r) := fun h => by
        rw [Bool.eq_iff_iff, Bool.or_eq_true, decide_eq_true_iff, decide_eq_true_iff, decide_eq_true_iff]; exact h
      by_cases c3 : ((k : Int) - a) % 2 = 0
      · left
        refine ⟨j, by omega, by omega, by omega, by rw [hd, c3]; rfl, fun o => orb (by omega), decide_eq_false (by omega), fun o => eqb (by omega)⟩
      · right
        have c3 : ((k : Int) - a) % 2 = 1 := by omega
        refine ⟨j, by omega, by omega, by omega, by rw [hd, c3]; rfl, ?_, fun o => eqb (by omega), decide_eq_false (by omega), fun o => orb (by omega)⟩
        unfold lD dD
        rw [if_neg (by omega), if_neg (by omega), if_neg (by omega)]
        rw [show ((k : Int) - 1 - a) % 2 = 0 by omega, show ((k : Int) - 1 - a) / 2 + 1 = (j : Int) by omega]
        rfl
def pO (t : Tab) (k o : Nat) : Bool := decide (1 ≤ o ∧ o ≤ t.C.length ∧ (winF t.W o).a < (k : Int))
theorem opens_cases (t : Tab) (g : Good t) (k : Nat) :
    (findO t (fun s => s.a == (k : Int)) = 0 ∧ ∀ o, pO t (k + 1) o = pO t k o) ∨
    (∃ j : Nat, 1 ≤ j ∧ j ≤ t.C.length ∧ findO t (fun s => s.a == (k : Int)) = (j : Int) ∧ findO t (inS (k : Int)) = (j : Int) ∧ pO t k j = false ∧ ∀ o, pO t (k + 1) o = (pO t k o || decide (o = j))) := by
  cases h : (List.range t.C.length).find? (fun i => (winF t.W (i + 1)).a == (k : Int)) with
  | none =>
    left
    refine ⟨by unfold findO; simp only [h], fun o => decide_eq_decide.2 ?_⟩
    constructor
    · rintro ⟨h1, h2, h3⟩
      refine ⟨h1, h2, ?_⟩
      have := List.find?_eq_none.1 h (o - 1) (List.mem_range.2 (by omega))
      rw [show o - 1 + 1 = o by omega] at this
      simp only [beq_iff_eq] at this
      omega
    · rintro ⟨h1, h2, h3⟩; exact ⟨h1, h2, by omega⟩
  | some i =>
    right
    obtain ⟨h1, h2⟩ := find_lt h
    simp only [beq_iff_eq] at h2
    obtain ⟨w, hw, w1, w2, _⟩ := win_good g (i + 1) (by omega)
    have okw := g.wok w hw
    unfold okW at okw; simp only [decide_eq_true_eq] at okw
    have ha : w.a = (k : Int) := by rw [w2] at h2; exact h2
    refine ⟨i + 1, by omega, by omega, by unfold findO; simp only [h]; omega, ?_, decide_eq_false (by omega), fun o => ?_⟩
    · unfold findO
      cases h' : (List.range t.C.length).find? (fun i => inS (k : Int) (winF t.W (i + 1))) with
      | none =>
        exfalso
        have := List.find?_eq_none.1 h' i (List.mem_range.2 h1)
        rw [w2] at this
        refine this ?_
        unfold inS wsp Sp.is
        simp only [Bool.and_eq_true, decide_eq_true_eq]
        omega
      | some i' =>
        obtain ⟨h1', h2'⟩ := find_lt h'
        obtain ⟨v, hv, v1, v2, _⟩ := win_good g (i' + 1) (by omega)
        rw [v2] at h2'
        unfold inS wsp at h2'
        simp only [Bool.and_eq_true, decide_eq_true_eq] at h2'
        have := wins_off g hv hw (by omega)
        simp only
        rw [this, w1] at v1
        omega
    · unfold pO
      rw [Bool.eq_iff_iff, Bool.or_eq_true, decide_eq_true_iff, decide_eq_true_iff, decide_eq_true_iff]
      constructor
      · rintro ⟨o1, o2, o3⟩
        by_cases c : (winF t.W o).a < (k : Int)
        · exact .inl ⟨o1, o2, c⟩
        · right
          obtain ⟨v, hv, v1, v2, _⟩ := win_good g o o2
          have okv := g.wok v hv
          unfold okW at okv; simp only [decide_eq_true_eq] at okv
          have hva : v.a = (k : Int) := by
            rw [v2] at c o3
            unfold wsp at c o3; simp only at c o3; omega
          have := wins_off g hv hw (by omega)
          rw [this, w1] at v1
          omega
      · rintro (⟨o1, o2, o3⟩ | e)
        · exact ⟨o1, o2, by omega⟩
        · subst e
          exact ⟨by omega, by omega, by omega⟩
theorem io_long {t : Tab} (g : Good t) : (winF t.W 0).a + 2 * (t.C.length : Int) ≤ (winF t.W 0).b := by
  obtain ⟨w, hw, w1, w2, _⟩ := win_good g 0 (by omega)
  have ok := g.wok w hw
  rw [w2]
  unfold wsp; simp only
  have key : ∀ l : List R3, ioW t 0 l = false → (∀ x ∈ l, x.o = 0 → x = w) → w ∈ l → w.a + 2 * (t.C.length : Int) ≤ w.b := by
    intro l
    induction l with
    | nil => intro _ _ h; simp at h
    | cons x l ih =>
      intro h1 h2 h3
      rw [ioW, if_pos rfl] at h1
      by_cases c : x.o = 0
      · rw [if_pos c, h2 x (by simp) c, ok, Bool.true_and] at h1
        have := of_decide_eq_false h1
        omega
      · rw [if_neg c] at h1
        refine ih h1 (fun y hy => h2 y (List.mem_cons_of_mem _ hy)) ?_
        rcases List.mem_cons.1 h3 with e | e
        · subst e; exact absurd w1 c
        · exact e
  exact key t.W g.io (fun x hx e => wins_uniq g.wpair hx hw (by rw [e, w1]; rfl)) hw
end Go.Proofs.Ytehemoachikpgaa
end

section
namespace Go.Proofs.Ytehemoachikpgaa
open Go Go.PS
set_option maxHeartbeats 4000000 in
theorem f11 (n : Nat) (t : Tab) (i : Int) (hi : 0 ≤ i ∧ i ≤ 255) : fstR (evalCall Try.prog hints (n + 2000) 11 [.agg t.cells, .int .u8 i] []) = some (.bool true) := by
  rw [evalCall_at _ _ _ hh11 rfl Try.func11 rfl (Nat.le_of_ble_eq_true rfl) rfl]
  by_cases h0 : faults t = []
  · have g := good_of h0
    have hf := g.frame
    unfold frameB at hf; simp only [decide_eq_true_eq] at hf
    have hC : t.C.length ≤ 8 := by omega
    have e32 : evalCall Try.prog hints (n + 1999) 32 [.agg t.cells] [] = some (.tup [.ptr (.heap 0) none 0, .int .i64 0], hpP [] t, false) := f32 (n + 1979) t g [] (by omega)
    have a := planAt t []
    rw [List.length_nil] at a
    generalize PCc t _ _ _ _ = P at a
    generalize 0 + t.S.length + 3 = jr at a
    generalize 0 + t.S.length + 2 = jm at a
    generalize 0 + 1 = js at a
    obtain ⟨H, hH⟩ : ∃ H, H = hpP [] t := ⟨_, rfl⟩
    rw [← hH] at e32 a
    obtain ⟨H33, e33⟩ : ∃ H', evalCall Try.prog hints (n + 1999) 33 [] H = some (.bool true, H', false) := live33 (n + 1899) H
    have wb := win_b g 0 (by omega)
    have wl := io_long g
    have e40 := f40 (n + 1997) a hC 0
    rw [winO_zero] at e40
    by_cases hb : (300 : Int) < t.f
    · clear a
      simp only [Tab.cells_eq] at *
      generalize t.S.flatMap R3.cells = Y at *
      generalize t.C.flatMap Cl.cells = Z at *
      generalize t.W.flatMap R3.cells = X at *
      simp [-getElem?_pos, List.getElem?_cons_zero, e32, e33, hb]
    · obtain ⟨F, hF⟩ : ∃ F : Nat, (F : Int) = t.f := ⟨t.f.toNat, by omega⟩
      obtain ⟨fr0, hfr⟩ : ∃ fr0 : Int, fr0 = i % 100 * t.f := ⟨_, rfl⟩
      have q1 := tm (a := i) 100 hi.1
      have q2 : i % 100 % 256 = i % 100 := by omega
      have w1 := wrap_id (x := i % 100) (by omega)
      have hm : 0 ≤ fr0 ∧ fr0 ≤ 29700 := by
        have h1 : 0 ≤ i % 100 := by omega
        have h2 : i % 100 ≤ 99 := by omega
        rw [hfr]
        constructor
        · exact Int.mul_nonneg h1 (by omega)
        · calc i % 100 * t.f ≤ 99 * t.f := Int.mul_le_mul_of_nonneg_right h2 (by omega)
            _ ≤ 99 * 300 := by omega
      have w2 := wrap_id (x := fr0) (by omega)
      have hmod : ∀ k : Nat, k < F → (fr0 + (k : Int)) % t.f = (k : Int) := fun k hk => by
        rw [hfr, Int.add_comm, Int.add_mul_emod_self_right]
        exact Int.emod_eq_of_lt (by omega) (by omega)
      have e49 : ∀ k : Nat, k < F → evalCall Try.prog hints (n + 1999) 49 [.ptr (.heap 0) none 0, .int .i64 (fr0 + (k : Int))] H = some (.agg [.int .i64 (dD (winF t.W 0).a t.C.length k).1, .int .i64 (dD (winF t.W 0).a t.C.length k).2], H, false) := fun k hk => by
        have := f49 (n + 1996) a (by omega) hC (by omega) (fr0 + (k : Int)) (by omega)
        have e : dutyO t (fr0 + (k : Int)) = dD (winF t.W 0).a t.C.length k := by
          unfold dutyO dD
          rw [if_neg (by omega), hmod k hk]
        rw [e] at this; exact this
      have e47 : ∀ k : Nat, k < F → evalCall Try.prog hints (n + 1999) 47 [.ptr (.heap 0) none 0, .int .i64 (fr0 + (k : Int))] H = some (.int .i64 (findO t (fun s => s.a == (k : Int))), H, false) := fun k hk => by
        have := f47 (n + 1995) a (by omega) hC (by omega) (fr0 + (k : Int)) (by omega)
        rw [if_neg (by omega), hmod k hk] at this; exact this
      have e45 : ∀ k : Nat, k < F → evalCall Try.prog hints (n + 1999) 45 [.ptr (.heap 0) none 0, .int .i64 (fr0 + (k : Int))] H = some (.int .i64 (findO t (inS (k : Int))), H, false) := fun k hk => by
        have := f45 (n + 1995) a (by omega) hC (by omega) (fr0 + (k : Int)) (by omega)
        rw [if_neg (by omega), hmod k hk] at this; exact this
      have oc := opens_cases t g
      have dc := fun k => duty_cases (winF t.W 0).a t.C.length k wb.1
      have oA : ∀ o, 1 ≤ o → o ≤ t.C.length → pO t F o = true := fun o h1 h2 => by
        have := win_b g o h2
        exact decide_eq_true ⟨h1, h2, by omega⟩
      have oB : ∀ o, pO t 0 o = false := fun o => decide_eq_false (by
        rintro ⟨h1, h2, h3⟩
        have := win_b g o h2
        omega)
      clear a hH
      simp only [Tab.cells_eq] at *
      obtain ⟨A, hA⟩ : ∃ A, A = (winF t.W 0).a := ⟨_, rfl⟩
      obtain ⟨B, hB⟩ : ∃ B, B = (winF t.W 0).b := ⟨_, rfl⟩
      obtain ⟨N, hN⟩ : ∃ N, N = t.C.length := ⟨_, rfl⟩
      have ew : (winF t.W 0).cells = [.int .i64 A, .int .i64 B] := by rw [hA, hB]; rfl
      rw [ew] at e40
      rw [← hA, ← hN] at dc e49
      rw [← hA, ← hB] at wb wl
      obtain ⟨PO, hPO⟩ : ∃ PO : Nat → List PV, PO = fun k => bl (pP A N k) := ⟨_, rfl⟩
      obtain ⟨CO, hCO⟩ : ∃ CO : Nat → List PV, CO = fun k => bl (pC A N k) := ⟨_, rfl⟩
      obtain ⟨OP, hOP⟩ : ∃ OP : Nat → List PV, OP = fun k => bl (pO t k) := ⟨_, rfl⟩
      have z1 : [PV.int .i64 0, .int .i64 0, .int .i64 0, .int .i64 0, .int .i64 0, .int .i64 0, .int .i64 0, .int .i64 0, .int .i64 0] = PO 0 := by
        rw [hPO]; exact (bl_nil fun o => decide_eq_false (by omega)).symm
      have z2 : PO 0 = CO 0 := by
        rw [hPO, hCO]; exact bl_ext fun o => by rw [show pP A N 0 o = false from decide_eq_false (by omega), show pC A N 0 o = false from decide_eq_false (by omega)]
      generalize t.S.flatMap R3.cells = Y at *
      generalize t.C.flatMap Cl.cells = Z at *
      generalize t.W.flatMap R3.cells = X at *
      simp [-getElem?_pos, List.getElem?_cons_zero, e32, e40, hb, q1, q2, w1, ← hfr, w2]
      rw [iter_count (fun k => { fr := [(2, .box [.int .i64 t.f, .sl .sh t.W.length X, .sl .sh t.S.length Y, .sl .sh t.C.length Z]), (5, .ptr (.heap 0) none 0), (7, .int .i64 fr0), (8, .box [.int .i64 A, .int .i64 B]), (9, .box (PO k)), (10, .box (CO k)), (11, .box (OP k)), (12, .box [.int .i64 (lD A N k).1, .int .i64 (lD A N k).2]), (13, .int .i64 k)], hp := H, base := 0, dirty := false }) (.exit 0, { fr := [(2, .box [.int .i64 t.f, .sl .sh t.W.length X, .sl .sh t.S.length Y, .sl .sh t.C.length Z]), (5, .ptr (.heap 0) none 0), (7, .int .i64 fr0), (8, .box [.int .i64 A, .int .i64 B]), (9, .box (PO F)), (10, .box (CO F)), (11, .box (OP F)), (12, .box [.int .i64 (lD A N F).1, .int .i64 (lD A N F).2]), (13, .int .i64 F), (53, .bool false)], hp := H, base := 0, dirty := false }) F]
      · simp [-getElem?_pos, List.getElem?_cons_zero]
        rw [iter_count (fun k => { fr := [(2, .box [.int .i64 t.f, .sl .sh t.W.length X, .sl .sh t.S.length Y, .sl .sh t.C.length Z]), (9, .box (PO F)), (10, .box (CO F)), (11, .box (OP F)), (16, .int .i64 ((k : Int) + 1))], hp := H, base := 0, dirty := false }) (.exit 2, { fr := [(2, .box [.int .i64 t.f, .sl .sh t.W.length X, .sl .sh t.S.length Y, .sl .sh t.C.length Z]), (9, .box (PO F)), (10, .box (CO F)), (11, .box (OP F)), (16, .int .i64 ((N : Int) + 1)), (142, .bool false)], hp := H, base := 0, dirty := false }) N]
        · simp [-getElem?_pos, List.getElem?_cons_zero, e33]
        · simp
        · omega
        · intro k hk
          have k9 : k + 1 < 9 := by omega
          have k9' : (k : Int) + 1 < 9 := by omega
          have k0 : (0 : Int) ≤ (k : Int) + 1 := by omega
          have c1 : (k : Int) + 1 ≤ t.C.length := by omega
          have w := wrap_id (x := (k : Int) + 1 + 1) (by omega)
          have p1 : (PO F)[k + 1]? = some (.int .i64 1) := by
            rw [hPO]; simp only
            rw [bl_get _ _ k9, show pP A N F (k + 1) = true from decide_eq_true (by omega)]; rfl
          have p2 : (CO F)[k + 1]? = some (.int .i64 1) := by
            rw [hCO]; simp only
            rw [bl_get _ _ k9, show pC A N F (k + 1) = true from decide_eq_true (by omega)]; rfl
          have p3 : (OP F)[k + 1]? = some (.int .i64 1) := by
            rw [hOP]; simp only
            rw [bl_get _ _ k9, oA (k + 1) (by omega) (by omega)]; rfl
          have l1 : (PO F).length = 9 := by rw [hPO]; exact bl_len _
          have l2 : (CO F).length = 9 := by rw [hCO]; exact bl_len _
          have l3 : (OP F).length = 9 := by rw [hOP]; exact bl_len _
          simp [-getElem?_pos, List.getElem?_cons_zero, k9, k9', k0, c1, w, p1, p2, p3, l1, l2, l3]
        · have cn : ¬ ((N : Int) + 1 ≤ t.C.length) := by omega
          simp [-getElem?_pos, List.getElem?_cons_zero, cn]
        · simp
      · rw [show (OP 0) = PO 0 by rw [hOP, hPO]; exact bl_ext fun o => by rw [oB o, show pP A N 0 o = false from decide_eq_false (by omega)]]
        rw [← z2, ← z1]
        simp [lD]
      · omega
      · intro k hk
        have ck : (k : Int) < t.f := by omega
        have w := wrap_id (x := (k : Int) + 1) (by omega)
        have w3 := wrap_id (x := fr0 + (k : Int)) (by omega)
        have ww := wrap_id (x := 1) (by omega)
        have e49 := e49 k hk
        have e47 := e47 k hk
        have e45 := e45 k hk
        have l1 : (PO k).length = 9 := by rw [hPO]; exact bl_len _
        have l2 : (CO k).length = 9 := by rw [hCO]; exact bl_len _
        have l3 : (OP k).length = 9 := by rw [hOP]; exact bl_len _
        rw [lD_succ]
        rcases oc k with ⟨o1, o2⟩ | ⟨v, v1, v2, o1, o2, o3, o4⟩
        · have eO : OP (k + 1) = OP k := by rw [hOP]; exact bl_ext o2
          rw [eO]
          rw [o1] at e47
          clear oc
          rcases dc k with ⟨d1, d2, d3⟩ | ⟨j, j1, j2, j3, d1, d2, d3, d4⟩ | ⟨j, j1, j2, j3, d1, d2, d3, d4, d5⟩
          · have eP : PO (k + 1) = PO k := by rw [hPO]; exact bl_ext d2
            have eC : CO (k + 1) = CO k := by rw [hCO]; exact bl_ext d3
            rw [d1] at e49 ⊢
            rw [eP, eC]
            simp [-getElem?_pos, List.getElem?_cons_zero, ck, w, w3, ww, e49, e47]
          · have eP : (PO k).set j (.int .i64 1) = PO (k + 1) := by rw [hPO]; exact bl_set d2
            have gP : (PO k)[j]? = some (.int .i64 0) := by
              rw [hPO]; simp only
              rw [bl_get _ _ (by omega), d3]; rfl
            have eC : CO (k + 1) = CO k := by rw [hCO]; exact bl_ext d4
            have b1 : ¬ (j : Int) < 0 := by omega
            have b2 : ¬ (8 : Int) < j := by omega
            have b2' : ¬ 8 < j := by omega
            have b3 : ¬ (k : Int) < A := by omega
            have b4 : ¬ B ≤ (k : Int) := by omega
            have b5 : ¬ (j : Int) < 1 := by omega
            have b5' : ¬ j = 0 := by omega
            have b6 : (j : Int) < 9 := by omega
            have b6' : j < 9 := by omega
            have b7 : j + 1 ≤ 9 := by omega
            rw [d1] at e49 ⊢
            rw [eC, ← eP]
            simp [-getElem?_pos, List.getElem?_cons_zero, ck, w, w3, ww, e49, e47, l1, gP, b1, b2, b2', b3, b4, b5, b5', b6, b6', b7]
          · have eC : (CO k).set j (.int .i64 1) = CO (k + 1) := by rw [hCO]; exact bl_set d5
            have gC : (CO k)[j]? = some (.int .i64 0) := by
              rw [hCO]; simp only
              rw [bl_get _ _ (by omega), d4]; rfl
            have eP : PO (k + 1) = PO k := by rw [hPO]; exact bl_ext d3
            have b1 : ¬ (j : Int) < 0 := by omega
            have b2 : ¬ (8 : Int) < j := by omega
            have b2' : ¬ 8 < j := by omega
            have b3 : ¬ (k : Int) < A := by omega
            have b4 : ¬ B ≤ (k : Int) := by omega
            have b5 : ¬ (j : Int) < 1 := by omega
            have b5' : ¬ j = 0 := by omega
            have b6 : (j : Int) < 9 := by omega
            have b6' : j < 9 := by omega
            have b7 : j + 1 ≤ 9 := by omega
            rw [d1] at e49 ⊢
            rw [d2, eP, ← eC]
            simp [-getElem?_pos, List.getElem?_cons_zero, ck, w, w3, ww, e49, e47, l2, gC, b1, b2, b2', b3, b4, b5, b5', b6, b6', b7, eqT87]
        · have eO : (OP k).set v (.int .i64 1) = OP (k + 1) := by rw [hOP]; exact bl_set o4
          have gO : (OP k)[v]? = some (.int .i64 0) := by
            rw [hOP]; simp only
            rw [bl_get _ _ (by omega), o3]; rfl
          rw [← eO]
          rw [o1] at e47
          rw [o2] at e45
          have a1 : (1 : Int) ≤ v := by omega
          have a2 : (v : Int) ≤ 8 := by omega
          have a1' : 1 ≤ v := by omega
          have a2' : v ≤ 8 := by omega
          have a3 : (v : Int) < 9 := by omega
          have a3' : v < 9 := by omega
          have a4 : v + 1 ≤ 9 := by omega
          clear oc
          rcases dc k with ⟨d1, d2, d3⟩ | ⟨j, j1, j2, j3, d1, d2, d3, d4⟩ | ⟨j, j1, j2, j3, d1, d2, d3, d4, d5⟩
          · have eP : PO (k + 1) = PO k := by rw [hPO]; exact bl_ext d2
            have eC : CO (k + 1) = CO k := by rw [hCO]; exact bl_ext d3
            rw [d1] at e49 ⊢
            rw [eP, eC]
            simp [-getElem?_pos, List.getElem?_cons_zero, ck, w, w3, ww, e49, e47, e45, l3, gO, a1, a2, a1', a2', a3, a3', a4]
          · have eP : (PO k).set j (.int .i64 1) = PO (k + 1) := by rw [hPO]; exact bl_set d2
            have gP : (PO k)[j]? = some (.int .i64 0) := by
              rw [hPO]; simp only
              rw [bl_get _ _ (by omega), d3]; rfl
            have eC : CO (k + 1) = CO k := by rw [hCO]; exact bl_ext d4
            have b1 : ¬ (j : Int) < 0 := by omega
            have b2 : ¬ (8 : Int) < j := by omega
            have b2' : ¬ 8 < j := by omega
            have b3 : ¬ (k : Int) < A := by omega
            have b4 : ¬ B ≤ (k : Int) := by omega
            have b5 : ¬ (j : Int) < 1 := by omega
            have b5' : ¬ j = 0 := by omega
            have b6 : (j : Int) < 9 := by omega
            have b6' : j < 9 := by omega
            have b7 : j + 1 ≤ 9 := by omega
            rw [d1] at e49 ⊢
            rw [eC, ← eP]
            simp [-getElem?_pos, List.getElem?_cons_zero, ck, w, w3, ww, e49, e47, e45, l1, gP, l3, gO, a1, a2, a1', a2', a3, a3', a4, b1, b2, b2', b3, b4, b5, b5', b6, b6', b7]
          · have eC : (CO k).set j (.int .i64 1) = CO (k + 1) := by rw [hCO]; exact bl_set d5
            have gC : (CO k)[j]? = some (.int .i64 0) := by
              rw [hCO]; simp only
              rw [bl_get _ _ (by omega), d4]; rfl
            have eP : PO (k + 1) = PO k := by rw [hPO]; exact bl_ext d3
            have b1 : ¬ (j : Int) < 0 := by omega
            have b2 : ¬ (8 : Int) < j := by omega
            have b2' : ¬ 8 < j := by omega
            have b3 : ¬ (k : Int) < A := by omega
            have b4 : ¬ B ≤ (k : Int) := by omega
            have b5 : ¬ (j : Int) < 1 := by omega
            have b5' : ¬ j = 0 := by omega
            have b6 : (j : Int) < 9 := by omega
            have b6' : j < 9 := by omega
            have b7 : j + 1 ≤ 9 := by omega
            rw [d1] at e49 ⊢
            rw [d2, eP, ← eC]
            simp [-getElem?_pos, List.getElem?_cons_zero, ck, w, w3, ww, e49, e47, e45, l2, gC, l3, gO, a1, a2, a1', a2', a3, a3', a4, b1, b2, b2', b3, b4, b5, b5', b6, b6', b7, eqT87]
      · have cn : ¬ (F : Int) < t.f := by omega
        simp [-getElem?_pos, List.getElem?_cons_zero, cn]
      · simp
  · have e32 : evalCall Try.prog hints (n + 1999) 32 [.agg t.cells] [] = _ := f32n (n + 1979) t h0 [] (by omega)
    have e26 : evalCall Try.prog hints (n + 1999) 26 [.agg t.cells] [] = _ := f26' (n + 1993) t [] (by omega)
    obtain ⟨H33, e33⟩ : ∃ H', evalCall Try.prog hints (n + 1999) 33 [] [] = some (.bool true, H', false) := live33 (n + 1899) []
    have px : ((faults t).flatMap F2.cells).all plain1 = true := by rw [List.all_flatMap]; simp [F2.cells, plain1]
    have hl : (faults t).length ≠ 0 := fun h => h0 (List.length_eq_zero_iff.1 h)
    have hp : 0 < ((faults t).length : Int) := by omega
    have hp' : 0 < (faults t).length := by omega
    clear h0 hl
    simp only [Tab.cells_eq] at *
    generalize (faults t).flatMap F2.cells = A at *
    generalize (faults t).length = a at *
    generalize t.S.flatMap R3.cells = Y at *
    generalize t.C.flatMap Cl.cells = Z at *
    generalize t.W.flatMap R3.cells = X at *
    by_cases hb : (300 : Int) < t.f
    · simp [-getElem?_pos, -List.all_eq_true, List.getElem?_cons_zero, e26, e32, e33, px, hp, hp', hb]
    · simp [-getElem?_pos, -List.all_eq_true, List.getElem?_cons_zero, e26, e32, e33, px, hp, hp', hb]
end Go.Proofs.Ytehemoachikpgaa
end
