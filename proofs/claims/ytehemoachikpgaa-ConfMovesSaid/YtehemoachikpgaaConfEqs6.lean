/-
  What functions of this program compute, as equations about the evaluator. No condition but those stated.
-/
import Derived.Test.YtehemoachikpgaaConfEqs5
set_option linter.all false
section
namespace Go.Proofs.Ytehemoachikpgaa
open Go Go.PS
theorem okW_same {t u : Tab} (h1 : u.f = t.f) (h2 : u.C.length = t.C.length) (w : R3) : okW u w = okW t w := by unfold okW; rw [h1, h2]
theorem okS_same {t u : Tab} (h1 : u.f = t.f) (h2 : u.C.length = t.C.length) (w : R3) : okS u w = okS t w := by unfold okS; rw [h1, h2]
theorem ioW_same {t u : Tab} (h1 : u.f = t.f) (h2 : u.C.length = t.C.length) (r : Nat) : ∀ l : List R3, ioW u r l = ioW t r l
  | [] => rfl
  | w :: l => by rw [ioW, ioW, okW_same h1 h2, h2, ioW_same h1 h2 r l]
theorem units_same {t u : Tab} (h1 : u.f = t.f) (h2 : u.C.length = t.C.length) (r : Int) : ∀ l : List R3, units u r l = units t r l
  | [] => rfl
  | w :: l => by rw [units, units, units_same h1 h2 r l]; unfold unit1; rw [okS_same h1 h2]
theorem meets_off {a s b u : Int} (h1 : 0 ≤ a) (h2 : 0 ≤ b) (h3 : 1 ≤ s) (h4 : 1 ≤ u) : meets a (a + s) b (b + u) = false ↔ a + s ≤ b ∨ b + u ≤ a := by
  unfold meets holds
  rw [Bool.eq_false_iff]
  simp only [ne_eq, Bool.and_eq_true, Bool.or_eq_true, decide_eq_true_eq]
  omega
def mvC (c : Cl) (base : Int) : Cl := { c with base := base }
def mv (t : Tab) (k : Nat) (hk : k < t.C.length) (base : Int) : Tab := { t with C := t.C.set k (mvC t.C[k] base) }
/-- May it stand there, as far as one other is asked? -/
def offC (x y : Cl) : Prop := x.base + x.size ≤ y.base ∨ y.base + y.size ≤ x.base
theorem mv_len (t : Tab) (k : Nat) (hk : k < t.C.length) (base : Int) : (mv t k hk base).C.length = t.C.length := by simp [mv]
theorem mv_at (t : Tab) (k : Nat) (hk : k < t.C.length) (base : Int) (j : Nat) (hj : j < t.C.length) : (mv t k hk base).C[j]'(by rw [mv_len]; exact hj) = if k = j then mvC t.C[k] base else t.C[j] := by
  simp only [mv, List.getElem_set]
theorem pairC_mv {x y : Cl} {b : Int} (hx : x.ok) (hy : y.ok) (h : pairC x y = false) : (pairC (mvC x b) y = false ↔ ((mvC x b).ok → offC y (mvC x b))) := by
  rw [pairC_eq] at h ⊢
  rw [decide_eq_true hx, decide_eq_true hy, Bool.true_and, Bool.true_and] at h
  rw [decide_eq_true hy, Bool.true_and]
  have es : shareC (mvC x b) y = (decide (x.id = y.id) || decide (x.irq = y.irq) || meets b (b + x.size) y.base (y.base + y.size) || meets x.hb (x.hb + x.hn) y.hb (y.hb + y.hn)) := rfl
  rw [es]
  unfold shareC at h
  simp only [Bool.or_eq_false_iff] at h
  obtain ⟨⟨⟨h1, h2⟩, h3⟩, h4⟩ := h
  by_cases c : (mvC x b).ok
  · rw [decide_eq_true c, Bool.true_and]
    rw [h1, h2, h4, Bool.false_or, Bool.false_or, Bool.or_false]
    have c0 := c
    unfold Cl.ok mvC at c; unfold Cl.ok at hy; simp only at c
    rw [meets_off (by omega) (by omega) (by omega) (by omega)]
    constructor
    · intro e _; unfold offC mvC; simp only; omega
    · intro e
      have := e c0
      unfold offC mvC at this; simp only at this; omega
  · rw [decide_eq_false c, Bool.false_and]
    exact ⟨fun _ h => absurd h c, fun _ => rfl⟩
theorem pairC_comm (x y : Cl) : pairC x y = pairC y x := by
  rw [Bool.eq_iff_iff]
  unfold pairC meets holds
  simp only [Bool.and_eq_true, Bool.or_eq_true, decide_eq_true_eq]
  constructor <;> (rintro ⟨⟨h1, h2⟩, h3⟩; refine ⟨⟨h2, h1⟩, ?_⟩; omega)
theorem offC_comm {x y : Cl} (h : offC x y) : offC y x := by unfold offC at *; omega
theorem moves (t : Tab) (g : Good t) (k : Nat) (hk : k < t.C.length) (base : Int) :
    (faults (mv t k hk base)).length = 0 ↔ (128 ≤ base ∧ base ≤ 16384 - t.C[k].size) ∧ ∀ j (h : j < t.C.length), j ≠ k → offC t.C[j] (mvC t.C[k] base) := by
  have ck := g.cok t.C[k] (List.getElem_mem hk)
  have hl := mv_len t k hk base
  have at_ := mv_at t k hk base
  have pk : ∀ j (h : j < t.C.length), j ≠ k → pairC t.C[k] t.C[j] = false := fun j h hne => by
    have p := List.pairwise_iff_getElem.1 g.cpair
    by_cases c : j < k
    · exact p j k h hk c
    · rw [pairC_comm]; exact p k j hk h (by omega)
  have pm := fun j (h : j < t.C.length) (hne : j ≠ k) => pairC_mv (b := base) ck (g.cok t.C[j] (List.getElem_mem h)) (pk j h hne)
  rw [List.length_eq_zero_iff]
  constructor
  · intro h
    have g' := good_of h
    have c' : (mvC t.C[k] base).ok := by
      refine g'.cok _ ?_
      have := List.getElem_mem (l := (mv t k hk base).C) (n := k) (by rw [hl]; exact hk)
      rw [at_ k hk, if_pos rfl] at this
      exact this
    refine ⟨?_, fun j h hne => ?_⟩
    · unfold Cl.ok mvC at c'; simp only at c'; omega
    · refine (pm j h hne).1 ?_ c'
      have p := List.pairwise_iff_getElem.1 g'.cpair
      by_cases c : j < k
      · have := p j k (by rw [hl]; exact h) (by rw [hl]; exact hk) c
        rw [at_ j h, at_ k hk, if_pos rfl, if_neg (by omega)] at this
        exact this
      · have := p k j (by rw [hl]; exact hk) (by rw [hl]; exact h) (by omega)
        rw [at_ j h, at_ k hk, if_pos rfl, if_neg (by omega)] at this
        rw [pairC_comm]; exact this
  · rintro ⟨h1, h2⟩
    have c' : (mvC t.C[k] base).ok := by
      unfold Cl.ok mvC at *; simp only at *; omega
    have e1 : (mv t k hk base).f = t.f := rfl
    refine Good.nil ⟨?_, ?_, ?_, ?_, ?_, ?_, ?_, ?_, ?_, ?_⟩
    · have := g.frame
      unfold frameB at *; rw [hl]; exact this
    · intro x hx
      rcases List.mem_or_eq_of_mem_set hx with h | h
      · exact g.cok x h
      · rw [h]; exact c'
    · rw [List.pairwise_iff_getElem]
      intro i j hi hj hij
      rw [hl] at hi hj
      rw [at_ i hi, at_ j hj]
      by_cases ci : k = i
      · rw [if_pos ci, if_neg (by omega), pairC_comm]
        exact (pm j hj (by omega)).2 fun _ => h2 j hj (by omega)
      · rw [if_neg ci]
        by_cases cj : k = j
        · rw [if_pos cj]
          exact (pm i hi (by omega)).2 fun _ => h2 i hi (by omega)
        · rw [if_neg cj]
          exact List.pairwise_iff_getElem.1 g.cpair i j hi hj hij
    · intro w hw; rw [okW_same e1 hl]; exact g.wok w hw
    · exact g.wpair
    · intro r hr; rw [hl] at hr; exact g.own r hr
    · rw [ioW_same e1 hl]; exact g.io
    · intro w hw; rw [okS_same e1 hl]; exact g.sok w hw
    · exact g.spair
    · intro i hi
      have hi' : i < t.C.length := by rw [hl] at hi; exact hi
      have q := g.quota i hi'
      rw [at_ i hi']
      unfold overU at *
      rw [units_same e1 hl]
      by_cases ci : k = i
      · subst ci; rw [if_pos rfl]; exact q
      · rw [if_neg ci]; exact q
end Go.Proofs.Ytehemoachikpgaa
end

section
namespace Go.Proofs.Ytehemoachikpgaa
open Go Go.PS
theorem live27m (n : Nat) : (evalCall Try.prog hints (n + 100) 27 [] []).map (fun r => (r.1, r.2.2)) = some (.bool true, false) := by kernel_rfl
theorem live27 (n : Nat) : ∃ H, evalCall Try.prog hints (n + 100) 27 [] [] = some (.bool true, H, false) := by
  have h := live27m n
  cases he : evalCall Try.prog hints (n + 100) 27 [] [] with
  | none => rw [he] at h; cases h
  | some r =>
    rw [he] at h
    obtain ⟨v, H, d⟩ := r
    simp only [Option.map_some, Option.some.injEq, Prod.mk.injEq] at h
    exact ⟨H, by rw [h.1, h.2]⟩
end Go.Proofs.Ytehemoachikpgaa
end

section
namespace Go.Proofs.Ytehemoachikpgaa
open Go Go.PS
theorem flat_set (l : List Cl) (k : Nat) (hk : k < l.length) (v : Int) : (l.flatMap Cl.cells).set (k * 10) (.int .i64 v) = (l.set k (mvC l[k] v)).flatMap Cl.cells := by
  induction l generalizing k with
  | nil => simp at hk
  | cons a l ih =>
    cases k with
    | zero => rfl
    | succ k =>
      have hk' : k < l.length := by simpa using hk
      have := ih k hk'
      rw [List.flatMap_cons, show (k + 1) * 10 = a.cells.length + k * 10 by rw [Cl.len]; omega]
      rw [List.set_append_right _ _ (by omega), Nat.add_sub_cancel_left, this]
      rfl
set_option maxHeartbeats 2000000 in
theorem f7 (n : Nat) (t : Tab) (i base : Int) (hi : 0 ≤ i ∧ i ≤ 255) : fstR (evalCall Try.prog hints (n + 200) 7 [.agg t.cells, .int .u8 i, .int .i64 base] []) = some (.bool true) := by
  obtain ⟨H27, e27⟩ := live27 (n + 99)
  have e26 : evalCall Try.prog hints (n + 199) 26 [.agg t.cells] [] = _ := f26' (n + 193) t [] (by omega)
  rw [evalCall_at _ _ _ hh7 rfl Try.func7 rfl (Nat.le_of_ble_eq_true rfl) rfl]
  have px : ((faults t).flatMap F2.cells).all plain1 = true := by rw [List.all_flatMap]; simp [F2.cells, plain1]
  by_cases h0 : faults t = []
  · have g := good_of h0
    have hf := g.frame
    unfold frameB at hf; simp only [decide_eq_true_eq] at hf
    rw [h0] at e26
    simp only [List.length_nil, List.flatMap_nil] at e26
    have w0 := wrap_id (x := i) (by omega)
    have q := tm (a := i) (t.C.length : Int) hi.1
    obtain ⟨k, hk⟩ : ∃ k : Nat, (k : Int) = i % (t.C.length : Int) := ⟨(i % (t.C.length : Int)).toNat, by have := Int.emod_nonneg i (show (t.C.length : Int) ≠ 0 by omega); omega⟩
    have hkl : k < t.C.length := by have := Int.emod_lt_of_pos i (show (0 : Int) < t.C.length by omega); omega
    rw [← hk] at q
    have w1 := wrap_id (x := (k : Int)) (by omega)
    have hne : ¬ t.C = [] := fun h => by rw [h] at hkl; simp at hkl
    have hs := flat_set t.C k hkl base
    obtain ⟨D, hD⟩ : ∃ D, D = t.C.set k (mvC t.C[k] base) := ⟨_, rfl⟩
    rw [← hD] at hs
    have lC := flat_len Cl.len t.C
    have kz : k * 10 < t.C.length * 10 := by omega
    have z1 : k * 10 + 1 ≤ t.C.length * 10 := by omega
    have z2 : k * 10 + 10 ≤ t.C.length * 10 := by omega
    have ck := g.cok t.C[k] (List.getElem_mem hkl)
    have ws := wrap_id (x := 16384 - t.C[k].size) (by unfold Cl.ok at ck; omega)
    have dl : D.length = t.C.length := by rw [hD, List.length_set]
    have lD := flat_len Cl.len D
    rw [dl] at lD
    have gk : (D.flatMap Cl.cells)[k * 10 + 1]? = some (.int .i64 t.C[k].size) := by
      rw [flat_get Cl.len D k (by omega) 1 (by omega)]
      subst hD
      rw [List.getElem_set_self]; rfl
    have m1 : t.C.length * 80 ≤ 140737488355328 := by omega
    have oC := flat_out (f := Cl.cells) (fun _ => rfl) t.C
    have aC := flat_all (f := Cl.cells) (fun _ => rfl) t.C
    simp only [Tab.cells_eq] at e26 ⊢
    generalize hY : t.S.flatMap R3.cells = Y at *
    generalize hX : t.W.flatMap R3.cells = X at *
    generalize t.C.flatMap Cl.cells = Z at *
    obtain ⟨H28, e28⟩ := f28 (n + 188) (mv t k hkl base) [] (by omega)
    have mvs := moves t g k hkl base
    have tdc : (mv t k hkl base).cells = [.int .i64 t.f, .sl .sh t.W.length X, .sl .sh t.S.length Y, .sl .sh t.C.length (D.flatMap Cl.cells)] := by
      rw [Tab.cells_eq, ← hX, ← hY, ← dl, hD]; rfl
    rw [tdc] at e28
    have rD := fun j (h : j < t.C.length) => flat_row Cl.len D j (by rw [dl]; exact h)
    have Dj : ∀ j (h : j < t.C.length), D[j]'(by rw [dl]; exact h) = if k = j then mvC t.C[k] base else t.C[j] := fun j h => by subst hD; exact List.getElem_set _
    obtain ⟨P, hP⟩ : ∃ P : Nat → Prop, P = fun m => (128 ≤ base ∧ base ≤ 16384 - t.C[k].size) ∧ ∀ j (h : j < t.C.length), j < m → j ≠ k → offC t.C[j] (mvC t.C[k] base) := ⟨_, rfl⟩
    have mvs' : (faults (mv t k hkl base)).length = 0 ↔ P t.C.length := by
      rw [mvs, hP]
      exact ⟨fun h => ⟨h.1, fun j hj _ hn => h.2 j hj hn⟩, fun h => ⟨h.1, fun j hj hn => h.2 j hj hj hn⟩⟩
    have e28' : ∀ f : Bool, (f = true ↔ P t.C.length) → decide ((faults (mv t k hkl base)).length = 0) = f := fun f h => by
      rw [Bool.eq_iff_iff, decide_eq_true_iff, mvs', h]
    have e27' : evalCall Try.prog hints (n + 199) 27 [] [] = some (.bool true, H27, false) := e27
    clear e27 mvs mvs' tdc
    by_cases hb1 : 128 ≤ base
    · have hf0 : decide (base ≤ 16384 - t.C[k].size) = true ↔ P 0 := by
        rw [decide_eq_true_iff, hP]
        exact ⟨fun h => ⟨⟨hb1, h⟩, fun j _ h => absurd h (by omega)⟩, fun h => h.1.2⟩
      obtain ⟨f0, hf0e⟩ : ∃ f0, f0 = decide (base ≤ 16384 - t.C[k].size) := ⟨_, rfl⟩
      rw [← hf0e] at hf0
      simp [-getElem?_pos, List.getElem?_cons_zero, e26, w0, q, w1, hne, lC, hkl, hs, kz, oC, aC, m1, z1, z2, lD, gk, ws, hb1, ← hf0e]
      generalize hit : iter _ _ _ = r
      refine iter_elim hit (fun x : Nat × Bool => { fr := [(7, .int .i64 k), (8, .box [.int .i64 t.f, .sl .sh t.W.length X, .sl .sh t.S.length Y, .sl (.mu 10) t.C.length (D.flatMap Cl.cells)]), (9, .bool x.2), (10, .int .i64 x.1)], hp := [], base := 0, dirty := false }) (fun x => x.1 ≤ t.C.length ∧ (x.2 = true ↔ P x.1)) (fun x => t.C.length - x.1) (fun x : Nat × Bool => (.exit 0, { fr := [(7, .int .i64 k), (8, .box [.int .i64 t.f, .sl .sh t.W.length X, .sl .sh t.S.length Y, .sl (.mu 10) t.C.length (D.flatMap Cl.cells)]), (9, .bool x.2), (10, .int .i64 x.1), (61, .bool false)], hp := [], base := 0, dirty := false })) (fun y => y.2 = true ↔ P t.C.length) (0, f0) rfl ⟨Nat.zero_le _, hf0⟩ (by show t.C.length - 0 < _; omega) ?_ ?_
      · rintro ⟨j, f⟩ ⟨hj, hf⟩
        simp only at hj hf
        cases f with
        | false =>
          right
          refine ⟨(j, false), ?_, by simp, ?_⟩
          · by_cases c : j < t.C.length
            · simp [-getElem?_pos, List.getElem?_cons_zero, c]
            · simp [-getElem?_pos, List.getElem?_cons_zero, c]
          · refine ⟨fun h => (by cases h), fun h => hf.2 ?_⟩
            rw [hP] at h ⊢
            exact ⟨h.1, fun i hi _ hn => h.2 i hi hi hn⟩
        | true =>
          by_cases c : j < t.C.length
          · left
            have hPj := hf.1 rfl
            rw [hP] at hPj
            obtain ⟨hR, hA⟩ := hPj
            have rj := rD j c
            have rk := rD k hkl
            rw [Dj j c] at rj
            rw [Dj k hkl, if_pos rfl] at rk
            have cj := g.cok t.C[j] (List.getElem_mem c)
            have zj : j * 10 + 10 ≤ t.C.length * 10 := by omega
            have wj := wrap_id (x := (j : Int) + 1) (by omega)
            have hS : ∀ b : Bool, (b = true ↔ (j ≠ k → offC t.C[j] (mvC t.C[k] base))) → (b = true ↔ P (j + 1)) := fun b h => by
              rw [h, hP]
              constructor
              · intro h'
                refine ⟨hR, fun i hi hij hn => ?_⟩
                by_cases e : i = j
                · subst e; exact h' hn
                · exact hA i hi (by omega) hn
              · intro h' hn
                exact h'.2 j c (by omega) hn
            by_cases e : j = k
            · refine ⟨(j + 1, true), ?_, ⟨by show j + 1 ≤ _; omega, hS true ⟨fun _ hn => absurd e hn, fun _ => rfl⟩⟩, by show t.C.length - (j + 1) < t.C.length - j; omega⟩
              subst e
              rw [if_pos rfl] at rj
              generalize t.C[j] = y at *
              obtain ⟨y1, y2, y3, y4, y5, y6, y7, y8, y9, y10⟩ := y
              simp only [Cl.cells, mvC] at *
              simp [-getElem?_pos, List.getElem?_cons_zero, c, lD, zj, rj, wj]
            · have e' : ((j : Int) == (k : Int)) = false := by simp; omega
              rw [if_neg (by omega)] at rj
              have v1 := wrap_id (x := t.C[j].base + t.C[j].size) (by unfold Cl.ok at cj; omega)
              have v2 := wrap_id (x := base + t.C[k].size) (by unfold Cl.ok at ck; omega)
              have hO : offC t.C[j] (mvC t.C[k] base) ↔ t.C[j].base + t.C[j].size ≤ base ∨ base + t.C[k].size ≤ t.C[j].base := Iff.rfl
              refine ⟨(j + 1, decide (t.C[j].base + t.C[j].size ≤ base) || decide (base + t.C[k].size ≤ t.C[j].base)), ?_, ⟨by show j + 1 ≤ _; omega, hS _ (by rw [hO, Bool.or_eq_true, decide_eq_true_iff, decide_eq_true_iff]; exact ⟨fun h _ => h, fun h => h e⟩)⟩, by show t.C.length - (j + 1) < t.C.length - j; omega⟩
              clear hO hS hA hf hP
              generalize t.C[k] = x at *
              generalize t.C[j] = y at *
              obtain ⟨x1, x2, x3, x4, x5, x6, x7, x8, x9, x10⟩ := x
              obtain ⟨y1, y2, y3, y4, y5, y6, y7, y8, y9, y10⟩ := y
              simp only [Cl.cells, mvC] at *
              by_cases o1 : y1 + y2 ≤ base
              · simp [-getElem?_pos, List.getElem?_cons_zero, c, hkl, lD, zj, z2, rj, rk, wj, e, e', v1, v2, o1]
              · simp [-getElem?_pos, List.getElem?_cons_zero, c, hkl, lD, zj, z2, rj, rk, wj, e, e', v1, v2, o1]
          · right
            have ej : j = t.C.length := by omega
            refine ⟨(j, true), ?_, by simp, ?_⟩
            · simp [-getElem?_pos, List.getElem?_cons_zero, c]
            · rw [← ej]; exact hf
      · rintro ⟨j, f⟩ hr hJ
        subst hr
        have e28 := e28
        rw [e28' f hJ] at e28
        simp [-getElem?_pos, List.getElem?_cons_zero, e27', e28]
    · have hJ : false = true ↔ P t.C.length := ⟨fun h => (by cases h), fun h => (by rw [hP] at h; exact absurd h.1.1 hb1)⟩
      rw [e28' false hJ] at e28
      simp [-getElem?_pos, List.getElem?_cons_zero, e26, w0, q, w1, hne, lC, hkl, hs, kz, oC, aC, m1, z1, z2, lD, gk, ws, hb1]
      rw [iter_count (fun j => { fr := [(7, .int .i64 k), (8, .box [.int .i64 t.f, .sl .sh t.W.length X, .sl .sh t.S.length Y, .sl (.mu 10) t.C.length (D.flatMap Cl.cells)]), (9, .bool false), (10, .int .i64 0)], hp := [], base := 0, dirty := false }) (.exit 0, { fr := [(7, .int .i64 k), (8, .box [.int .i64 t.f, .sl .sh t.W.length X, .sl .sh t.S.length Y, .sl (.mu 10) t.C.length (D.flatMap Cl.cells)]), (9, .bool false), (10, .int .i64 0), (61, .bool false)], hp := [], base := 0, dirty := false }) 0]
      · simp [-getElem?_pos, List.getElem?_cons_zero, e27', e28]
      · simp
      · omega
      · intro j hj; omega
      · have c : 0 < t.C.length := by omega
        simp [-getElem?_pos, List.getElem?_cons_zero, c]
      · simp
  · obtain ⟨H28, e28⟩ := f28 (n + 188) t [] (by omega)
    have hl : (faults t).length ≠ 0 := fun h => h0 (List.length_eq_zero_iff.1 h)
    rw [decide_eq_false hl] at e28
    have hp : 0 < ((faults t).length : Int) := by omega
    have hp' : 0 < (faults t).length := by omega
    clear h0 hl
    simp only [Tab.cells_eq] at *
    generalize (faults t).flatMap F2.cells = A at *
    generalize (faults t).length = a at *
    generalize t.S.flatMap R3.cells = Y at *
    generalize t.C.flatMap Cl.cells = Z at *
    generalize t.W.flatMap R3.cells = X at *
    simp [-getElem?_pos, -List.all_eq_true, List.getElem?_cons_zero, e26, e27, e28, px, hp, hp']
end Go.Proofs.Ytehemoachikpgaa
end

section
namespace Go.Proofs.Ytehemoachikpgaa
open Go Go.PS
theorem r3_of63 (r : List PV) (h : Ty Try.prog 63 r) : ∃ m : R3, r = m.cells ∧ True := by
  obtain ⟨parts, rfl, h1, h2⟩ := ty_struct Try.underlying63 h
  match parts, h1, h2 with
  | [p0, p1, p2], _, h2 =>
    obtain ⟨a, rfl, _⟩ := ty_int Try.underlying3 (h2 0 _ _ rfl rfl)
    obtain ⟨b, rfl, _⟩ := ty_int Try.underlying3 (h2 1 _ _ rfl rfl)
    obtain ⟨c, rfl, _⟩ := ty_int Try.underlying3 (h2 2 _ _ rfl rfl)
    exact ⟨⟨a, b, c⟩, rfl, trivial⟩
theorem r3_of64 (r : List PV) (h : Ty Try.prog 64 r) : ∃ m : R3, r = m.cells ∧ True := by
  obtain ⟨parts, rfl, h1, h2⟩ := ty_struct Try.underlying64 h
  match parts, h1, h2 with
  | [p0, p1, p2], _, h2 =>
    obtain ⟨a, rfl, _⟩ := ty_int Try.underlying3 (h2 0 _ _ rfl rfl)
    obtain ⟨b, rfl, _⟩ := ty_int Try.underlying3 (h2 1 _ _ rfl rfl)
    obtain ⟨c, rfl, _⟩ := ty_int Try.underlying3 (h2 2 _ _ rfl rfl)
    exact ⟨⟨a, b, c⟩, rfl, trivial⟩
theorem r3_of24 (r : List PV) (h : Ty Try.prog 24 r) : ∃ m : R3, r = m.cells ∧ True := by
  obtain ⟨parts, rfl, h1, h2⟩ := ty_struct Try.underlying24 h
  match parts, h1, h2 with
  | [p0, p1, p2], _, h2 =>
    obtain ⟨a, rfl, _⟩ := ty_int Try.underlying3 (h2 0 _ _ rfl rfl)
    obtain ⟨b, rfl, _⟩ := ty_int Try.underlying3 (h2 1 _ _ rfl rfl)
    obtain ⟨c, rfl, _⟩ := ty_int Try.underlying3 (h2 2 _ _ rfl rfl)
    exact ⟨⟨a, b, c⟩, rfl, trivial⟩
theorem cl_of (r : List PV) (h : Ty Try.prog 58 r) : ∃ m : Cl, r = m.cells ∧ True := by
  obtain ⟨parts, rfl, h1, h2⟩ := ty_struct Try.underlying58 h
  match parts, h1, h2 with
  | [p0, p1, p2, p3, p4, p5, p6, p7, p8, p9], _, h2 =>
    obtain ⟨a0, rfl, _⟩ := ty_int Try.underlying3 (h2 0 _ _ rfl rfl)
    obtain ⟨a1, rfl, _⟩ := ty_int Try.underlying3 (h2 1 _ _ rfl rfl)
    obtain ⟨a2, rfl, _⟩ := ty_int Try.underlying3 (h2 2 _ _ rfl rfl)
    obtain ⟨a3, rfl, _⟩ := ty_int Try.underlying3 (h2 3 _ _ rfl rfl)
    obtain ⟨a4, rfl, _⟩ := ty_int Try.underlying3 (h2 4 _ _ rfl rfl)
    obtain ⟨a5, rfl, _⟩ := ty_int Try.underlying3 (h2 5 _ _ rfl rfl)
    obtain ⟨a6, rfl, _⟩ := ty_int Try.underlying3 (h2 6 _ _ rfl rfl)
    obtain ⟨a7, rfl, _⟩ := ty_int Try.underlying3 (h2 7 _ _ rfl rfl)
    obtain ⟨a8, rfl, _⟩ := ty_int Try.underlying3 (h2 8 _ _ rfl rfl)
    obtain ⟨a9, rfl, _⟩ := ty_int Try.underlying3 (h2 9 _ _ rfl rfl)
    exact ⟨⟨a0, a1, a2, a3, a4, a5, a6, a7, a8, a9⟩, rfl, trivial⟩
theorem tab_of (cs : List PV) (h : Ty Try.prog 53 cs) : ∃ t : Tab, cs = t.cells ∧ t.W.length ≤ maxLen ∧ t.S.length ≤ maxLen ∧ t.C.length ≤ maxLen := by
  obtain ⟨parts, rfl, h1, h2⟩ := ty_struct Try.underlying53 h
  match parts, h1, h2 with
  | [p0, p1, p2, p3], _, h2 =>
    obtain ⟨f, rfl, _⟩ := ty_int Try.underlying3 (h2 0 _ _ rfl rfl)
    obtain ⟨rW, rfl, lW, tW⟩ := ty_slice Try.underlying49 (h2 1 _ _ rfl rfl)
    obtain ⟨rS, rfl, lS, tS⟩ := ty_slice Try.underlying50 (h2 2 _ _ rfl rfl)
    obtain ⟨rC, rfl, lC, tC⟩ := ty_slice Try.underlying51 (h2 3 _ _ rfl rfl)
    obtain ⟨W, w1, w2, _⟩ := rows_map r3_of63 rW tW
    obtain ⟨S, s1, s2, _⟩ := rows_map r3_of64 rS tS
    obtain ⟨C, c1, c2, _⟩ := rows_map cl_of rC tC
    refine ⟨⟨f, W, S, C⟩, ?_, by show W.length ≤ _; omega, by show S.length ≤ _; omega, by show C.length ≤ _; omega⟩
    rw [w2, s2, c2, ← w1, ← s1, ← c1]; rfl
theorem u8_wf {v : Int} (h : (Lit.int .u8 v).wf = true) : 0 ≤ v ∧ v ≤ 255 := by
  simp [Lit.wf, IntKind.min, IntKind.max, IntKind.signed, IntKind.bits] at h
  omega
end Go.Proofs.Ytehemoachikpgaa
end
