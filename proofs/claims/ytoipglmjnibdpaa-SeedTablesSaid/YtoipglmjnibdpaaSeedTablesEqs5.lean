/-
  What functions of this program compute, as equations about the evaluator. No condition but those stated.
-/
import Derived.Test.YtoipglmjnibdpaaSeedTablesEqs4
set_option linter.all false
section
namespace Go.Proofs.Ytoipglmjnibdpaa
open Go Go.PS
structure F2 where
  r : Int
  k : Int
  deriving DecidableEq
def F2.cells (c : F2) : List PV := [.int .i64 c.r, .int .i64 c.k]
theorem F2.len (c : F2) : c.cells.length = 2 := rfl
def rowsF (t : Tab) (k : Nat) : Nat → List F2
  | 0 => []
  | r + 1 => rowsF t k r ++ if hasB t k r = true then [⟨r, k⟩] else []
def allF (t : Tab) : Nat → List F2
  | 0 => []
  | j + 1 => allF t j ++ rowsF t (j + 2) 33
def faults (t : Tab) : List F2 := if frameB t = true then allF t 9 else [⟨0, 1⟩]
theorem rowsF_len (t : Tab) (k : Nat) : ∀ r, (rowsF t k r).length ≤ r
  | 0 => by simp [rowsF]
  | r + 1 => by
    have := rowsF_len t k r
    rw [rowsF]; split <;> simp <;> omega
theorem allF_len (t : Tab) : ∀ j, (allF t j).length ≤ 33 * j
  | 0 => by simp [allF]
  | j + 1 => by
    have := allF_len t j
    have := rowsF_len t (j + 2) 33
    rw [allF, List.length_append]; omega
theorem mem2 {a b j : Nat} (ha : a ≤ 33 * j) (hb : b ≤ 33) (hj : j ≤ 9) : (a + b + 1) * 16 ≤ 140737488355328 := by omega
theorem ar2 (a : Nat) : a * 2 + 2 = (a + 1) * 2 := by omega
set_option maxHeartbeats 1000000 in
theorem f35 (n : Nat) (t : Tab) (hp : Heap) (hn : 100 < n)
    (has : frameB t = true → ∀ (k r : Nat), 2 ≤ k → k ≤ 10 → r ≤ 32 → evalCall Try.prog hints (n + 5) 69 [.agg t.cells, .int .i64 k, .int .i64 r] hp = some (.bool (hasB t k r), hp, false)) (e68 : evalCall Try.prog hints (n + 5) 68 [.agg t.cells] hp = some (.bool (frameB t), hp, false)) :
    evalCall Try.prog hints (n + 6) 35 [.agg t.cells] hp = some (.sl (.mu 2) (faults t).length ((faults t).flatMap F2.cells), hp, false) := by
  rw [evalCall_at _ _ _ hh35 rfl Try.func35 rfl (Nat.le_of_ble_eq_true rfl) rfl]
  have hA := allF_len t
  have hR := rowsF_len t
  simp only [Tab.cells] at *
  unfold faults
  cases hf : frameB t with
  | false =>
    rw [hf] at e68
    generalize t.S.flatMap _ = Y at *
    generalize t.W.flatMap _ = X at *
    generalize t.C.flatMap _ = Z at *
    simp [e68, F2.cells]
  | true =>
    rw [hf] at e68
    have has := has hf
    simp only [if_true]
    generalize t.S.flatMap _ = Y at *
    generalize t.W.flatMap _ = X at *
    generalize t.C.flatMap _ = Z at *
    simp [e68]
    rw [iter_count (fun j => { fr := [(1, .box [.int .i64 t.f, .sl .sh t.W.length X, .sl .sh t.S.length Y, .sl .sh t.C.length Z]), (3, .sl (.mu 2) (allF t j).length ((allF t j).flatMap F2.cells)), (4, .int .i64 (2 + j))], hp := hp, base := hp.length, dirty := false })
      (.exit 0, { fr := [(1, .box [.int .i64 t.f, .sl .sh t.W.length X, .sl .sh t.S.length Y, .sl .sh t.C.length Z]), (3, .sl (.mu 2) (allF t 9).length ((allF t 9).flatMap F2.cells)), (4, .int .i64 11), (13, .bool false)], hp := hp, base := hp.length, dirty := false }) 9]
    · generalize (allF t 9).flatMap _ = Q
      simp
    · simp [allF]
    · omega
    · intro j hj
      have w1 := wrap_id (x := 2 + (j : Int) + 1) (by omega)
      have c1 : 2 + (j : Int) ≤ 10 := by omega
      have hA := hA j
      rw [allF, List.length_append, List.flatMap_append]
      generalize hB : allF t j = B at *
      simp [c1]
      rw [iter_count (fun r => { fr := [(1, .box [.int .i64 t.f, .sl .sh t.W.length X, .sl .sh t.S.length Y, .sl .sh t.C.length Z]), (3, .sl (.mu 2) (B.length + (rowsF t (j + 2) r).length) (B.flatMap F2.cells ++ (rowsF t (j + 2) r).flatMap F2.cells)), (4, .int .i64 (2 + j)), (5, .int .i64 r)], hp := hp, base := hp.length, dirty := false })
        (.exit 2, { fr := [(1, .box [.int .i64 t.f, .sl .sh t.W.length X, .sl .sh t.S.length Y, .sl .sh t.C.length Z]), (3, .sl (.mu 2) (B.length + (rowsF t (j + 2) 33).length) (B.flatMap F2.cells ++ (rowsF t (j + 2) 33).flatMap F2.cells)), (4, .int .i64 (2 + j)), (5, .int .i64 33), (17, .bool false)], hp := hp, base := hp.length, dirty := false }) 33]
      · generalize B.flatMap _ = Q
        generalize (rowsF t (j + 2) 33).flatMap _ = Q'
        simp [w1]
        omega
      · simp [rowsF]
      · omega
      · intro r hr
        have e := has (j + 2) r (by omega) (by omega) (by omega)
        rw [show ((j + 2 : Nat) : Int) = 2 + (j : Int) by omega] at e
        have w2 := wrap_id (x := (r : Int) + 1) (by omega)
        have c2 : (r : Int) ≤ 32 := by omega
        have c2' : r ≤ 32 := by omega
        have hR := hR (j + 2) r
        have m1 := mem2 hA (Nat.le_trans hR (Nat.le_of_lt hr)) (Nat.le_of_lt hj)
        have a1 := ar2 (B.length + (rowsF t (j + 2) r).length)
        have lB := flat_len F2.len B
        have lR := flat_len F2.len (rowsF t (j + 2) r)
        rw [rowsF]
        generalize rowsF t (j + 2) r = D at *
        have a2 : (B.flatMap F2.cells ++ D.flatMap F2.cells).length = (B.length + D.length) * 2 := by rw [List.length_append]; omega
        cases hb : hasB t (j + 2) r with
        | true =>
          rw [hb] at e
          simp only [if_true, List.flatMap_append, List.flatMap_cons, List.flatMap_nil, List.append_nil, List.length_append, List.length_cons, List.length_nil, F2.cells]
          rw [← List.append_assoc, ← Nat.add_assoc, show ((j + 2 : Nat) : Int) = 2 + (j : Int) by omega]
          generalize B.flatMap F2.cells ++ D.flatMap F2.cells = Q at *
          generalize B.length + D.length = q at *
          simp [c2, c2', e, w2, a2, a1, m1]
        | false =>
          rw [hb] at e
          simp only [Bool.false_eq_true, if_false, List.append_nil]
          generalize B.flatMap F2.cells ++ D.flatMap F2.cells = Q at *
          generalize B.length + D.length = q at *
          simp [c2, c2', e, w2]
      · simp
      · simp
    · simp
    · simp
end Go.Proofs.Ytoipglmjnibdpaa
end

section
namespace Go.Proofs.Ytoipglmjnibdpaa
open Go Go.PS
theorem f69 (n : Nat) (t : Tab) (k r : Nat) (hp : Heap) (hf : frameB t = true) (h2 : 2 ≤ k) (h10 : k ≤ 10) (hr : r ≤ 32) (hn : 60 < n) : evalCall Try.prog hints (n + 5) 69 [.agg t.cells, .int .i64 k, .int .i64 r] hp = some (.bool (hasB t k r), hp, false) := by
  rcases (by omega : k = 2 ∨ k = 3 ∨ k = 4 ∨ k = 5 ∨ k = 6 ∨ k = 7 ∨ k = 8 ∨ k = 9 ∨ k = 10) with h | h | h | h | h | h | h | h | h <;> subst h
  · cases r with
    | zero => exact f69_z2 n t hp hn
    | succ i => exact f69_2 n t i hp (by omega)
  · cases r with
    | zero => exact f69_z3 n t hp hn
    | succ i => exact f69_3 n t i hp (by omega) hn
  · cases r with
    | zero => exact f69_z4 n t hp hn
    | succ i => exact f69_4 n t i hp hf (by omega) hn
  · cases r with
    | zero => exact f69_z5 n t hp hn
    | succ i => exact f69_5 n t i hp (by omega) hn
  · exact f69_6 n t r hp hf (by omega) hn
  · by_cases h : r = 0
    · subst h; exact f69_7 n t hp hf hn
    · exact f69_7n n t r hp h (by omega) hn
  · cases r with
    | zero => exact f69_z8 n t hp hn
    | succ i => exact f69_8 n t i hp hf (by omega) hn
  · cases r with
    | zero => exact f69_z9 n t hp hn
    | succ i => exact f69_9 n t i hp (by omega) hn
  · cases r with
    | zero => exact f69_z10 n t hp hn
    | succ i => exact f69_10 n t i hp hf (by omega) hn
theorem f35' (n : Nat) (t : Tab) (hp : Heap) (hn : 100 < n) : evalCall Try.prog hints (n + 6) 35 [.agg t.cells] hp = some (.sl (.mu 2) (faults t).length ((faults t).flatMap F2.cells), hp, false) :=
  f35 n t hp hn (fun hf k r h1 h2 h3 => f69 n t k r hp hf h1 h2 h3 (by omega)) (f68 (n + 4) t hp)
theorem allF_nil (t : Tab) (h : ∀ k r, 2 ≤ k → k ≤ 10 → r ≤ 32 → hasB t k r = false) : ∀ j, j ≤ 9 → allF t j = []
  | 0, _ => rfl
  | j + 1, hj => by
    have : ∀ r, r ≤ 33 → rowsF t (j + 2) r = [] := by
      intro r
      induction r with
      | zero => intro _; rfl
      | succ r ih => intro hr; rw [rowsF, ih (by omega), h (j + 2) r (by omega) (by omega) (by omega)]; rfl
    rw [allF, allF_nil t h j (by omega), this 33 (by omega)]; rfl
theorem faults_nil {t : Tab} (hf : frameB t = true) (h : ∀ k r, 2 ≤ k → k ≤ 10 → r ≤ 32 → hasB t k r = false) : faults t = [] := by
  unfold faults; rw [if_pos hf, allF_nil t h 9 (by omega)]
theorem ats_false {α : Type} {l : List α} {p : α → Bool} (h : ∀ x ∈ l, p x = false) (r : Nat) : ats l r p = false := by
  unfold ats; cases r with
  | zero => rfl
  | succ i =>
    simp only
    cases hx : l[i]? with
    | none => rfl
    | some x => exact h x (List.mem_of_getElem? hx)
theorem pre_false {α : Type} {l : List α} {p : α → α → Bool} {R : α → α → Prop} (hw : l.Pairwise R) (h : ∀ x y, x ∈ l → y ∈ l → R y x → p x y = false) (r : Nat) : pre l r p = false := by
  unfold pre; cases r with
  | zero => rfl
  | succ i =>
    simp only
    cases hx : l[i]? with
    | none => rfl
    | some x =>
      simp only [Option.any_some]
      rw [List.any_eq_false]
      intro k hk
      have hk : k < i := by simpa using hk
      cases hy : l[k]? with
      | none => simp
      | some y =>
        obtain ⟨i1, i2⟩ := List.getElem?_eq_some_iff.1 hx
        obtain ⟨k1, k2⟩ := List.getElem?_eq_some_iff.1 hy
        have := List.pairwise_iff_getElem.1 hw k i k1 i1 hk
        rw [i2, k2] at this
        simp only [Option.any_some]
        rw [h x y (List.mem_of_getElem? hx) (List.mem_of_getElem? hy) this]
        simp
theorem meets_apart {a b c d : Int} (h : d ≤ a) : meets a b c d = false := by
  unfold meets holds
  by_cases h1 : 0 ≤ a ∧ a < b
  · by_cases h2 : 0 ≤ c ∧ c < d
    · have e1 : decide (0 ≤ a ∧ a ≤ c ∧ c < b) = false := by simp; omega
      have e2 : decide (0 ≤ c ∧ c ≤ a ∧ a < d) = false := by simp; omega
      simp [e1, e2]
    · simp [h2]
  · simp [h1]
theorem ioW_false {t : Tab} : ∀ {l : List R3}, (∀ w ∈ l, w.o = 0 → (w.b - w.a < 2 * (t.C.length : Int)) → False) → ∀ r, ioW t r l = false
  | [], _, _ => rfl
  | w :: l, h, r => by
    rw [ioW]
    split
    · split
      · rename_i h0
        have this : ¬ (w.b - w.a < 2 * (t.C.length : Int)) := h w (by simp) h0
        have e : decide (w.b - w.a < 2 * (t.C.length : Int)) = false := by simp; omega
        rw [e, Bool.and_false]
      · exact ioW_false (fun w hw => h w (by simp [hw])) r
    · rfl
theorem units_ge {t : Tab} {r : Int} (hf : t.f ≤ 4096) : ∀ {l : List R3} {d : R3}, d ∈ l → unit1 t r d ≤ units t r l
  | x :: l, d, h => by
    rw [units]
    have h1 := unit1_b t r x hf
    have h2 := units_b t r hf l
    rcases List.mem_cons.1 h with rfl | h
    · omega
    · have := units_ge hf h (r := r); omega
theorem made_right (s n : Int) : faults (made s n) = [] := by
  have hN : 1 ≤ cnt n ∧ cnt n ≤ 8 := by unfold cnt; omega
  have hp := dr4 (nx s) (cnt n + 1) (by omega)
  have hb := invC hN (inv_all (s := s) (p := dr (nx s) (cnt n + 1)) hN hp.1 (cnt n) (Nat.le_refl _)) (by omega)
  have hx : cutS (cnt n) (dr (nx s) (cnt n + 1)) (cnt n) (itM (cnt n) (dr (nx s) (cnt n + 1)) (start s) (cnt n)) = last s n := rfl
  rw [hx] at hb
  generalize dr (nx s) (cnt n + 1) = p at *
  have lt : late p (cnt n + 1) = 1 := by unfold late; rw [if_pos (by omega)]
  have hr := dr4 (nx (last s n).s) 4 (by omega)
  unfold made
  generalize last s n = x at *
  generalize cnt n = N at *
  generalize dr (nx x.s) 4 = r4 at *
  obtain ⟨i1, i2, i3, i4, i5, i6, i7, i8, i9, i10, i11, i12, i13, i14, i15, i16, i17⟩ := hb
  rw [lt] at i4 i6
  obtain ⟨t, ht⟩ : ∃ t : Tab, t = ⟨max x.w x.l + r4, x.W, x.S, x.C⟩ := ⟨_, rfl⟩
  rw [← ht]
  have tW : t.W = x.W := by rw [ht]
  have tS : t.S = x.S := by rw [ht]
  have tC : t.C = x.C := by rw [ht]
  have tf : t.f = max x.w x.l + r4 := by rw [ht]
  obtain ⟨w0, hw0, -⟩ := i13 1 (by omega) (by omega)
  have h0 := i11 w0 hw0
  have okWt : ∀ w ∈ x.W, okW t w = true := by
    intro w hw
    have := i11 w hw
    unfold okW; rw [tC, tf]; simp only [decide_eq_true_eq]; omega
  have okSt : ∀ w ∈ x.S, okS t w = true := by
    intro w hw
    have := i15 w hw
    unfold okS; rw [tC, tf]; simp only [decide_eq_true_eq]; omega
  apply faults_nil
  · unfold frameB; rw [tW, tS, tC, tf]; simp only [decide_eq_true_eq]; omega
  · intro k r h2 h10 hr
    rcases (by omega : k = 2 ∨ k = 3 ∨ k = 4 ∨ k = 5 ∨ k = 6 ∨ k = 7 ∨ k = 8 ∨ k = 9 ∨ k = 10) with h | h | h | h | h | h | h | h | h <;> subst h <;> simp only [hasB, tW, tS, tC]
    · exact ats_false (fun c hc => by simp [(i9 c hc).1]) r
    · refine pre_false i10 (fun c d hc hd h => ?_) r
      have hc := i9 c hc
      have hd := i9 d hd
      unfold pairC
      rw [meets_apart (by omega), meets_apart (by omega)]
      have e1 : ¬ c.id = d.id := by omega
      have e2 : ¬ c.irq = d.irq := by omega
      simp [e1, e2]
    · exact ats_false (fun c hc => by simp [okWt c hc]) r
    · refine pre_false i12 (fun c d hc hd h => ?_) r
      unfold pairW
      rw [meets_apart h.1]
      have e1 : ¬ c.o = d.o := fun e => h.2 e.symm
      simp [e1]
    · by_cases h : r ≤ N
      · have : ∃ w ∈ x.W, w.o = r := by
          by_cases h0 : r = 0
          · obtain ⟨w, hw, h3⟩ := i14 (by omega)
            exact ⟨w, hw, by omega⟩
          · exact i13 r (by omega) (by omega)
        obtain ⟨w, hw, h3⟩ := this
        rw [List.any_eq_true.2 ⟨w, hw, by simp [h3]⟩]; rfl
      · have : ¬ (r : Int) ≤ x.C.length := by omega
        simp only [this, decide_false, Bool.and_false]
    · refine ioW_false (fun w hw h0 h => ?_) r
      have := (i11 w hw).2.2.2.2.2 h0
      rw [tC] at h
      omega
    · exact ats_false (fun c hc => by simp [okSt c hc]) r
    · refine pre_false i16 (fun c d hc hd h => ?_) r
      unfold pairS
      rw [meets_apart h]
    · cases r with
      | zero => rfl
      | succ i =>
        simp only [ats]
        cases hx : x.C[i]? with
        | none => rfl
        | some c =>
          obtain ⟨d, h1, h2, h3⟩ := i17 i c hx
          have hd := List.mem_of_getElem? h1
          have := units_ge (t := t) (r := ((i + 1 : Nat) : Int)) (by rw [tf]; omega) hd
          have u : unit1 t ((i + 1 : Nat) : Int) d = (d.b - d.a) / 4 := by
            unfold unit1; rw [if_pos ⟨by omega, okSt d hd⟩]
          simp only [Option.any_some, overU, decide_eq_false_iff_not, tS]
          omega
theorem made_len (s n : Int) : ((made s n).C.length : Int) = min (max n 1) 8 := by
  have hN : 1 ≤ cnt n ∧ cnt n ≤ 8 := by unfold cnt; omega
  have hp := dr4 (nx s) (cnt n + 1) (by omega)
  have hb := invC hN (inv_all (s := s) (p := dr (nx s) (cnt n + 1)) hN hp.1 (cnt n) (Nat.le_refl _)) (by omega)
  have e : ((made s n).C.length : Int) = cnt n := hb.C
  rw [e]; unfold cnt; omega
end Go.Proofs.Ytoipglmjnibdpaa
end

section
namespace Go.Proofs.Ytoipglmjnibdpaa
open Go Go.PS
def R3.nums (w : R3) : List F2 := [⟨w.o, 1⟩, ⟨w.a, 2⟩, ⟨w.b, 2⟩]
def Cl.nums (c : Cl) : List F2 := [⟨c.base, 2⟩, ⟨c.size, 2⟩, ⟨c.q, 1⟩, ⟨c.at_, 2⟩, ⟨c.n, 1⟩, ⟨c.pr, 1⟩, ⟨c.id, 1⟩, ⟨c.irq, 1⟩, ⟨c.hb, 2⟩, ⟨c.hn, 1⟩]
def headN (t : Tab) : List F2 := [⟨67, 1⟩, ⟨1, 1⟩, ⟨t.f, 2⟩, ⟨t.W.length, 1⟩]
def nums (t : Tab) : List F2 := headN t ++ t.W.flatMap R3.nums ++ [⟨t.S.length, 1⟩] ++ t.S.flatMap R3.nums ++ [⟨t.C.length, 1⟩] ++ t.C.flatMap Cl.nums
theorem f95 (n : Nat) (a b c : Int) (hp : Heap) : evalCall Try.prog hints (n + 1) 95 [.int .i64 a, .int .i64 b, .int .i64 c] hp = some (.sl (.mu 2) 3 ((R3.nums ⟨a, b, c⟩).flatMap F2.cells), hp, false) := by
  rw [evalCall_at _ _ _ hh95 rfl Try.func95 rfl (Nat.le_of_ble_eq_true rfl) rfl]
  simp [R3.nums, F2.cells]
theorem flat_snoc {α β : Type} (f : α → List β) (l : List α) (k : Nat) (h : k < l.length) : (l.take (k + 1)).flatMap f = (l.take k).flatMap f ++ f l[k] := by
  rw [List.take_succ_eq_append_getElem h, List.flatMap_append]; simp
theorem R3.numsLen (c : R3) : (R3.nums c).length = 3 := rfl
theorem Cl.numsLen (c : Cl) : (Cl.nums c).length = 10 := rfl
theorem nlen {α : Type} {f : α → List F2} {k : Nat} (hk : ∀ x, (f x).length = k) : ∀ l : List α, (l.flatMap f).length = l.length * k
  | [] => by simp
  | a :: l => by rw [List.flatMap_cons, List.length_append, hk, nlen hk l, List.length_cons]; rw [Nat.succ_mul]; omega
theorem bigW {a c : Nat} (ha : a ≤ 20000) (hc : c ≤ 10) : (a + c) * 16 ≤ 140737488355328 := by omega
set_option maxHeartbeats 4000000 in
theorem f70 (n : Nat) (t : Tab) (hp : Heap) (hW : t.W.length ≤ 1000) (hS : t.S.length ≤ 1000) (hC : t.C.length ≤ 1000) (hn : 2000 < n) :
    evalCall Try.prog hints (n + 2) 70 [.agg t.cells] hp = some (.sl (.mu 2) (nums t).length ((nums t).flatMap F2.cells), hp, false) := by
  have e95 := fun a b c => f95 n a b c hp
  rw [evalCall_at _ _ _ hh70 rfl Try.func70 rfl (Nat.le_of_ble_eq_true rfl) rfl]
  have lW := flat_len R3.len t.W
  have lS := flat_len R3.len t.S
  have lC := flat_len Cl.len t.C
  have w0 := fun k h => flat_get R3.len t.W k h 0 (by omega)
  have w1 := fun k h => flat_get R3.len t.W k h 1 (by omega)
  have w2 := fun k h => flat_get R3.len t.W k h 2 (by omega)
  have s0 := fun k h => flat_get R3.len t.S k h 0 (by omega)
  have s1 := fun k h => flat_get R3.len t.S k h 1 (by omega)
  have s2 := fun k h => flat_get R3.len t.S k h 2 (by omega)
  have rC := fun k h => flat_row Cl.len t.C k h
  have hR : nums t = headN t ++ t.W.flatMap R3.nums ++ [⟨t.S.length, 1⟩] ++ t.S.flatMap R3.nums ++ [⟨t.C.length, 1⟩] ++ t.C.flatMap Cl.nums := rfl
  generalize nums t = R at *
  simp only [Tab.cells]
  generalize t.S.flatMap R3.cells = Y at *
  generalize t.W.flatMap R3.cells = X at *
  generalize t.C.flatMap Cl.cells = Z at *
  obtain ⟨A, hA⟩ : ∃ A, A = headN t := ⟨_, rfl⟩
  have lA : A.length = 4 := by rw [hA]; rfl
  rw [← hA] at hR
  generalize hRf : R.flatMap F2.cells = RF
  simp
  rw [iter_count (fun k => { fr := [(1, .box [.int .i64 t.f, .sl .sh t.W.length X, .sl .sh t.S.length Y, .sl .sh t.C.length Z]), (3, .sl (.mu 2) (A ++ (t.W.take k).flatMap R3.nums).length ((A ++ (t.W.take k).flatMap R3.nums).flatMap F2.cells)), (4, .int .i64 k)], hp := hp, base := hp.length, dirty := false })
    (.exit 0, { fr := [(1, .box [.int .i64 t.f, .sl .sh t.W.length X, .sl .sh t.S.length Y, .sl .sh t.C.length Z]), (3, .sl (.mu 2) (A ++ t.W.flatMap R3.nums).length ((A ++ t.W.flatMap R3.nums).flatMap F2.cells)), (4, .int .i64 t.W.length), (22, .bool false)], hp := hp, base := hp.length, dirty := false }) t.W.length]
  rotate_left
  · rw [hA]; simp [headN, F2.cells]
  · omega
  · intro k hk
    have w0 := w0 k hk
    have w1 := w1 k hk
    have w2 := w2 k hk
    have z : k * 3 + 3 ≤ t.W.length * 3 := by omega
    have hT : (t.W.take k).length = k := by rw [List.length_take]; omega
    have lD := nlen R3.numsLen (t.W.take k)
    rw [flat_snoc _ _ _ hk]
    obtain ⟨D, hD⟩ : ∃ D, D = A ++ (t.W.take k).flatMap R3.nums := ⟨_, rfl⟩
    have lD2 : D.length = A.length + k * 3 := by rw [hD, List.length_append]; omega
    rw [← List.append_assoc, ← hD]
    have lDf := flat_len F2.len D
    have wk := wrap_id (x := (k : Int) + 1) (by omega)
    have m := bigW (a := D.length) (c := 3) (by omega) (by omega)
    have a3 : D.length * 2 + 6 = (D.length + 3) * 2 := by omega
    generalize t.W[k] = x at *
    obtain ⟨o, a, b⟩ := x
    have e := e95 o a b
    have eV : (R3.nums ⟨o, a, b⟩).flatMap F2.cells = [.int .i64 o, .int .i64 1, .int .i64 a, .int .i64 2, .int .i64 b, .int .i64 2] := rfl
    rw [List.flatMap_append, List.length_append, R3.numsLen, eV]
    rw [eV] at e
    clear hD eV
    generalize D.flatMap F2.cells = Q at *
    generalize D.length = d at *
    simp only [R3.cells, Nat.add_zero, List.getElem?_cons_zero, List.getElem?_cons_succ] at *
    simp [-getElem?_pos, List.getElem?_cons_zero, hk, lW, w0, w1, w2, z, e, wk, m, lDf, a3]
  · simp
  · simp
  have l2 := nlen R3.numsLen t.W
  obtain ⟨B, hB⟩ : ∃ B, B = A ++ t.W.flatMap R3.nums := ⟨_, rfl⟩
  have lB : B.length = A.length + t.W.length * 3 := by rw [hB, List.length_append]; omega
  rw [← hB]
  have lBf := flat_len F2.len B
  obtain ⟨B', hB'⟩ : ∃ D : List F2, D = B ++ [⟨t.S.length, 1⟩] := ⟨_, rfl⟩
  have lB' : B'.length = B.length + 1 := by rw [hB']; simp
  have fB' : B'.flatMap F2.cells = B.flatMap F2.cells ++ [.int .i64 t.S.length, .int .i64 1] := by rw [hB', List.flatMap_append]; rfl
  have m := bigW (a := B.length) (c := 1) (by omega) (by omega)
  have a3 : B.length * 2 + 2 = (B.length + 1) * 2 := by omega
  have hB'2 : B' = A ++ t.W.flatMap R3.nums ++ [⟨t.S.length, 1⟩] := by rw [hB', hB]
  clear hB hB'
  generalize B.flatMap F2.cells = Q at *
  simp [lBf, m, a3]
  rw [← lB', ← fB']
  rw [iter_count (fun k => { fr := [(1, .box [.int .i64 t.f, .sl .sh t.W.length X, .sl .sh t.S.length Y, .sl .sh t.C.length Z]), (3, .sl (.mu 2) (B' ++ (t.S.take k).flatMap R3.nums).length ((B' ++ (t.S.take k).flatMap R3.nums).flatMap F2.cells)), (5, .int .i64 k)], hp := hp, base := hp.length, dirty := false })
    (.exit 2, { fr := [(1, .box [.int .i64 t.f, .sl .sh t.W.length X, .sl .sh t.S.length Y, .sl .sh t.C.length Z]), (3, .sl (.mu 2) (B' ++ t.S.flatMap R3.nums).length ((B' ++ t.S.flatMap R3.nums).flatMap F2.cells)), (5, .int .i64 t.S.length), (57, .bool false)], hp := hp, base := hp.length, dirty := false }) t.S.length]
  rotate_left
  · simp
  · omega
  · intro k hk
    have w0 := s0 k hk
    have w1 := s1 k hk
    have w2 := s2 k hk
    have z : k * 3 + 3 ≤ t.S.length * 3 := by omega
    have hT : (t.S.take k).length = k := by rw [List.length_take]; omega
    have lD := nlen R3.numsLen (t.S.take k)
    rw [flat_snoc _ _ _ hk]
    obtain ⟨D, hD⟩ : ∃ D, D = B' ++ (t.S.take k).flatMap R3.nums := ⟨_, rfl⟩
    have lD2 : D.length = B'.length + k * 3 := by rw [hD, List.length_append]; omega
    rw [← List.append_assoc, ← hD]
    have lDf := flat_len F2.len D
    have wk := wrap_id (x := (k : Int) + 1) (by omega)
    have m := bigW (a := D.length) (c := 3) (by omega) (by omega)
    have a3 : D.length * 2 + 6 = (D.length + 3) * 2 := by omega
    generalize t.S[k] = x at *
    obtain ⟨o, a, b⟩ := x
    have e := e95 o a b
    have eV : (R3.nums ⟨o, a, b⟩).flatMap F2.cells = [.int .i64 o, .int .i64 1, .int .i64 a, .int .i64 2, .int .i64 b, .int .i64 2] := rfl
    rw [List.flatMap_append, List.length_append, R3.numsLen, eV]
    rw [eV] at e
    clear hD eV
    generalize D.flatMap F2.cells = Q at *
    generalize D.length = d at *
    simp only [R3.cells, Nat.add_zero, List.getElem?_cons_zero, List.getElem?_cons_succ] at *
    simp [-getElem?_pos, List.getElem?_cons_zero, hk, lS, w0, w1, w2, z, e, wk, m, lDf, a3]
  · simp
  · simp
  rw [← hB'2] at hR
  clear hB'2 fB' lBf m a3
  have l2 := nlen R3.numsLen t.S
  obtain ⟨B, hB2⟩ : ∃ B, B = B' ++ t.S.flatMap R3.nums := ⟨_, rfl⟩
  have lB2 : B.length = B'.length + t.S.length * 3 := by rw [hB2, List.length_append]; omega
  rw [← hB2]
  have lBg := flat_len F2.len B
  obtain ⟨C', hC'⟩ : ∃ D : List F2, D = B ++ [⟨t.C.length, 1⟩] := ⟨_, rfl⟩
  have lC' : C'.length = B.length + 1 := by rw [hC']; simp
  have fC' : C'.flatMap F2.cells = B.flatMap F2.cells ++ [.int .i64 t.C.length, .int .i64 1] := by rw [hC', List.flatMap_append]; rfl
  have m := bigW (a := B.length) (c := 1) (by omega) (by omega)
  have a3 : B.length * 2 + 2 = (B.length + 1) * 2 := by omega
  have hC'2 : C' = B' ++ t.S.flatMap R3.nums ++ [⟨t.C.length, 1⟩] := by rw [hC', hB2]
  clear hB2 hC'
  generalize B.flatMap F2.cells = Q at *
  simp [lBg, m, a3]
  rw [← lC', ← fC']
  rw [iter_count (fun k => { fr := [(1, .box [.int .i64 t.f, .sl .sh t.W.length X, .sl .sh t.S.length Y, .sl .sh t.C.length Z]), (3, .sl (.mu 2) (C' ++ (t.C.take k).flatMap Cl.nums).length ((C' ++ (t.C.take k).flatMap Cl.nums).flatMap F2.cells)), (6, .int .i64 k)], hp := hp, base := hp.length, dirty := false })
    (.exit 4, { fr := [(1, .box [.int .i64 t.f, .sl .sh t.W.length X, .sl .sh t.S.length Y, .sl .sh t.C.length Z]), (3, .sl (.mu 2) (C' ++ t.C.flatMap Cl.nums).length ((C' ++ t.C.flatMap Cl.nums).flatMap F2.cells)), (6, .int .i64 t.C.length), (92, .bool false)], hp := hp, base := hp.length, dirty := false }) t.C.length]
  rotate_left
  · simp
  · omega
  · intro k hk
    have rC := rC k hk
    have z : k * 10 + 10 ≤ t.C.length * 10 := by omega
    have hT : (t.C.take k).length = k := by rw [List.length_take]; omega
    have lD := nlen Cl.numsLen (t.C.take k)
    rw [flat_snoc _ _ _ hk]
    obtain ⟨D, hD⟩ : ∃ D, D = C' ++ (t.C.take k).flatMap Cl.nums := ⟨_, rfl⟩
    have lD2 : D.length = C'.length + k * 10 := by rw [hD, List.length_append]; omega
    rw [← List.append_assoc, ← hD]
    have lDf := flat_len F2.len D
    have wk := wrap_id (x := (k : Int) + 1) (by omega)
    have m := bigW (a := D.length) (c := 10) (by omega) (by omega)
    have a3 : D.length * 2 + 20 = (D.length + 10) * 2 := by omega
    generalize t.C[k] = x at *
    obtain ⟨base, size, q, at_, nn, pr, id, irq, hb, hn⟩ := x
    have eV : (Cl.nums ⟨base, size, q, at_, nn, pr, id, irq, hb, hn⟩).flatMap F2.cells = [.int .i64 base, .int .i64 2, .int .i64 size, .int .i64 2, .int .i64 q, .int .i64 1, .int .i64 at_, .int .i64 2, .int .i64 nn, .int .i64 1, .int .i64 pr, .int .i64 1, .int .i64 id, .int .i64 1, .int .i64 irq, .int .i64 1, .int .i64 hb, .int .i64 2, .int .i64 hn, .int .i64 1] := rfl
    rw [List.flatMap_append, List.length_append, Cl.numsLen, eV]
    clear hD eV
    generalize D.flatMap F2.cells = Q at *
    generalize D.length = d at *
    simp only [Cl.cells] at *
    simp [hk, lC, rC, z, wk, m, lDf, a3]
  · simp
  · simp
  rw [← hC'2] at hR
  rw [← hR, hRf]
  simp
end Go.Proofs.Ytoipglmjnibdpaa
end

section
namespace Go.Proofs.Ytoipglmjnibdpaa
open Go Go.PS
theorem stood109 : Try.prog.stoodInHeld 109 = false := by kernel_rfl
@[simp] theorem guard109 : Try.prog.eqGuardType Try.prog.depth 109 = false := by kernel_rfl
theorem eqi3 (d : Nat) (a b : Int) : eqT Try.prog (d + 1) 3 [.int .i64 a] [.int .i64 b] = some (a == b) := by simp only [eqT, Try.underlying3]; rfl
theorem eqF (x y : F2) : eqT Try.prog 20 109 x.cells y.cells = some (decide (x = y)) := by
  obtain ⟨x1, x2⟩ := x
  obtain ⟨y1, y2⟩ := y
  show eqT Try.prog (18 + 1 + 1) 109 _ _ = _
  unfold eqT
  rw [Try.underlying109]
  simp only [stood109, F2.cells]
  simp [eqi3, andL]
  rw [Bool.eq_iff_iff]
  simp
theorem flat_plain {α : Type} {f : α → List PV} (h : ∀ x, (f x).all plain1 = true) (l : List α) : (l.flatMap f).all plain1 = true := by
  rw [List.all_eq_true]
  intro x hx
  obtain ⟨a, _, h2⟩ := List.mem_flatMap.1 hx
  exact List.all_eq_true.1 (h a) x h2
def same (t u : Tab) : Bool := decide (nums t = nums u ∧ t.W.length = u.W.length ∧ t.S.length = u.S.length)
set_option maxHeartbeats 1000000 in
theorem f36 (n : Nat) (t u : Tab) (hp : Heap) (h1 : t.W.length ≤ 1000 ∧ t.S.length ≤ 1000 ∧ t.C.length ≤ 1000) (h2 : u.W.length ≤ 1000 ∧ u.S.length ≤ 1000 ∧ u.C.length ≤ 1000) (hn : 20000 < n) :
    evalCall Try.prog hints (n + 3) 36 [.agg t.cells, .agg u.cells] hp = some (.bool (same t u), hp, false) := by
  have e1 := f70 n t hp h1.1 h1.2.1 h1.2.2 (by omega)
  have e2 := f70 n u hp h2.1 h2.2.1 h2.2.2 (by omega)
  rw [evalCall_at _ _ _ hh36 rfl Try.func36 rfl (Nat.le_of_ble_eq_true rfl) rfl]
  unfold same
  have lt : (nums t).length ≤ 20000 := by
    have a1 := nlen R3.numsLen t.W
    have a2 := nlen R3.numsLen t.S
    have a3 := nlen Cl.numsLen t.C
    unfold nums headN
    simp only [List.length_append, List.length_cons, List.length_nil]; omega
  have fT := flat_len F2.len (nums t)
  have fU := flat_len F2.len (nums u)
  have pT := flat_plain (fun x : F2 => (rfl : x.cells.all plain1 = true)) (nums t)
  have pU := flat_plain (fun x : F2 => (rfl : x.cells.all plain1 = true)) (nums u)
  have rT := fun k h => flat_row F2.len (nums t) k h
  have rU := fun k h => flat_row F2.len (nums u) k h
  simp only [Tab.cells] at e1 e2 ⊢
  generalize nums t = T at *
  generalize nums u = U at *
  generalize t.S.flatMap R3.cells = Y at *
  generalize t.W.flatMap R3.cells = X at *
  generalize t.C.flatMap Cl.cells = Z at *
  generalize u.S.flatMap R3.cells = Y' at *
  generalize u.W.flatMap R3.cells = X' at *
  generalize u.C.flatMap Cl.cells = Z' at *
  generalize T.flatMap F2.cells = Q at *
  generalize U.flatMap F2.cells = Q' at *
  have hh : ∀ a b : Nat, a ≠ b → ((a : Int) != b) = true := fun a b h => by
    have : (a : Int) ≠ b := by omega
    simp [this]
  obtain ⟨a, ha⟩ : ∃ a, a = T.length := ⟨_, rfl⟩
  obtain ⟨b, hb⟩ : ∃ b, b = U.length := ⟨_, rfl⟩
  have hTU : T = U → a = b := fun h => by rw [ha, hb, h]
  rw [← ha] at e1 fT lt
  rw [← hb] at e2 fU
  generalize t.W.length = wT at *
  generalize u.W.length = wU at *
  generalize t.S.length = sT at *
  generalize u.S.length = sU at *
  by_cases c1 : a = b
  · subst c1
    by_cases c2 : wT = wU
    · subst c2
      by_cases c3 : sT = sU
      · subst c3
        have hB : decide (T = U ∧ wT = wT ∧ sT = sT) = !(List.range a).any (fun k => !decide (T[k]? = U[k]?)) := by
          rw [Bool.eq_iff_iff]
          simp only [decide_eq_true_eq, Bool.not_eq_true', List.any_eq_false, List.mem_range, Bool.not_eq_true', decide_eq_false_iff_not, Decidable.not_not]
          constructor
          · rintro ⟨rfl, -⟩ k _; rfl
          · intro h
            refine ⟨List.ext_getElem? fun k => ?_, trivial, trivial⟩
            by_cases hk : k < a
            · exact h k hk
            · rw [List.getElem?_eq_none (by omega), List.getElem?_eq_none (by omega)]
        rw [hB]
        generalize hC : (List.range a).any _ = B
        clear hB
        simp [-List.all_eq_true, pT, pU, e1, e2]
        rw [iter_find' (fun k => { fr := [(5, .sl (.mu 2) a Q), (6, .sl (.mu 2) a Q'), (7, .int .i64 k)], hp := hp, base := hp.length, dirty := false }) (fun k => !decide (T[k]? = U[k]?)) (.ret, { fr := [(4, .bool false)], hp := hp, base := hp.length, dirty := false }) (.exit 0, { fr := [(5, .sl (.mu 2) a Q), (6, .sl (.mu 2) a Q'), (7, .int .i64 a), (38, .bool false)], hp := hp, base := hp.length, dirty := false }) a]
        · rw [hC]
          cases B <;> simp
        · simp
        · omega
        · intro k hk
          have r1 := rT k (by omega)
          have r2 := rU k (by omega)
          rw [List.getElem?_eq_getElem (by omega), List.getElem?_eq_getElem (by omega)]
          have e := eqF T[k] U[k]
          generalize T[k] = x at r1 e ⊢
          generalize U[k] = y at r2 e ⊢
          have w := wrap_id (x := (k : Int) + 1) (by omega)
          have z : k * 2 + 2 ≤ a * 2 := by omega
          simp only [Option.some.injEq]
          generalize decide (x = y) = c at *
          obtain ⟨x1, x2⟩ := x
          obtain ⟨y1, y2⟩ := y
          simp only [F2.cells] at *
          cases c <;> simp [hk, fT, fU, r1, r2, e, w, z]
        · simp
        · simp
        · simp
      · simp [-List.all_eq_true, pT, pU, e1, e2, c3, hh _ _ c3]
    · simp [-List.all_eq_true, pT, pU, e1, e2, c2, hh _ _ c2]
  · have : T ≠ U := fun e => c1 (hTU e)
    simp [-List.all_eq_true, pT, pU, e1, e2, this, hh _ _ c1]
end Go.Proofs.Ytoipglmjnibdpaa
end

section
namespace Go.Proofs.Ytoipglmjnibdpaa
open Go Go.PS
theorem made_lens (s n : Int) : (made s n).W.length ≤ 1000 ∧ (made s n).S.length ≤ 1000 ∧ (made s n).C.length ≤ 1000 := by
  have hN : 1 ≤ cnt n ∧ cnt n ≤ 8 := by unfold cnt; omega
  have hp := dr4 (nx s) (cnt n + 1) (by omega)
  have hb := invC hN (inv_all (s := s) (p := dr (nx s) (cnt n + 1)) hN hp.1 (cnt n) (Nat.le_refl _)) (by omega)
  have hl : late (dr (nx s) (cnt n + 1)) (cnt n + 1) ≤ 1 := by unfold late; split <;> omega
  have e1 : ((made s n).C.length : Int) = cnt n := hb.C
  have e2 : ((made s n).S.length : Int) = cnt n := hb.S
  have e3 : ((made s n).W.length : Int) = cnt n + late (dr (nx s) (cnt n + 1)) (cnt n + 1) := hb.W
  omega
set_option maxHeartbeats 1000000 in
theorem f6 (m : Nat) (a n : Int) (hm : 30000 < m) : ∃ hp d, evalCall Try.prog hints (m + 20) 6 [.int .i64 a, .int .i64 n] [] = some (.bool true, hp, d) := by
  apply of_map
  obtain ⟨s, hs⟩ : ∃ s, s = a % 281474976710656 := ⟨_, rfl⟩
  have hs0 : 0 ≤ s := by omega
  have e15 := fun hp => f15 (m + 18) a hp
  rw [← hs] at e15
  obtain ⟨s', hs'⟩ : ∃ s', s' = nx (last s n).s := ⟨_, rfl⟩
  have e1 := f34 (m + 15) 0 s n [[.int .u64 s]] rfl hs0 (by omega)
  have e2 := f34 (m + 15) 1 s n [[.int .u64 s'], [.int .u64 s]] rfl hs0 (by omega)
  rw [← hs'] at e1 e2
  obtain ⟨hp0, e22⟩ := live22 (m + 9) [[.int .u64 s'], [.int .u64 s']]
  have e35 := fun hp => f35' (m + 13) (made s n) hp (by omega)
  have e36 := fun hp => f36 (m + 16) (made s n) (made s n) hp (made_lens s n) (made_lens s n) (by omega)
  have hl := made_len s n
  rw [made_right] at e35
  have hsm : same (made s n) (made s n) = true := by unfold same; simp
  rw [hsm] at e36
  rw [evalCall_at _ _ _ hh6 rfl Try.func6 rfl (Nat.le_of_ble_eq_true rfl) rfl]
  generalize made s n = t at *
  simp only [Tab.cells] at *
  generalize t.S.flatMap R3.cells = Y at *
  generalize t.W.flatMap R3.cells = X at *
  generalize t.C.flatMap Cl.cells = Z at *
  have hl' : (if 8 < if n < 1 then 1 else n then 8 else if n < 1 then 1 else n) = (t.C.length : Int) := by
    rw [hl]; split <;> split <;> omega
  simp only [List.set_cons_zero, List.set_cons_succ] at e1 e2
  simp [e15, e1, e2, e22, e35, e36, hl']
end Go.Proofs.Ytoipglmjnibdpaa
end
