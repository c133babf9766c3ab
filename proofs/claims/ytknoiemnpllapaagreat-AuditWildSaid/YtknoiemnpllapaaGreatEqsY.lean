/-
  What functions of this program compute, as equations about the evaluator. No condition but those stated.
-/
import Derived.Test.YtknoiemnpllapaaGreatEqsK
import Derived.Test.YtknoiemnpllapaaGreatEqsL

set_option linter.all false
section
namespace Go.PS
open Go
variable {P : Program} {t : TypeId} {y : PV}
theorem ty_slice {e : TypeId} {cs : List PV} (h : P.underlying t = some (.slice e)) (hy : Ty P t cs) : ∃ rows : List (List PV), cs = [.sl .sh rows.length rows.flatten] ∧ rows.length ≤ maxLen ∧ ∀ r ∈ rows, Ty P e r := by
  cases hy with
  | int h' hw => rw [h] at h'; cases h'
  | bool h' => rw [h] at h'; cases h'
  | str h' hs => rw [h] at h'; cases h'
  | slice h' h1 h2 => rw [h] at h'; cases h'; exact ⟨_, rfl, h1, h2⟩
  | struct h' _ _ => rw [h] at h'; cases h'
end Go.PS
end
section
namespace Go.Proofs.YtknoiemnpllapaaGreat
open Go Go.PS
/-- A touch. -/
structure Tch where
  k : Int
  o : Int
  a : Int
  b : Int
  bus : Bool
  post : Bool
  runs : Bool
def Tch.cells (c : Tch) : List PV := [.int .i64 c.k, .int .i64 c.o, .int .i64 c.a, .int .i64 c.b, .bool c.bus, .bool c.post, .bool c.runs]
theorem Tch.len (c : Tch) : c.cells.length = 7 := rfl
theorem f8 (n : Nat) (c : Tch) (hp : Heap) : evalCall Tryz.prog hints (n + 1) 8 [.agg c.cells] hp = some (.agg c.cells, hp, false) := by
  rw [evalCall_at _ _ _ hh8 rfl Tryz.func8 rfl (Nat.le_of_ble_eq_true rfl) rfl]
  obtain ⟨k, o, a, b, bus, post, runs⟩ := c
  simp [Tch.cells]
theorem f6 (n : Nat) (hp : Heap) : evalCall Tryz.prog hints (n + 1) 6 [] hp = some (.bool true, hp, false) := by
  rw [evalCall]; rfl
/-- Is a touch wild? -/
def wildT (t : Tab) (c : Tch) : Bool :=
  if c.o < 1 ∨ (t.C.length : Int) < c.o then true else if c.bus = true ∨ c.runs = true then false else if c.post = false then true else
    match t.C[(c.o - 1).toNat]? with
    | some x => decide (c.a < x.at_) || decide (x.at_ + 8 * x.q + 2 < c.b)
    | none => true
theorem ring_q {q : Int} (h : ring q ≠ 0) : (q = 1 ∨ q = 2 ∨ q = 4 ∨ q = 8 ∨ q = 16) ∧ ring q = 2 + 8 * q := by
  unfold ring at h ⊢
  split at h
  · rename_i h'; exact ⟨h', by rw [if_pos h']⟩
  · exact absurd rfl h
set_option maxHeartbeats 1000000 in
theorem f7 (n : Nat) (t : Tab) (g : Good t) (c : Tch) (hp : Heap) : evalCall Tryz.prog hints (n + 1) 7 [.agg c.cells, .agg t.cells] hp = some (.bool (wildT t c), hp, false) := by
  have hf := g.frame
  unfold frameB at hf; simp only [decide_eq_true_eq] at hf
  have lC := flat_len Cl.len t.C
  rw [evalCall_at _ _ _ hh7 rfl Tryz.func7 rfl (Nat.le_of_ble_eq_true rfl) rfl]
  unfold wildT
  obtain ⟨k, o, a, b, bus, post, runs⟩ := c
  simp only [Tch.cells]
  by_cases h1 : o < 1
  · rw [if_pos (Or.inl h1)]
    simp [Tab.cells, h1]
  by_cases h2 : (t.C.length : Int) < o
  · rw [if_pos (Or.inr h2)]
    simp only [Tab.cells]
    generalize t.C.flatMap Cl.cells = Z at *
    simp [h1, h2]
  rw [if_neg (by omega)]
  obtain ⟨i, rfl⟩ : ∃ i : Nat, o = (i : Int) + 1 := ⟨(o - 1).toNat, by omega⟩
  have hi : i < t.C.length := by omega
  have ok := g.cok t.C[i] (List.getElem_mem hi)
  have r := flat_row Cl.len t.C i hi
  have z : i * 10 + 10 ≤ t.C.length * 10 := by omega
  have w := wrap_id (x := (i : Int)) (by omega)
  rw [show ((i : Int) + 1 - 1).toNat = i by omega, List.getElem?_eq_getElem hi]
  simp only [Tab.cells]
  generalize t.C[i] = x at *
  generalize t.S.flatMap _ = Y at *
  generalize t.W.flatMap _ = X at *
  generalize t.C.flatMap _ = Z at *
  unfold Cl.ok at ok
  obtain ⟨x1, x2, x3, x4, x5, x6, x7, x8, x9, x10⟩ := x
  simp only [Cl.cells] at *
  obtain ⟨hq, hr⟩ := ring_q ok.2.2.2.2.1
  have hat := ok.2.2.2.2.2.1
  have hat2 := ok.2.2.2.2.2.2.1
  have hsz := ok.2.1
  rw [hr] at hat2
  clear ok hr
  have w1 := wrap_id (x := 8 * x3) (by omega)
  have w2 := wrap_id (x := x4 + 8 * x3) (by omega)
  have w3 := wrap_id (x := x4 + 8 * x3 + 2) (by omega)
  have w4 := wrap_id (x := (i : Int) + 1 - 1) (by omega)
  cases bus
  · cases runs
    · cases post
      · simp [h1, h2]
      · by_cases c1 : a < x4
        · simp [-getElem?_pos, List.getElem?_cons_zero, h1, h2, hi, lC, r, z, w, w1, w2, w3, w4, c1]
        · simp [-getElem?_pos, List.getElem?_cons_zero, h1, h2, hi, lC, r, z, w, w1, w2, w3, w4, c1]
    · simp [h1, h2]
  · simp [h1, h2]
theorem f94 (n : Nat) (x : Int) (hp : Heap) (h0 : 0 ≤ x) (h1 : x ≤ 1024) : evalCall Tryz.prog hints (n + 1) 94 [.int .i64 x] hp = some (.int .i64 x, hp, false) := by
  rw [evalCall_at _ _ _ hh94 rfl Tryz.func94 rfl (Nat.le_of_ble_eq_true rfl) rfl]
  have h2 : ¬ x < 0 := by omega
  have h3 : ¬ 1024 < x := by omega
  simp [h0, h1, h2, h3]
theorem f46 (n : Nat) (x : Int) (hp : Heap) (h0 : 0 ≤ x) (h1 : x ≤ 1024) : evalCall Tryz.prog hints (n + 2) 46 [.int .i64 x] hp = some (.int .i64 x, hp, false) := by
  have e := f94 n x hp h0 h1
  rw [evalCall_at _ _ _ hh46 rfl Tryz.func46 rfl (Nat.le_of_ble_eq_true rfl) rfl]
  simp [e]
theorem f95 (n : Nat) (q : Int) (hp : Heap) (hq : q = 1 ∨ q = 2 ∨ q = 4 ∨ q = 8 ∨ q = 16) : evalCall Tryz.prog hints (n + 20) 95 [.int .i64 q] hp = some (.bool true, hp, false) := by
  rcases hq with h | h | h | h | h <;> subst h <;> kernel_rfl
theorem f47 (n : Nat) (q : Int) (hp : Heap) (hq : q = 1 ∨ q = 2 ∨ q = 4 ∨ q = 8 ∨ q = 16) : evalCall Tryz.prog hints (n + 21) 47 [.int .i64 q] hp = some (.int .i64 (2 + 8 * q), hp, false) := by
  have e := f95 n q hp hq
  have w1 := wrap_id (x := 8 * q) (by omega)
  have w2 := wrap_id (x := 2 + 8 * q) (by omega)
  rw [evalCall_at _ _ _ hh47 rfl Tryz.func47 rfl (Nat.le_of_ble_eq_true rfl) rfl]
  simp [e, w1, w2]
set_option maxHeartbeats 2000000 in
theorem f17 (n : Nat) (t : Tab) (g : Good t) (c : Tch) (hp : Heap) : evalCall Tryz.prog hints (n + 22) 17 [.agg c.cells, .agg t.cells] hp = some (.bool (wildT t c), hp, false) := by
  have hf := g.frame
  unfold frameB at hf; simp only [decide_eq_true_eq] at hf
  have lC := flat_len Cl.len t.C
  rw [evalCall_at _ _ _ hh17 rfl Tryz.func17 rfl (Nat.le_of_ble_eq_true rfl) rfl]
  unfold wildT
  obtain ⟨k, o, a, b, bus, post, runs⟩ := c
  simp only [Tch.cells]
  by_cases h1 : o < 1
  · rw [if_pos (Or.inl h1)]
    simp [Tab.cells, h1]
  by_cases h2 : (t.C.length : Int) < o
  · rw [if_pos (Or.inr h2)]
    simp only [Tab.cells]
    generalize t.C.flatMap Cl.cells = Z at *
    simp [h1, h2]
  rw [if_neg (by omega)]
  obtain ⟨i, rfl⟩ : ∃ i : Nat, o = (i : Int) + 1 := ⟨(o - 1).toNat, by omega⟩
  have hi : i < t.C.length := by omega
  have ok := g.cok t.C[i] (List.getElem_mem hi)
  have r := flat_row Cl.len t.C i hi
  have z : i * 10 + 10 ≤ t.C.length * 10 := by omega
  have w := wrap_id (x := (i : Int)) (by omega)
  rw [show ((i : Int) + 1 - 1).toNat = i by omega, List.getElem?_eq_getElem hi]
  simp only [Tab.cells]
  generalize t.C[i] = x at *
  generalize t.S.flatMap _ = Y at *
  generalize t.W.flatMap _ = X at *
  generalize t.C.flatMap _ = Z at *
  unfold Cl.ok at ok
  obtain ⟨x1, x2, x3, x4, x5, x6, x7, x8, x9, x10⟩ := x
  simp only [Cl.cells] at *
  obtain ⟨hq, hr⟩ := ring_q ok.2.2.2.2.1
  have hat := ok.2.2.2.2.2.1
  have hat2 := ok.2.2.2.2.2.2.1
  have hsz := ok.2.1
  rw [hr] at hat2
  clear ok hr
  have e46 := fun hp => f46 (n + 19) x4 hp (by omega) (by omega)
  have e47 := fun hp => f47 n x3 hp hq
  have w3 := wrap_id (x := x4 + (2 + 8 * x3)) (by omega)
  have w4 := wrap_id (x := (i : Int) + 1 - 1) (by omega)
  have e3 : x4 + 8 * x3 + 2 = x4 + (2 + 8 * x3) := by omega
  rw [e3]
  cases bus
  · cases runs
    · cases post
      · simp [-getElem?_pos, List.getElem?_cons_zero, h1, h2, hi, lC, r, z, w, w4, e46, e47]
      · by_cases c1 : a < x4
        · simp [-getElem?_pos, List.getElem?_cons_zero, h1, h2, hi, lC, r, z, w, w3, w4, c1, e46, e47]
        · simp [-getElem?_pos, List.getElem?_cons_zero, h1, h2, hi, lC, r, z, w, w3, w4, c1, e46, e47]
    · simp [h1, h2]
  · simp [h1, h2]
end Go.Proofs.YtknoiemnpllapaaGreat
end

section
namespace Go.Proofs.YtknoiemnpllapaaGreat
open Go Go.PS
def wl (t : Tab) (l : List Tch) (k : Nat) : List Tch := (l.take k).filter (wildT t)
theorem wl_succ (t : Tab) (l : List Tch) (k : Nat) (h : k < l.length) : wl t l (k + 1) = wl t l k ++ if wildT t l[k] = true then [l[k]] else [] := by
  unfold wl
  rw [List.take_succ_eq_append_getElem h, List.filter_append]
  by_cases c : wildT t l[k] = true
  · rw [if_pos c]; simp [c]
  · rw [if_neg c]; simp [c]
theorem wl_le (t : Tab) (l : List Tch) (k : Nat) : (wl t l k).length ≤ k := by
  unfold wl
  have := List.length_filter_le (wildT t) (l.take k)
  rw [List.length_take] at this; omega
set_option maxHeartbeats 4000000 in
theorem f9 (n : Nat) (t : Tab) (g : Good t) (l : List Tch) (hl : l.length ≤ 60) (hp : Heap) (hn : 100 < n) : evalCall Tryz.prog hints (n + 40) 9 [.sl .sh l.length (l.flatMap Tch.cells), .agg t.cells] hp = some (.sl (.mu 7) (l.filter (wildT t)).length ((l.filter (wildT t)).flatMap Tch.cells), hp, false) := by
  have e17 := fun c => f17 (n + 17) t g c hp
  have lX := flat_len Tch.len l
  have rr := fun k h => flat_row Tch.len l k h
  obtain ⟨WL, hWL⟩ : ∃ WL : Nat → List Tch, WL = wl t l := ⟨_, rfl⟩
  have hW0 : WL 0 = [] := by rw [hWL]; rfl
  have hWn : WL l.length = l.filter (wildT t) := by rw [hWL]; unfold wl; rw [List.take_length]
  have hWs : ∀ i (h : i < l.length), WL (i + 1) = WL i ++ if wildT t l[i] = true then [l[i]] else [] := fun i h => by rw [hWL]; exact wl_succ t l i h
  have hWle : ∀ i, (WL i).length ≤ i := fun i => by rw [hWL]; exact wl_le t l i
  rw [← hWn]
  rw [evalCall_at _ _ _ hh9 rfl Tryz.func9 rfl (Nat.le_of_ble_eq_true rfl) rfl]
  clear hWL hWn
  simp only [Tab.cells_eq] at *
  generalize t.S.flatMap R3.cells = YS at *
  generalize t.C.flatMap Cl.cells = YC at *
  generalize t.W.flatMap R3.cells = YW at *
  generalize l.flatMap Tch.cells = X at *
  simp [-getElem?_pos, List.getElem?_cons_zero]
  rw [iter_count (fun i => { fr := [(3, .box [.int .i64 t.f, .sl .sh t.W.length YW, .sl .sh t.S.length YS, .sl .sh t.C.length YC]), (5, .sl (.mu 7) (WL i).length ((WL i).flatMap Tch.cells)), (8, .sl .sh l.length X), (9, .int .i64 l.length), (10, .int .i64 (i : Nat))], hp := hp, base := hp.length, dirty := false }) (.exit 0, { fr := [(3, .box [.int .i64 t.f, .sl .sh t.W.length YW, .sl .sh t.S.length YS, .sl .sh t.C.length YC]), (5, .sl (.mu 7) (WL l.length).length ((WL l.length).flatMap Tch.cells)), (8, .sl .sh l.length X), (9, .int .i64 l.length), (10, .int .i64 (l.length : Nat)), (11, .bool false)], hp := hp, base := hp.length, dirty := false }) l.length]
  · generalize WL l.length = L at *
    simp
  · simp [hW0]
  · omega
  · intro i hi
    have r := rr i hi
    have z : i * 7 + 7 ≤ l.length * 7 := by omega
    have w := wrap_id (x := (i : Int) + 1) (by omega)
    have ln := hWle i
    have m1 : ((WL i).length + 1) * 40 ≤ 140737488355328 := by omega
    have lD := flat_len Tch.len (WL i)
    have aD := flat_all (f := Tch.cells) (fun _ => rfl) (WL i)
    have e := e17 l[i]
    rw [hWs i hi]
    generalize WL i = L at *
    generalize l[i] = v at *
    cases c : wildT t v with
    | true =>
      rw [c] at e
      rw [if_pos rfl, List.flatMap_append, List.length_append]
      clear rr hWs hWle
      obtain ⟨v1, v2, v3, v4, v5, v6, v7⟩ := v
      simp only [Tch.cells] at r e
      generalize L.flatMap Tch.cells = D at *
      generalize L.length = d at *
      simp [-getElem?_pos, List.getElem?_cons_zero, hi, lX, r, z, w, m1, lD, aD, e, Tch.cells]
    | false =>
      rw [c] at e
      rw [if_neg (by simp), List.append_nil]
      clear rr hWs hWle
      obtain ⟨v1, v2, v3, v4, v5, v6, v7⟩ := v
      simp only [Tch.cells] at r e
      generalize L.flatMap Tch.cells = D at *
      generalize L.length = d at *
      simp [-getElem?_pos, List.getElem?_cons_zero, hi, lX, r, z, w, e, Tch.cells]
  · simp
  · simp
end Go.Proofs.YtknoiemnpllapaaGreat
end

section
namespace Go.Proofs.YtknoiemnpllapaaGreat
open Go Go.PS
set_option maxHeartbeats 8000000 in
/-- The law behind the guard: at most 60 touches. -/
theorem f3good (n : Nat) (t : Tab) (g : Good t) (l0 l : List Tch) (hl : l = l0.take 60) (hM : l0.length ≤ maxLen) : fstR (evalCall Tryz.prog hints (n + 2000) 3 [.sl .sh l0.length (l0.flatMap Tch.cells), .agg t.cells] []) = some (.bool true) := by
  have hn : l.length = min 60 l0.length := by rw [hl, List.length_take]
  have h60 : l.length ≤ 60 := by omega
  have hX : (l0.flatMap Tch.cells).take (l.length * 7) = l.flatMap Tch.cells := by
    have h := flat_take Tch.len l0 l.length
    rw [h, hl, List.length_take]
    congr 1
    rw [Nat.min_def]
    split
    · rfl
    · rw [List.take_of_length_le (Nat.le_refl _), List.take_of_length_le (by omega)]
  have hmin : (if (60 : Int) < (l0.length : Int) then (60 : Int) else (l0.length : Int)) = (l.length : Int) := by split <;> omega
  have hmin' : min (l0.length : Int) 60 = (l.length : Int) := by omega
  have hle : l.length ≤ l0.length := by omega
  have e5 : evalCall Tryz.prog hints (n + 1999) 5 [.agg t.cells] [] = _ := f5' (n + 1993) t [] (by omega)
  rw [g.nil, List.length_nil, List.flatMap_nil] at e5
  have e6 := f6 (n + 1998) []
  have e8 := fun c => f8 (n + 1998) c []
  have e7 := fun c => f7 (n + 1998) t g c []
  have e9 := f9 (n + 1959) t g l h60 [] (by omega)
  have lX := flat_len Tch.len l
  have lX0 := flat_len Tch.len l0
  have rr := fun k h => flat_row Tch.len l k h
  obtain ⟨WL, hWL⟩ : ∃ WL : Nat → List Tch, WL = wl t l := ⟨_, rfl⟩
  have hW0 : WL 0 = [] := by rw [hWL]; rfl
  have hWn : WL l.length = l.filter (wildT t) := by rw [hWL]; unfold wl; rw [List.take_length]
  have hWs : ∀ i (h : i < l.length), WL (i + 1) = WL i ++ if wildT t l[i] = true then [l[i]] else [] := fun i h => by rw [hWL]; exact wl_succ t l i h
  have hWle : ∀ i, (WL i).length ≤ i := fun i => by rw [hWL]; exact wl_le t l i
  rw [← hWn] at e9
  rw [evalCall_at _ _ _ hh3 rfl Tryz.func3 rfl (Nat.le_of_ble_eq_true rfl) rfl]
  clear hWL hWn hl
  simp only [Tab.cells_eq] at *
  generalize t.S.flatMap R3.cells = YS at *
  generalize t.C.flatMap Cl.cells = YC at *
  generalize t.W.flatMap R3.cells = YW at *
  generalize l.flatMap Tch.cells = X at *
  generalize l0.flatMap Tch.cells = X0 at *
  generalize l0.length = n0 at *
  simp [-getElem?_pos, List.getElem?_cons_zero, e5, hX, hmin, hmin', hle, lX0]
  rw [iter_count (fun i => { fr := [(0, .sl .sh l.length X), (3, .box [.int .i64 t.f, .sl .sh t.W.length YW, .sl .sh t.S.length YS, .sl .sh t.C.length YC]), (5, .sl (.mu 7) (WL i).length ((WL i).flatMap Tch.cells)), (6, .int .i64 (i : Nat))], hp := [], base := 0, dirty := false }) (.exit 0, { fr := [(0, .sl .sh l.length X), (3, .box [.int .i64 t.f, .sl .sh t.W.length YW, .sl .sh t.S.length YS, .sl .sh t.C.length YC]), (5, .sl (.mu 7) (WL l.length).length ((WL l.length).flatMap Tch.cells)), (6, .int .i64 (l.length : Nat)), (23, .bool false)], hp := [], base := 0, dirty := false }) l.length]
  · generalize hL : WL l.length = L at *
    have lD := flat_len Tch.len L
    have aD := flat_all (f := Tch.cells) (fun _ => rfl) L
    have r2 := fun k h => flat_row Tch.len L k h
    have ln := hWle l.length
    rw [hL] at ln
    generalize L.flatMap Tch.cells = D at *
    simp [-getElem?_pos, List.getElem?_cons_zero, e9]
    rw [iter_count (fun i => { fr := [(5, .sl (.mu 7) L.length D), (7, .sl (.mu 7) L.length D), (8, .int .i64 (i : Nat))], hp := [], base := 0, dirty := false }) (.exit 2, { fr := [(5, .sl (.mu 7) L.length D), (7, .sl (.mu 7) L.length D), (8, .int .i64 (L.length : Nat)), (51, .bool false)], hp := [], base := 0, dirty := false }) L.length]
    · simp [e6]
    · simp
    · omega
    · intro i hi
      have r := r2 i hi
      have z : i * 7 + 7 ≤ L.length * 7 := by omega
      have w := wrap_id (x := (i : Int) + 1) (by omega)
      generalize L[i] = v at *
      obtain ⟨v1, v2, v3, v4, v5, v6, v7⟩ := v
      simp only [Tch.cells] at r
      simp [-getElem?_pos, List.getElem?_cons_zero, hi, lD, r, z, w, eqT35]
    · simp
    · simp
  · simp [hW0]
  · omega
  · intro i hi
    have r := rr i hi
    have z : i * 7 + 7 ≤ l.length * 7 := by omega
    have w := wrap_id (x := (i : Int) + 1) (by omega)
    have ln := hWle i
    have m1 : ((WL i).length + 1) * 40 ≤ 140737488355328 := by omega
    have lD := flat_len Tch.len (WL i)
    have aD := flat_all (f := Tch.cells) (fun _ => rfl) (WL i)
    have ea := e8 l[i]
    have eb := e7 l[i]
    rw [hWs i hi]
    generalize WL i = L at *
    generalize l[i] = v at *
    cases c : wildT t v with
    | true =>
      rw [c] at eb
      rw [if_pos rfl, List.flatMap_append, List.length_append]
      clear rr hWs hWle e7 e8
      obtain ⟨v1, v2, v3, v4, v5, v6, v7⟩ := v
      simp only [Tch.cells] at r ea eb
      generalize L.flatMap Tch.cells = D at *
      generalize L.length = d at *
      simp [-getElem?_pos, List.getElem?_cons_zero, hi, lX, r, z, w, m1, lD, aD, ea, eb, Tch.cells]
    | false =>
      rw [c] at eb
      rw [if_neg (by simp), List.append_nil]
      clear rr hWs hWle e7 e8
      obtain ⟨v1, v2, v3, v4, v5, v6, v7⟩ := v
      simp only [Tch.cells] at r ea eb
      generalize L.flatMap Tch.cells = D at *
      generalize L.length = d at *
      simp [-getElem?_pos, List.getElem?_cons_zero, hi, lX, r, z, w, ea, eb, Tch.cells]
  · simp
  · simp
set_option maxHeartbeats 4000000 in
theorem f3 (n : Nat) (t : Tab) (l : List Tch) (hM : l.length ≤ maxLen) : fstR (evalCall Tryz.prog hints (n + 2000) 3 [.sl .sh l.length (l.flatMap Tch.cells), .agg t.cells] []) = some (.bool true) := by
  by_cases h0 : faults t = []
  · exact f3good n t (good_of h0) l _ rfl hM
  · have e5 : evalCall Tryz.prog hints (n + 1999) 5 [.agg t.cells] [] = _ := f5' (n + 1993) t [] (by omega)
    have e6 := f6 (n + 1998) []
    have px : ((faults t).flatMap F2.cells).all plain1 = true := by rw [List.all_flatMap]; simp [F2.cells, plain1]
    have hl : (faults t).length ≠ 0 := fun h => h0 (List.length_eq_zero_iff.1 h)
    have hp : 0 < ((faults t).length : Int) := by omega
    have hp' : 0 < (faults t).length := by omega
    clear h0 hl
    rw [evalCall_at _ _ _ hh3 rfl Tryz.func3 rfl (Nat.le_of_ble_eq_true rfl) rfl]
    simp only [Tab.cells_eq] at *
    generalize t.S.flatMap R3.cells = YS at *
    generalize t.C.flatMap Cl.cells = YC at *
    generalize t.W.flatMap R3.cells = YW at *
    generalize l.flatMap Tch.cells = X at *
    generalize (faults t).flatMap F2.cells = A at *
    generalize (faults t).length = a at *
    simp [-getElem?_pos, -List.all_eq_true, List.getElem?_cons_zero, e5, e6, px, hp, hp']
end Go.Proofs.YtknoiemnpllapaaGreat
end

section
namespace Go.Proofs.YtknoiemnpllapaaGreat
open Go Go.PS
theorem r3_of49 (r : List PV) (h : Ty Tryz.prog 49 r) : ∃ m : R3, r = m.cells ∧ True := by
  obtain ⟨parts, rfl, h1, h2⟩ := ty_struct Tryz.underlying49 h
  match parts, h1, h2 with
  | [p0, p1, p2], _, h2 =>
    obtain ⟨a, rfl, _⟩ := ty_int Tryz.underlying3 (h2 0 _ _ rfl rfl)
    obtain ⟨b, rfl, _⟩ := ty_int Tryz.underlying3 (h2 1 _ _ rfl rfl)
    obtain ⟨c, rfl, _⟩ := ty_int Tryz.underlying3 (h2 2 _ _ rfl rfl)
    exact ⟨⟨a, b, c⟩, rfl, trivial⟩
theorem r3_of50 (r : List PV) (h : Ty Tryz.prog 50 r) : ∃ m : R3, r = m.cells ∧ True := by
  obtain ⟨parts, rfl, h1, h2⟩ := ty_struct Tryz.underlying50 h
  match parts, h1, h2 with
  | [p0, p1, p2], _, h2 =>
    obtain ⟨a, rfl, _⟩ := ty_int Tryz.underlying3 (h2 0 _ _ rfl rfl)
    obtain ⟨b, rfl, _⟩ := ty_int Tryz.underlying3 (h2 1 _ _ rfl rfl)
    obtain ⟨c, rfl, _⟩ := ty_int Tryz.underlying3 (h2 2 _ _ rfl rfl)
    exact ⟨⟨a, b, c⟩, rfl, trivial⟩
theorem cl_of (r : List PV) (h : Ty Tryz.prog 52 r) : ∃ m : Cl, r = m.cells ∧ True := by
  obtain ⟨parts, rfl, h1, h2⟩ := ty_struct Tryz.underlying52 h
  match parts, h1, h2 with
  | [p0, p1, p2, p3, p4, p5, p6, p7, p8, p9], _, h2 =>
    obtain ⟨a0, rfl, _⟩ := ty_int Tryz.underlying3 (h2 0 _ _ rfl rfl)
    obtain ⟨a1, rfl, _⟩ := ty_int Tryz.underlying3 (h2 1 _ _ rfl rfl)
    obtain ⟨a2, rfl, _⟩ := ty_int Tryz.underlying3 (h2 2 _ _ rfl rfl)
    obtain ⟨a3, rfl, _⟩ := ty_int Tryz.underlying3 (h2 3 _ _ rfl rfl)
    obtain ⟨a4, rfl, _⟩ := ty_int Tryz.underlying3 (h2 4 _ _ rfl rfl)
    obtain ⟨a5, rfl, _⟩ := ty_int Tryz.underlying3 (h2 5 _ _ rfl rfl)
    obtain ⟨a6, rfl, _⟩ := ty_int Tryz.underlying3 (h2 6 _ _ rfl rfl)
    obtain ⟨a7, rfl, _⟩ := ty_int Tryz.underlying3 (h2 7 _ _ rfl rfl)
    obtain ⟨a8, rfl, _⟩ := ty_int Tryz.underlying3 (h2 8 _ _ rfl rfl)
    obtain ⟨a9, rfl, _⟩ := ty_int Tryz.underlying3 (h2 9 _ _ rfl rfl)
    exact ⟨⟨a0, a1, a2, a3, a4, a5, a6, a7, a8, a9⟩, rfl, trivial⟩
theorem tab_of (cs : List PV) (h : Ty Tryz.prog 27 cs) : ∃ t : Tab, cs = t.cells ∧ t.W.length ≤ maxLen ∧ t.S.length ≤ maxLen ∧ t.C.length ≤ maxLen := by
  obtain ⟨parts, rfl, h1, h2⟩ := ty_struct Tryz.underlying27 h
  match parts, h1, h2 with
  | [p0, p1, p2, p3], _, h2 =>
    obtain ⟨f, rfl, _⟩ := ty_int Tryz.underlying3 (h2 0 _ _ rfl rfl)
    obtain ⟨rW, rfl, lW, tW⟩ := ty_slice Tryz.underlying23 (h2 1 _ _ rfl rfl)
    obtain ⟨rS, rfl, lS, tS⟩ := ty_slice Tryz.underlying24 (h2 2 _ _ rfl rfl)
    obtain ⟨rC, rfl, lC, tC⟩ := ty_slice Tryz.underlying25 (h2 3 _ _ rfl rfl)
    obtain ⟨W, w1, w2, _⟩ := rows_map r3_of49 rW tW
    obtain ⟨S, s1, s2, _⟩ := rows_map r3_of50 rS tS
    obtain ⟨C, c1, c2, _⟩ := rows_map cl_of rC tC
    refine ⟨⟨f, W, S, C⟩, ?_, by show W.length ≤ _; omega, by show S.length ≤ _; omega, by show C.length ≤ _; omega⟩
    rw [w2, s2, c2, ← w1, ← s1, ← c1]; rfl
end Go.Proofs.YtknoiemnpllapaaGreat
end
