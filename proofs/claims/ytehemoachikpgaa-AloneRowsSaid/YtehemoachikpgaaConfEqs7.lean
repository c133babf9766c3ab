/-
  What functions of this program compute, as equations about the evaluator. No condition but those stated.
-/
import Derived.Test.YtehemoachikpgaaConfEqs6
set_option linter.all false
section
namespace Go.Proofs.Ytehemoachikpgaa
open Go Go.PS
theorem any_range_tk {α : Type} (p : α → Bool) (l : List α) (i : Nat) (h : i ≤ l.length) : ((List.range i).any fun k => (l[k]?).any p) = (l.take i).any p := by
  rw [← any_range p (l.take i), List.length_take, Nat.min_eq_left h]
  rw [Bool.eq_iff_iff, List.any_eq_true, List.any_eq_true]
  constructor
  · rintro ⟨k, hk, e⟩
    have hk' := List.mem_range.1 hk
    refine ⟨k, hk, ?_⟩
    rw [List.getElem?_take_of_lt hk']; exact e
  · rintro ⟨k, hk, e⟩
    have hk' := List.mem_range.1 hk
    refine ⟨k, hk, ?_⟩
    rw [List.getElem?_take_of_lt hk'] at e; exact e
def sameR (l : List R3) (k : Nat) (r : R3) : Bool := (l.take k).any fun y => decide (y.o = r.o)
def meetR (l : List R3) (k : Nat) (r : R3) : Bool := (l.take k).any fun y => meetS (sp y) (sp r)
/-- What is wrong with a row, by those ahead of it. -/
def stR (l : List R3) (k : Nat) : Int := match l[k]? with
  | none => 0
  | some r => if mayR r = false then 2 else if sameR l k r = true then 15 else if meetR l k r = true then 11 else 0
def badR (l : List R3) (k : Nat) : Bool := decide (stR l k ≠ 0)
def chk (l : List R3) : Int := match (List.range l.length).find? (badR l) with
  | some k => stR l k
  | none => 0
theorem stR_at {l : List R3} {k : Nat} (hk : k < l.length) : stR l k = if mayR l[k] = false then 2 else if sameR l k l[k] = true then 15 else if meetR l k l[k] = true then 11 else 0 := by
  unfold stR; rw [List.getElem?_eq_getElem hk]
theorem badR_may {l : List R3} {k : Nat} (hk : k < l.length) (h : badR l k = false) : mayR l[k] = true := by
  unfold badR at h
  simp only [ne_eq, decide_eq_false_iff_not, Decidable.not_not] at h
  rw [stR_at hk] at h
  cases hm : mayR l[k] with
  | true => rfl
  | false => rw [hm, if_pos rfl] at h; cases h
set_option maxHeartbeats 2000000 in
theorem f20 (n : Nat) (l : List R3) (hp : Heap) (hl : l.length ≤ 20) (hn : 60 < n) : evalCall Try.prog hints (n + 4) 20 [.sl .sh l.length (l.flatMap R3.cells)] hp = some (.int .i64 (chk l), hp, false) := by
  rw [evalCall_at _ _ _ hh20 rfl Try.func20 rfl (Nat.le_of_ble_eq_true rfl) rfl]
  have lX := flat_len R3.len l
  have rr := fun k h => flat_row R3.len l k h
  have g0 := fun k h => flat_get R3.len l k h 0 (by omega)
  have e23 := fun r (h : mayR r = true) => f23 (n + 2) r hp h
  have e63 := fun a b c d => f63 n a b c d hp
  unfold chk
  generalize l.flatMap R3.cells = X at *
  simp
  rw [iter_idxI (fun k => { fr := [(0, .sl .sh l.length X), (3, .int .i64 k)], hp := hp, base := hp.length, dirty := false }) (badR l) (fun k => (.ret, { fr := [(2, .int .i64 (stR l k))], hp := hp, base := hp.length, dirty := false })) (.exit 0, { fr := [(0, .sl .sh l.length X), (3, .int .i64 l.length), (10, .bool false)], hp := hp, base := hp.length, dirty := false }) l.length]
  · cases (List.range l.length).find? (badR l) <;> simp
  · simp
  · omega
  · intro k hk inv
    have r := rr k hk
    have hmay : ∀ j (h : j < k), mayR (l[j]'(by omega)) = true := fun j h => badR_may (by omega) (inv j h)
    have z : k * 3 + 3 ≤ l.length * 3 := by omega
    have w := wrap_id (x := (k : Int) + 1) (by omega)
    have hb : badR l k = decide (stR l k ≠ 0) := rfl
    rw [hb, stR_at hk]
    unfold sameR meetR
    rw [← any_range_tk _ l k (by omega), ← any_range_tk _ l k (by omega)]
    by_cases m : mayR l[k] = true
    · have mm := m
      unfold mayR at mm; simp only [decide_eq_true_eq] at mm
      rw [if_neg (by rw [m]; simp)]
      have e23k := e23 l[k] m
      obtain ⟨A, hA⟩ : ∃ A, A = (List.range k).any fun j => (l[j]?).any fun y => decide (y.o = l[k].o) := ⟨_, rfl⟩
      obtain ⟨B, hB⟩ : ∃ B, B = (List.range k).any fun j => (l[j]?).any fun y => meetS (sp y) (sp l[k]) := ⟨_, rfl⟩
      rw [← hA, ← hB]
      generalize l[k] = x at *
      obtain ⟨o, a, b⟩ := x
      simp only [R3.cells, sp, Sp.cells] at *
      have c1 : ¬ o < 1 := by omega
      have c2 : ¬ 8 < o := by omega
      have c3 : ¬ a < 128 := by omega
      have c4 : ¬ 16383 < a := by omega
      have c5 : ¬ b < 1 := by omega
      have c6 : ¬ 16384 - a < b := by omega
      have w1 := wrap_id (x := 16384 - a) (by omega)
      simp [-getElem?_pos, List.getElem?_cons_zero, hk, lX, r, z, c1, c2, c3, c4, c5, c6, w1]
      rw [iter_find' (fun j => { fr := [(0, .sl .sh l.length X), (3, .int .i64 k), (4, .box [.int .i64 o, .int .i64 a, .int .i64 b]), (5, .int .i64 j)], hp := hp, base := hp.length, dirty := false }) (fun j => (l[j]?).any fun y => decide (y.o = o)) (.ret, { fr := [(2, .int .i64 15)], hp := hp, base := hp.length, dirty := false }) (.exit 2, { fr := [(0, .sl .sh l.length X), (3, .int .i64 k), (4, .box [.int .i64 o, .int .i64 a, .int .i64 b]), (5, .int .i64 k), (50, .bool false)], hp := hp, base := hp.length, dirty := false }) k _ _ (by simp) (by omega) ?_ (by simp) (by simp) (by simp), ← hA]
      · cases A with
        | true => simp
        | false =>
          simp [-getElem?_pos, List.getElem?_cons_zero]
          rw [iter_find' (fun j => { fr := [(0, .sl .sh l.length X), (3, .int .i64 k), (4, .box [.int .i64 o, .int .i64 a, .int .i64 b]), (6, .int .i64 j)], hp := hp, base := hp.length, dirty := false }) (fun j => (l[j]?).any fun y => meetS ⟨y.a, y.a + y.b⟩ ⟨a, a + b⟩) (.ret, { fr := [(2, .int .i64 11)], hp := hp, base := hp.length, dirty := false }) (.exit 4, { fr := [(0, .sl .sh l.length X), (3, .int .i64 k), (4, .box [.int .i64 o, .int .i64 a, .int .i64 b]), (6, .int .i64 k), (63, .bool false)], hp := hp, base := hp.length, dirty := false }) k _ _ (by simp) (by omega) ?_ (by simp) (by simp) (by simp), ← hB]
          · cases B <;> simp [w]
          · intro j hj
            have hj' : j < l.length := by omega
            have rj := rr j hj'
            have ej := e23 l[j] (hmay j hj)
            have zj : j * 3 + 3 ≤ l.length * 3 := by omega
            have wj := wrap_id (x := (j : Int) + 1) (by omega)
            rw [List.getElem?_eq_getElem hj']
            simp only [Option.any_some]
            unfold meetS
            generalize l[j] = y at *
            obtain ⟨o', a', b'⟩ := y
            simp only at *
            have em := e63 a' (a' + b') a (a + b)
            generalize meets a' (a' + b') a (a + b) = mm at *
            cases mm <;> simp [-getElem?_pos, List.getElem?_cons_zero, hj, hj', lX, rj, zj, ej, e23k, em, wj]
      · intro j hj
        have hj' : j < l.length := by omega
        have gj := g0 j hj'
        have wj := wrap_id (x := (j : Int) + 1) (by omega)
        rw [List.getElem?_eq_getElem hj']
        simp only [Option.any_some]
        generalize l[j] = y at *
        obtain ⟨o', a', b'⟩ := y
        simp only [Nat.add_zero, List.getElem?_cons_zero] at gj
        by_cases c : o' = o
        · have c' : (o' == o) = true := by simp [c]
          rw [decide_eq_true c]
          simp [-getElem?_pos, List.getElem?_cons_zero, hj, hj', lX, gj, c', wj]
        · have c' : (o' == o) = false := by simp [c]
          rw [decide_eq_false c]
          simp [-getElem?_pos, List.getElem?_cons_zero, hj, hj', lX, gj, c', wj]
    · have mm := m
      unfold mayR at mm; simp only [decide_eq_true_eq] at mm
      rw [if_pos (by simpa using m)]
      generalize l[k] = x at *
      obtain ⟨o, a, b⟩ := x
      simp only [R3.cells] at *
      by_cases c1 : o < 1
      · simp [-getElem?_pos, List.getElem?_cons_zero, hk, lX, r, z, c1]
      by_cases c2 : 8 < o
      · simp [-getElem?_pos, List.getElem?_cons_zero, hk, lX, r, z, c1, c2]
      by_cases c3 : a < 128
      · simp [-getElem?_pos, List.getElem?_cons_zero, hk, lX, r, z, c1, c2, c3]
      by_cases c4 : 16383 < a
      · simp [-getElem?_pos, List.getElem?_cons_zero, hk, lX, r, z, c1, c2, c3, c4]
      by_cases c5 : b < 1
      · simp [-getElem?_pos, List.getElem?_cons_zero, hk, lX, r, z, c1, c2, c3, c4, c5]
      have c6 : 16384 - a < b := by omega
      have w1 := wrap_id (x := 16384 - a) (by omega)
      simp [-getElem?_pos, List.getElem?_cons_zero, hk, lX, r, z, c1, c2, c3, c4, c5, c6, w1]
  · simp
  · simp
  · simp
end Go.Proofs.Ytehemoachikpgaa
end

section
namespace Go.Proofs.Ytehemoachikpgaa
open Go Go.PS
theorem findK_int {α : Type} (f : α → Int) (x : Int) : ∀ l : List α, findK (.int .i64 x) (l.map fun r => PV.int .i64 (f r)) = some (idx (fun r => decide (f r = x)) l)
  | [] => rfl
  | r :: l => by
    rw [List.map_cons, findK, sameK, if_pos rfl, idx, findK_int f x l]
    by_cases c : f r = x
    · have : (x == f r) = true := by simp [c]
      rw [this, if_pos (decide_eq_true c)]
    · have : (x == f r) = false := by rw [beq_eq_false_iff_ne]; exact fun h => c h.symm
      rw [this, if_neg (by simp [c])]
      cases idx (fun r => decide (f r = x)) l <;> rfl
def keysR (l : List R3) : List PV := l.map fun r => .int .i64 r.o
def valsR (l : List R3) : List PV := l.map fun r => .agg r.cells
def hpR (hp : Heap) (l : List R3) : Heap := hp ++ [.map (keysR l) (valsR l), .cells [.mp hp.length]]
theorem apart_snoc (l : List Sp) (s : Sp) (h : apartB l = true) : apartB (l ++ [s]) = (!(l.any fun y => meetS y s) && s.is) := by
  unfold apartB at *
  rw [Bool.and_eq_true] at h
  obtain ⟨h1, h2⟩ := h
  have sing : ∀ {α : Type} (a : α) (p : α → Bool), [a].any p = p a := fun a p => by simp
  rw [List.length_append, List.length_singleton, List.range_succ, List.any_append, List.any_append, sing, sing]
  have e1 : ((List.range l.length).any (meetAt (l ++ [s]))) = (List.range l.length).any (meetAt l) := by
    rw [Bool.eq_iff_iff, List.any_eq_true, List.any_eq_true]
    constructor
    · rintro ⟨k, hk, e⟩
      have hk' := List.mem_range.1 hk
      refine ⟨k, hk, ?_⟩
      unfold meetAt at *
      rw [List.getElem?_append_left hk', List.take_append_of_le_length (by omega)] at e
      exact e
    · rintro ⟨k, hk, e⟩
      have hk' := List.mem_range.1 hk
      refine ⟨k, hk, ?_⟩
      unfold meetAt at *
      rw [List.getElem?_append_left hk', List.take_append_of_le_length (by omega)]
      exact e
  have e2 : meetAt (l ++ [s]) l.length = l.any fun y => meetS y s := by
    unfold meetAt
    rw [List.getElem?_append_right (Nat.le_refl _)]
    simp
  rw [e1, e2]
  have h1' : (List.range l.length).any (meetAt l) = false := by simpa using h1
  have h2' : (l.any fun s => !s.is) = false := by simpa using h2
  rw [h1', h2']
  simp
theorem sp_is {r : R3} (h : mayR r = true) : (sp r).is = true := by
  unfold mayR at h; simp only [decide_eq_true_eq] at h
  unfold sp Sp.is; simp only [decide_eq_true_eq]; omega
theorem badR_ok {l : List R3} {k : Nat} (hk : k < l.length) (h : badR l k = false) : mayR l[k] = true ∧ sameR l k l[k] = false ∧ meetR l k l[k] = false := by
  unfold badR at h
  simp only [ne_eq, decide_eq_false_iff_not, Decidable.not_not] at h
  rw [stR_at hk] at h
  cases hm : mayR l[k] with
  | false => rw [hm, if_pos rfl] at h; cases h
  | true =>
    rw [hm, if_neg (by simp)] at h
    cases hs : sameR l k l[k] with
    | true => rw [hs, if_pos rfl] at h; cases h
    | false =>
      rw [hs, if_neg (by simp)] at h
      cases hx : meetR l k l[k] with
      | true => rw [hx, if_pos rfl] at h; cases h
      | false => exact ⟨rfl, rfl, rfl⟩
theorem apart_pre {l : List R3} : ∀ {k : Nat}, k ≤ l.length → (∀ j, j < k → badR l j = false) → apartB ((l.take k).map sp) = true
  | 0, _, _ => rfl
  | k + 1, hk, h => by
    obtain ⟨h1, h2, h3⟩ := badR_ok (show k < l.length by omega) (h k (by omega))
    rw [List.take_succ_eq_append_getElem (by omega), List.map_append, List.map_singleton]
    rw [apart_snoc _ _ (apart_pre (by omega) fun j hj => h j (by omega)), sp_is h1, Bool.and_true, List.any_map]
    unfold meetR at h3
    show (!((l.take k).any fun y => meetS (sp y) (sp l[k]))) = true
    rw [h3]; rfl
end Go.Proofs.Ytehemoachikpgaa
end

section
namespace Go.Proofs.Ytehemoachikpgaa
open Go Go.PS
theorem live16a (n : Nat) (ks vs c : List PV) : (evalCall Try.prog hints (n + 100) 16 [] [.map ks vs, .cells c]).map (fun r => (r.1, r.2.2)) = some (.bool true, false) := by kernel_rfl
theorem live16b (n : Nat) : (evalCall Try.prog hints (n + 100) 16 [] []).map (fun r => (r.1, r.2.2)) = some (.bool true, false) := by kernel_rfl
end Go.Proofs.Ytehemoachikpgaa
end

section
namespace Go.Proofs.Ytehemoachikpgaa
open Go Go.PS
theorem flat_spl (l : List R3) : (l.map sp).flatMap Sp.cells = l.flatMap fun r => (sp r).cells := by rw [List.flatMap_map]
set_option maxHeartbeats 2000000 in
theorem f19g (n : Nat) (l : List R3) (hp : Heap) (hl : l.length ≤ 20) (hn : 60 < n) : evalCall Try.prog hints (n + 8) 19 [.sl .sh l.length (l.flatMap R3.cells)] hp = match (List.range l.length).find? (badR l) with
    | some k => some (.tup [.nilp, .int .i64 (stR l k)], hpR hp (l.take k), false)
    | none => some (.tup [.ptr (.heap (hp.length + 1)) none 0, .int .i64 0], hpR hp l, false) := by
  obtain ⟨HP, hHP⟩ : ∃ HP : Nat → Heap, HP = fun k => hpR hp (l.take k) := ⟨_, rfl⟩
  obtain ⟨SL, hSL⟩ : ∃ SL : Nat → List PV, SL = fun k => ((l.take k).map sp).flatMap Sp.cells := ⟨_, rfl⟩
  rw [evalCall_at _ _ _ hh19 rfl Try.func19 rfl (Nat.le_of_ble_eq_true rfl) rfl]
  have lX := flat_len R3.len l
  have rr := fun k h => flat_row R3.len l k h
  have e61 := fun k (h : k < l.length) => f61 (n + 6) l[k] (HP k)
  have e57 := fun k (h : k < l.length) (m : mayR l[k] = true) => f57 (n + 6) l[k] (HP k) m
  have h0 : hp ++ [PS.Node.map [] []] ++ [PS.Node.cells [.mp hp.length]] = HP 0 := by rw [hHP]; simp [hpR, keysR, valsR]
  have h0' : hp ++ [PS.Node.map [] [], PS.Node.cells [.mp hp.length]] = HP 0 := by rw [hHP]; simp [hpR, keysR, valsR]
  generalize l.flatMap R3.cells = X at *
  simp [h0, h0']
  rw [iter_idxI (fun k => { fr := [(4, .ptr (.heap (hp.length + 1)) none 0), (5, .sl (.mu 2) k (SL k)), (13, .sl .sh l.length X), (14, .int .i64 l.length), (15, .int .i64 k)], hp := HP k, base := hp.length, dirty := false }) (badR l) (fun k => (.ret, { fr := [(2, .nilp), (3, .int .i64 (stR l k))], hp := HP k, base := hp.length, dirty := false })) (.exit 0, { fr := [(4, .ptr (.heap (hp.length + 1)) none 0), (5, .sl (.mu 2) l.length (SL l.length)), (13, .sl .sh l.length X), (14, .int .i64 l.length), (15, .int .i64 l.length), (16, .bool false)], hp := HP l.length, base := hp.length, dirty := false }) l.length]
  · rw [hHP]
    cases (List.range l.length).find? (badR l) <;> simp
  · simp [hSL]
  · omega
  · intro k hk inv
    have r := rr k hk
    have e61 := e61 k hk
    have hlk : (l.take k).length = k := by rw [List.length_take]; omega
    have hmp : (HP k)[hp.length]? = some (.map (keysR (l.take k)) (valsR (l.take k))) := by rw [hHP]; simp [hpR]
    have hob : (HP k)[hp.length + 1]? = some (.cells [.mp hp.length]) := by rw [hHP]; simp [hpR]
    have hset : (HP k).set hp.length (.map (keysR (l.take k) ++ [.int .i64 l[k].o]) (valsR (l.take k) ++ [.agg l[k].cells])) = HP (k + 1) := by
      rw [hHP]; simp only [hpR]
      rw [List.take_succ_eq_append_getElem hk]
      simp only [keysR, valsR, List.map_append, List.map_cons, List.map_nil]
      rw [List.set_append_right _ _ (Nat.le_refl _), Nat.sub_self]; rfl
    have fk := findK_int R3.o l[k].o (l.take k)
    have ap := apart_pre (Nat.le_of_lt hk) inv
    have e62 := f62 (n + 1) ((l.take (k + 1)).map sp) (HP k) (by simp; omega) (by omega)
    have hS1 : SL (k + 1) = SL k ++ (sp l[k]).cells := by
      rw [hSL]; simp only
      rw [List.take_succ_eq_append_getElem hk, List.map_append, List.flatMap_append]; simp
    have lS : (SL k).length = k * 2 := by
      rw [hSL]; simp only
      rw [flat_len Sp.len, List.length_map, hlk]
    have aS : (SL k).all storable = true := by rw [hSL]; exact flat_all (f := Sp.cells) (fun _ => rfl) _
    have hSe : ((l.take (k + 1)).map sp).flatMap Sp.cells = SL (k + 1) := by rw [hSL]
    have hle : ((l.take (k + 1)).map sp).length = k + 1 := by simp; omega
    rw [hSe, hle, hS1, List.take_succ_eq_append_getElem hk, List.map_append, List.map_singleton, apart_snoc _ _ ap, List.any_map] at e62
    have hmm : ((l.take k).any ((fun y => meetS y (sp l[k])) ∘ sp)) = meetR l k l[k] := rfl
    rw [hmm] at e62
    have z : k * 3 + 3 ≤ l.length * 3 := by omega
    have w := wrap_id (x := (k : Int) + 1) (by omega)
    have m1 : (k + 1) * 16 ≤ 140737488355328 := by omega
    have hb : badR l k = decide (stR l k ≠ 0) := rfl
    have fk' : findK (.int .i64 l[k].o) (keysR (l.take k)) = _ := fk
    have e57 := e57 k hk
    have his := fun (h : mayR l[k] = true) => sp_is h
    rw [hb, stR_at hk]
    clear hHP hSL inv ap hb hSe hle hmm fk
    cases hm : mayR l[k] with
    | false =>
      rw [hm] at e61
      rw [if_pos rfl]
      generalize l[k] = x at *
      obtain ⟨o, a, b⟩ := x
      simp only [R3.cells] at *
      simp [-getElem?_pos, List.getElem?_cons_zero, hk, lX, r, z, e61]
    | true =>
      rw [hm] at e61
      have e57 := e57 hm
      have his := his hm
      rw [if_neg (by simp)]
      cases hs : sameR l k l[k] with
      | true =>
        rw [if_pos rfl]
        cases hi : idx (fun r : R3 => decide (r.o = l[k].o)) (l.take k) with
        | none =>
          have := idx_none.1 hi
          unfold sameR at hs
          rw [hs] at this; cases this
        | some j =>
          obtain ⟨hj, _⟩ := idx_lt hi
          have hv : (valsR (l.take k))[j]? = some (.agg ((l.take k)[j]).cells) := by
            unfold valsR
            rw [List.getElem?_map, List.getElem?_eq_getElem hj]; rfl
          rw [hi] at fk'
          generalize (l.take k)[j] = y at *
          generalize l[k] = x at *
          obtain ⟨o, a, b⟩ := x
          obtain ⟨o', a', b'⟩ := y
          simp only [R3.cells] at *
          simp [-getElem?_pos, List.getElem?_cons_zero, hk, lX, r, z, e61, hob, hmp, fk', hv]
      | false =>
        rw [if_neg (by simp)]
        have hi : idx (fun r : R3 => decide (r.o = l[k].o)) (l.take k) = none := idx_none.2 hs
        rw [hi] at fk'
        rw [his, Bool.and_true] at e62
        generalize meetR l k l[k] = M at *
        generalize l[k] = x at *
        obtain ⟨o, a, b⟩ := x
        simp only [R3.cells, sp, Sp.cells] at *
        rw [hS1]
        generalize SL k = S at *
        cases M with
        | true =>
          simp [-getElem?_pos, List.getElem?_cons_zero, hk, lX, r, z, e61, hob, hmp, fk', e57, lS, aS, m1, e62]
        | false =>
          simp [-getElem?_pos, List.getElem?_cons_zero, hk, lX, r, z, e61, hob, hmp, fk', e57, lS, aS, m1, e62, hset, w]
  · simp
  · simp
  · simp
end Go.Proofs.Ytehemoachikpgaa
end

section
namespace Go.Proofs.Ytehemoachikpgaa
open Go Go.PS
theorem fst_some {x : Option (PV × Heap × Bool)} {v : PV} {d : Bool} (h : x.map (fun r => (r.1, r.2.2)) = some (v, d)) : ∃ H, x = some (v, H, d) := by
  cases x with
  | none => cases h
  | some r =>
    obtain ⟨a, H, e⟩ := r
    simp only [Option.map_some, Option.some.injEq, Prod.mk.injEq] at h
    exact ⟨H, by rw [h.1, h.2]⟩
/-- An owner's row. -/
def ownI (l : List R3) (o : Int) : Option Nat := idx (fun r : R3 => decide (r.o = o)) l
def rowO (l : List R3) (o : Int) : R3 := match ownI l o with
  | some k => (l[k]?).getD ⟨0, 0, 0⟩
  | none => ⟨0, 0, 0⟩
def hasO (l : List R3) (o : Int) : Bool := (ownI l o).isSome
def errO (l : List R3) (o : Int) : Int := if hasO l o = true then 0 else 7
theorem f13 (n i j : Nat) (l : List R3) (o : Int) (hp : Heap) (hj : hp[j]? = some (.cells [.mp i])) (hi : hp[i]? = some (.map (keysR l) (valsR l))) :
    evalCall Try.prog hints (n + 1) 13 [.ptr (.heap j) none 0, .int .i64 o] hp = some (.tup [.agg (rowO l o).cells, .int .i64 (errO l o)], hp, false) := by
  have fk : findK (.int .i64 o) (keysR l) = some (ownI l o) := findK_int R3.o o l
  rw [evalCall_at _ _ _ hh13 rfl Try.func13 rfl (Nat.le_of_ble_eq_true rfl) rfl]
  unfold rowO errO hasO
  cases hx : ownI l o with
  | none =>
    rw [hx] at fk
    simp [-getElem?_pos, List.getElem?_cons_zero, hj, hi, fk, R3.cells]
  | some k =>
    rw [hx] at fk
    obtain ⟨hk, _⟩ := idx_lt hx
    have hv : (valsR l)[k]? = some (.agg (l[k]).cells) := by
      unfold valsR
      rw [List.getElem?_map, List.getElem?_eq_getElem hk]; rfl
    simp only [List.getElem?_eq_getElem hk, Option.getD_some, Option.isSome_some, if_true]
    generalize l[k] = x at *
    obtain ⟨o', a, b⟩ := x
    simp only [R3.cells] at *
    simp [-getElem?_pos, List.getElem?_cons_zero, hj, hi, fk, hv]
set_option maxHeartbeats 1000000 in
theorem f21 (n : Nat) (l : List R3) (o : Int) (hp : Heap) (hl : l.length ≤ 40) (hn : 60 < n) : evalCall Try.prog hints (n + 1) 21 [.sl .sh l.length (l.flatMap R3.cells), .int .i64 o] hp = some (.agg (rowO l o).cells, hp, false) := by
  rw [evalCall_at _ _ _ hh21 rfl Try.func21 rfl (Nat.le_of_ble_eq_true rfl) rfl]
  have lX := flat_len R3.len l
  have rr := fun k h => flat_row R3.len l k h
  have g0 := fun k h => flat_get R3.len l k h 0 (by omega)
  unfold rowO ownI
  rw [← idx_range]
  generalize l.flatMap R3.cells = X at *
  simp
  rw [iter_idx (fun k => { fr := [(0, .sl .sh l.length X), (1, .int .i64 o), (4, .box [.int .i64 0, .int .i64 0, .int .i64 0]), (5, .int .i64 k)], hp := hp, base := hp.length, dirty := false }) (fun k => (l[k]?).any fun r => decide (r.o = o)) (fun k => (.ret, { fr := [(4, .box ((l[k]?).getD ⟨0, 0, 0⟩).cells)], hp := hp, base := hp.length, dirty := false })) (.exit 0, { fr := [(0, .sl .sh l.length X), (1, .int .i64 o), (4, .box [.int .i64 0, .int .i64 0, .int .i64 0]), (5, .int .i64 l.length), (9, .bool false)], hp := hp, base := hp.length, dirty := false }) l.length]
  · cases (List.range l.length).find? _ <;> simp [R3.cells]
  · simp
  · omega
  · intro k hk
    have r := rr k hk
    have g := g0 k hk
    have z : k * 3 + 3 ≤ l.length * 3 := by omega
    have w := wrap_id (x := (k : Int) + 1) (by omega)
    rw [List.getElem?_eq_getElem hk]
    simp only [Option.any_some, Option.getD_some]
    generalize l[k] = x at *
    obtain ⟨o', a, b⟩ := x
    simp only [R3.cells, Nat.add_zero, List.getElem?_cons_zero] at *
    by_cases c : o' = o
    · have c' : (o' == o) = true := by simp [c]
      rw [decide_eq_true c]
      simp [-getElem?_pos, List.getElem?_cons_zero, hk, lX, r, g, z, w, c']
    · have c' : (o' == o) = false := by simp [c]
      rw [decide_eq_false c]
      simp [-getElem?_pos, List.getElem?_cons_zero, hk, lX, r, g, z, w, c']
  · simp
  · simp
  · simp
theorem rowO_may {l : List R3} {o : Int} (hm : ∀ r ∈ l, mayR r = true) (h : hasO l o = true) : mayR (rowO l o) = true ∧ (rowO l o).o = o := by
  unfold hasO at h
  unfold rowO
  cases hx : ownI l o with
  | none => rw [hx] at h; cases h
  | some k =>
    obtain ⟨hk, e⟩ := idx_lt hx
    simp only [List.getElem?_eq_getElem hk, Option.getD_some]
    exact ⟨hm _ (List.getElem_mem hk), by simpa using e⟩
theorem rowO_no {l : List R3} {o : Int} (h : hasO l o = false) : rowO l o = ⟨0, 0, 0⟩ := by
  unfold hasO at h
  unfold rowO
  cases hx : ownI l o with
  | none => rfl
  | some k => rw [hx] at h; cases h
theorem hasO_pos {l : List R3} {o : Int} (hm : ∀ r ∈ l, mayR r = true) (h : hasO l o = true) : 1 ≤ o ∧ o ≤ 8 := by
  obtain ⟨h1, h2⟩ := rowO_may hm h
  unfold mayR at h1; simp only [decide_eq_true_eq] at h1
  omega
/-- The place of an address. -/
def mapR (l : List R3) (o a m : Int) : Int × Int :=
  if hasO l o = false then (0, 7) else if m < 0 then (0, 2) else if a < 0 then (0, 6) else if (rowO l o).b < a then (0, 6) else if (rowO l o).b - a < m then (0, 6) else ((rowO l o).a + a, 0)
theorem f14 (n i j : Nat) (l : List R3) (o a m : Int) (hp : Heap) (hj : hp[j]? = some (.cells [.mp i])) (hi : hp[i]? = some (.map (keysR l) (valsR l))) (hm : ∀ r ∈ l, mayR r = true) :
    evalCall Try.prog hints (n + 2) 14 [.ptr (.heap j) none 0, .int .i64 o, .int .i64 a, .int .i64 m] hp = some (.tup [.int .i64 (mapR l o a m).1, .int .i64 (mapR l o a m).2], hp, false) := by
  have e := f13 n i j l o hp hj hi
  have rm := fun h => (rowO_may (o := o) hm h).1
  rw [evalCall_at _ _ _ hh14 rfl Try.func14 rfl (Nat.le_of_ble_eq_true rfl) rfl]
  unfold mapR
  unfold errO at e
  cases hh : hasO l o with
  | false =>
    rw [hh, if_neg (by simp)] at e
    generalize rowO l o = r at *
    obtain ⟨r1, r2, r3⟩ := r
    simp only [R3.cells] at *
    simp [-getElem?_pos, List.getElem?_cons_zero, e]
  | true =>
    rw [hh, if_pos rfl] at e
    have rm := rm hh
    unfold mayR at rm; simp only [decide_eq_true_eq] at rm
    generalize rowO l o = r at *
    obtain ⟨r1, r2, r3⟩ := r
    simp only [R3.cells] at *
    by_cases c1 : m < 0
    · simp [-getElem?_pos, List.getElem?_cons_zero, e, c1]
    by_cases c2 : a < 0
    · simp [-getElem?_pos, List.getElem?_cons_zero, e, c1, c2]
    by_cases c3 : r3 < a
    · simp [-getElem?_pos, List.getElem?_cons_zero, e, c1, c2, c3]
    have w1 := wrap_id (x := r3 - a) (by omega)
    have w2 := wrap_id (x := r2 + a) (by omega)
    by_cases c4 : r3 - a < m
    · simp [-getElem?_pos, List.getElem?_cons_zero, e, c1, c2, c3, c4, w1]
    · simp [-getElem?_pos, List.getElem?_cons_zero, e, c1, c2, c3, c4, w1, w2]
theorem f24 (n : Nat) (l : List R3) (o a m : Int) (hp : Heap) (hl : l.length ≤ 40) (hn : 60 < n) (hm : ∀ r ∈ l, mayR r = true) :
    evalCall Try.prog hints (n + 2) 24 [.sl .sh l.length (l.flatMap R3.cells), .int .i64 o, .int .i64 a, .int .i64 m] hp = some (.tup [.int .i64 (mapR l o a m).1, .int .i64 (mapR l o a m).2], hp, false) := by
  have e := f21 n l o hp hl hn
  have rm := fun h => (rowO_may (o := o) hm h)
  have rn := fun h => (rowO_no (l := l) (o := o) h)
  have ps := fun h => (hasO_pos (o := o) hm h)
  rw [evalCall_at _ _ _ hh24 rfl Try.func24 rfl (Nat.le_of_ble_eq_true rfl) rfl]
  unfold mapR
  generalize l.flatMap R3.cells = X at *
  cases hh : hasO l o with
  | false =>
    rw [rn hh] at *
    simp only [R3.cells] at *
    simp [-getElem?_pos, List.getElem?_cons_zero, e]
  | true =>
    have rm' := (rm hh).1
    have ro := (rm hh).2
    have ps := ps hh
    unfold mayR at rm'; simp only [decide_eq_true_eq] at rm'
    clear rm rn
    generalize rowO l o = r at *
    obtain ⟨r1, r2, r3⟩ := r
    simp only [R3.cells] at *
    have c0 : (r1 == 0) = false := by simp; omega
    by_cases c1 : m < 0
    · simp [-getElem?_pos, List.getElem?_cons_zero, e, c0, c1]
    by_cases c2 : a < 0
    · simp [-getElem?_pos, List.getElem?_cons_zero, e, c0, c1, c2]
    by_cases c3 : r3 < a
    · simp [-getElem?_pos, List.getElem?_cons_zero, e, c0, c1, c2, c3]
    have w1 := wrap_id (x := r3 - a) (by omega)
    have w2 := wrap_id (x := r2 + a) (by omega)
    by_cases c4 : r3 - a < m
    · simp [-getElem?_pos, List.getElem?_cons_zero, e, c0, c1, c2, c3, c4, w1]
    · simp [-getElem?_pos, List.getElem?_cons_zero, e, c0, c1, c2, c3, c4, w1, w2]
theorem f18 (n i j : Nat) (l : List R3) (o : Int) (hp : Heap) (hj : hp[j]? = some (.cells [.mp i])) (hi : hp[i]? = some (.map (keysR l) (valsR l))) (hm : ∀ r ∈ l, mayR r = true) :
    evalCall Try.prog hints (n + 2) 18 [.ptr (.heap j) none 0, .int .i64 o] hp = some (.agg (sp (rowO l o)).cells, hp, false) := by
  have e := f13 n i j l o hp hj hi
  have e57 := fun h => f57 n (rowO l o) hp h
  have rm := fun h => (rowO_may (o := o) hm h).1
  have rn := fun h => (rowO_no (l := l) (o := o) h)
  rw [evalCall_at _ _ _ hh18 rfl Try.func18 rfl (Nat.le_of_ble_eq_true rfl) rfl]
  unfold errO at e
  cases hh : hasO l o with
  | false =>
    rw [hh, if_neg (by simp)] at e
    rw [rn hh] at *
    simp only [R3.cells, sp, Sp.cells] at *
    simp [-getElem?_pos, List.getElem?_cons_zero, e]
  | true =>
    rw [hh, if_pos rfl] at e
    have e57 := e57 (rm hh)
    clear rm rn
    generalize rowO l o = r at *
    obtain ⟨r1, r2, r3⟩ := r
    simp only [R3.cells, sp, Sp.cells] at *
    simp [-getElem?_pos, List.getElem?_cons_zero, e, e57]
end Go.Proofs.Ytehemoachikpgaa
end

section
namespace Go.Proofs.Ytehemoachikpgaa
open Go Go.PS
theorem f99 (n : Nat) (f : Int) (hp : Heap) : evalCall Try.prog hints (n + 1) 99 [.int .i64 f] hp = some (.bool (decide (1 ≤ f ∧ f ≤ 4096)), hp, false) := by
  rw [evalCall_at _ _ _ hh99 rfl Try.func99 rfl (Nat.le_of_ble_eq_true rfl) rfl]
  by_cases c1 : 1 ≤ f
  · simp [c1]
  · simp [c1]
theorem f100 (n : Nat) (w : R3) (hp : Heap) : evalCall Try.prog hints (n + 1) 100 [.agg w.cells] hp = some (.agg [.int .i64 w.a, .int .i64 w.b], hp, false) := by
  rw [evalCall_at _ _ _ hh100 rfl Try.func100 rfl (Nat.le_of_ble_eq_true rfl) rfl]
  obtain ⟨o, a, b⟩ := w
  simp [R3.cells]
theorem f102 (n j : Nat) (x y : R3) (hp : Heap) (hj : hp[j]? = some (.cells x.cells)) : evalCall Try.prog hints (n + 3) 102 [.agg y.cells, .ptr (.heap j) none 0] hp = some (.bool (meets y.a y.b x.a x.b), hp, false) := by
  have e := fun hp => f103 n y.a y.b x.a x.b hp
  have e1 := fun hp => f100 (n + 1) y hp
  have e2 := fun hp => f100 (n + 1) x hp
  rw [evalCall_at _ _ _ hh102 rfl Try.func102 rfl (Nat.le_of_ble_eq_true rfl) rfl]
  obtain ⟨o, a, b⟩ := x
  obtain ⟨o', a', b'⟩ := y
  simp only [R3.cells] at *
  generalize both a' b' a b = B at *
  generalize meets a' b' a b = m at *
  simp [-getElem?_pos, List.getElem?_cons_zero, hj, e, e1, e2]
def tg3 (k : Nat) : Nat := match k with
  | 0 => 0
  | _ + 1 => 3
theorem tg3_ok (k : Nat) : tg3 k = 3 ∨ tg3 k = 0 ∧ k = 0 := by cases k <;> simp [tg3]
/-- The heap behind a table of slots. -/
def hpS1 (hp : Heap) (t : Tab) (k : Nat) : Heap := hp ++ [.cells [.int .i64 t.f, .sl (.mu (tg3 k)) k ((t.S.take k).flatMap R3.cells)]] ++ (t.S.take k).map fun w => PS.Node.cells w.cells
set_option maxHeartbeats 1000000 in
theorem f70 (n : Nat) (t : Tab) (g : Good t) (hp : Heap) (hn : 60 < n) : evalCall Try.prog hints (n + 7) 70 [.int .i64 t.f, .sl .sh t.S.length (t.S.flatMap R3.cells)] hp = some (.tup [.ptr (.heap hp.length) none 0, .int .i64 0], hpS1 hp t t.S.length, false) := by
  have hf := g.frame
  unfold frameB at hf; simp only [decide_eq_true_eq] at hf
  obtain ⟨HP, hHP⟩ : ∃ HP : Nat → Heap, HP = hpS1 hp t := ⟨_, rfl⟩
  obtain ⟨SL, hSL⟩ : ∃ SL : Nat → List PV, SL = fun k => (t.S.take k).flatMap R3.cells := ⟨_, rfl⟩
  have e99 := f99 (n + 5) t.f hp
  rw [decide_eq_true (show 1 ≤ t.f ∧ t.f ≤ 4096 by omega)] at e99
  rw [evalCall_at _ _ _ hh70 rfl Try.func70 rfl (Nat.le_of_ble_eq_true rfl) rfl]
  have lX := flat_len R3.len t.S
  have rr := fun k h => flat_row R3.len t.S k h
  generalize t.S.flatMap R3.cells = X at *
  have h0 : hp ++ [PS.Node.cells [.int .i64 t.f, .sl (.mu 0) 0 []]] = HP 0 := by rw [hHP]; simp [hpS1, tg3]
  simp [-getElem?_pos, List.getElem?_cons_zero, e99, h0]
  rw [iter_count (fun k => { fr := [(0, .int .i64 t.f), (6, .ptr (.heap hp.length) none 0), (15, .sl .sh t.S.length X), (16, .int .i64 t.S.length), (17, .int .i64 k)], hp := HP k, base := hp.length, dirty := false }) (.exit 0, { fr := [(0, .int .i64 t.f), (6, .ptr (.heap hp.length) none 0), (15, .sl .sh t.S.length X), (16, .int .i64 t.S.length), (17, .int .i64 t.S.length), (18, .bool false)], hp := HP t.S.length, base := hp.length, dirty := false }) t.S.length]
  · simp [hHP]
  · simp
  · omega
  · intro k hk
    have r := rr k hk
    have z : k * 3 + 3 ≤ t.S.length * 3 := by omega
    have w := wrap_id (x := (k : Int) + 1) (by omega)
    have m1 : (k + 1) * 24 ≤ 140737488355328 := by omega
    have sk := g.sok t.S[k] (List.getElem_mem hk)
    unfold okS at sk; simp only [decide_eq_true_eq] at sk
    have hlk : (t.S.take k).length = k := by rw [List.length_take]; omega
    have hS : SL (k + 1) = SL k ++ t.S[k].cells := by
      rw [hSL]; simp only
      rw [List.take_succ_eq_append_getElem hk, List.flatMap_append]; simp
    have lS : (SL k).length = k * 3 := by
      rw [hSL]; simp only
      rw [flat_len R3.len, hlk]
    have aS : (SL k).all storable = true := by rw [hSL]; exact flat_all (f := R3.cells) (fun _ => rfl) _
    have oS : (SL k).map outCell = SL k := by rw [hSL]; exact flat_out (f := R3.cells) (fun _ => rfl) _
    have hla : ∀ c : PS.Node, (HP k ++ [c])[(HP k).length]? = some c := fun c => by simp
    have hob : ∀ c : PS.Node, (HP k ++ [c])[hp.length]? = some (.cells [.int .i64 t.f, .sl (.mu (tg3 k)) k (SL k)]) := fun c => by rw [hHP, hSL]; simp [hpS1]
    have hle : hp.length < (HP k).length := by rw [hHP]; simp [hpS1]
    have hb : ¬ (HP k).length < hp.length := by omega
    have hset : (HP k ++ [PS.Node.cells t.S[k].cells]).set hp.length (.cells [.int .i64 t.f, .sl (.mu 3) (k + 1) (SL (k + 1))]) = HP (k + 1) := by
      rw [hHP, hSL]
      simp only [hpS1]
      rw [List.take_succ_eq_append_getElem hk]
      simp only [List.map_append, List.map_cons, List.map_nil, List.append_assoc, List.singleton_append]
      rw [List.set_append_right _ _ (Nat.le_refl _), Nat.sub_self]; rfl
    have ge : hp.length < (HP k ++ [PS.Node.cells t.S[k].cells]).length := by rw [List.length_append]; omega
    have e100 := f100 (n + 5) t.S[k] (HP k ++ [PS.Node.cells t.S[k].cells])
    have e98 := f98 (n + 4) t.S[k].a t.S[k].b t.f (HP k ++ [PS.Node.cells t.S[k].cells])
    rw [decide_eq_true (show 0 ≤ t.S[k].a ∧ t.S[k].a < t.S[k].b ∧ t.S[k].b ≤ t.f by omega)] at e98
    have e101 := f101 (n + 4) 102 [.ptr (.heap (HP k).length) none 0] (fun y => meets y.a y.b t.S[k].a t.S[k].b) (t.S.take k) ((HP k ++ [PS.Node.cells t.S[k].cells]).set hp.length (.cells [.int .i64 t.f, .sl (.ow (tg3 k)) k (SL k)])) (by omega) (by omega) rfl (fun y _ => ⟨_, f102 (n + 1) _ t.S[k] y _ (by rw [List.getElem?_set_ne (by omega)]; exact hla _)⟩)
    have hany : ((t.S.take k).any fun y => meets y.a y.b t.S[k].a t.S[k].b) = false := by
      rw [List.any_eq_false]
      intro y hy
      obtain ⟨j, hj, rfl⟩ := List.getElem_of_mem hy
      have hjk : j < k := by omega
      have p := List.pairwise_iff_getElem.1 g.spair j k (by omega) hk hjk
      rw [List.getElem_take]
      unfold pairS at p
      rw [meets_comm, p]; simp
    have hSe : (t.S.take k).flatMap R3.cells = SL k := by rw [hSL]
    rw [hany, hlk, hSe] at e101
    have hsg : ∀ c : PS.Node, ((HP k ++ [PS.Node.cells t.S[k].cells]).set hp.length c)[hp.length]? = some c := fun c => by rw [List.getElem?_set_self ge]
    have t3 := tg3_ok k
    have c1 : ¬ t.S[k].o < 1 := by omega
    have c2 : ¬ 8 < t.S[k].o := by omega
    rw [hS] at hset
    clear hHP hSL hS hSe sk hany
    generalize t.S[k] = x at *
    obtain ⟨o, a, b⟩ := x
    simp only [R3.cells] at *
    generalize SL k = S at *
    generalize tg3 k = q at *
    simp [-getElem?_pos, List.getElem?_cons_zero, hk, lX, r, z, w, m1, lS, aS, oS, hla, hob, hb, hset, e100, e98, e101, t3, c1, c2, ge, hsg]
  · simp
  · simp
end Go.Proofs.Ytehemoachikpgaa
end

section
namespace Go.Proofs.Ytehemoachikpgaa
open Go Go.PS
/-- An owner's window, the last one if there were two. -/
def winF (l : List R3) (o : Nat) : Sp := l.foldl (fun s w => if w.o = (o : Int) then ⟨w.a, w.b⟩ else s) ⟨0, 0⟩
theorem winF_snoc (l : List R3) (w : R3) (o : Nat) : winF (l ++ [w]) o = if w.o = (o : Int) then ⟨w.a, w.b⟩ else winF l o := by
  unfold winF; rw [List.foldl_append]; rfl
def WN (l : List R3) : List PV := ((List.range 9).map (winF l)).flatMap Sp.cells
def PCc (t : Tab) (Z : List PV) (l : List R3) (p q : PV) : List PV := [.int .i64 t.f, .sl (.mu 0) 0 [], .sl (.mu 0) 0 [], .sl (.mu 10) t.C.length Z] ++ WN l ++ [p, q]
theorem WN_eq (l : List R3) : WN l = [.int .i64 (winF l 0).a, .int .i64 (winF l 0).b, .int .i64 (winF l 1).a, .int .i64 (winF l 1).b, .int .i64 (winF l 2).a, .int .i64 (winF l 2).b, .int .i64 (winF l 3).a, .int .i64 (winF l 3).b, .int .i64 (winF l 4).a, .int .i64 (winF l 4).b, .int .i64 (winF l 5).a, .int .i64 (winF l 5).b, .int .i64 (winF l 6).a, .int .i64 (winF l 6).b, .int .i64 (winF l 7).a, .int .i64 (winF l 7).b, .int .i64 (winF l 8).a, .int .i64 (winF l 8).b] := rfl
theorem PCc_len (t : Tab) (Z : List PV) (l : List R3) (p q : PV) : (PCc t Z l p q).length = 24 := rfl
theorem pc_set (t : Tab) (Z : List PV) (l : List R3) (p q : PV) (w : R3) (j : Nat) (hj : j < 9) (hw : w.o = (j : Int)) : ((PCc t Z l p q).set (4 + j * 2) (.int .i64 w.a)).set (4 + j * 2 + 1) (.int .i64 w.b) = PCc t Z (l ++ [w]) p q := by
  have h : ∀ o : Nat, winF (l ++ [w]) o = if j = o then ⟨w.a, w.b⟩ else winF l o := fun o => by
    rw [winF_snoc, hw]
    by_cases c : j = o
    · rw [if_pos c, if_pos (by omega)]
    · rw [if_neg c, if_neg (by omega)]
  unfold PCc
  rw [WN_eq, WN_eq]
  simp only [h]
  have hc : j = 0 ∨ j = 1 ∨ j = 2 ∨ j = 3 ∨ j = 4 ∨ j = 5 ∨ j = 6 ∨ j = 7 ∨ j = 8 := by omega
  rcases hc with rfl | rfl | rfl | rfl | rfl | rfl | rfl | rfl | rfl <;> rfl
theorem pc_p (t : Tab) (Z : List PV) (l : List R3) (p q r : PV) : (PCc t Z l p q).set 22 r = PCc t Z l r q := rfl
theorem pc_q (t : Tab) (Z : List PV) (l : List R3) (p q r : PV) : (PCc t Z l p q).set 23 r = PCc t Z l p r := rfl
def rgsT (t : Tab) : List R3 := rgsK t.C t.C.length
def hpP1 (hp : Heap) (t : Tab) (p q : PV) : Heap := hp ++ [.cells (PCc t (t.C.flatMap Cl.cells) t.W p q)]
/-- The heap behind a plan. -/
def hpP (hp : Heap) (t : Tab) : Heap := hpR (hpS1 (hpP1 hp t (.ptr (.heap (hp.length + 1)) none 0) (.ptr (.heap (hp.length + t.S.length + 3)) none 0)) t t.S.length) (rgsT t)
theorem hpS1_len (hp : Heap) (t : Tab) (k : Nat) (h : k ≤ t.S.length) : (hpS1 hp t k).length = hp.length + 1 + k := by
  unfold hpS1; simp; omega
theorem hpS1_set (hp : Heap) (t : Tab) (k i : Nat) (c : PS.Node) (h : i < hp.length) : (hpS1 hp t k).set i c = hpS1 (hp.set i c) t k := by
  unfold hpS1
  rw [List.append_assoc, List.append_assoc, List.set_append_left _ _ h]
theorem hpR_set (hp : Heap) (l : List R3) (i : Nat) (c : PS.Node) (h : i < hp.length) : (hpR hp l).set i c = hp.set i c ++ [.map (keysR l) (valsR l), .cells [.mp hp.length]] := by
  unfold hpR
  rw [List.set_append_left _ _ h]
theorem hpS1_get (hp : Heap) (t : Tab) (k i : Nat) (h : i < hp.length) : (hpS1 hp t k)[i]? = hp[i]? := by
  unfold hpS1
  rw [List.append_assoc, List.getElem?_append_left h]
theorem hpR_get (hp : Heap) (l : List R3) (i : Nat) (h : i < hp.length) : (hpR hp l)[i]? = hp[i]? := by
  unfold hpR
  rw [List.getElem?_append_left h]
theorem rgsT_none (t : Tab) (g : Good t) : (List.range (rgsT t).length).find? (badR (rgsT t)) = none := by
  have hl : (rgsT t).length = t.C.length := rgsK_len (Nat.le_refl _)
  rw [List.find?_eq_none]
  intro k hk
  have hk : k < t.C.length := by rw [hl] at hk; exact List.mem_range.1 hk
  have hf := g.frame
  unfold frameB at hf; simp only [decide_eq_true_eq] at hf
  have e := rgsK_at (l := t.C) (Nat.le_refl _) k hk hk
  have hk' : k < (rgsT t).length := by omega
  have ek : (rgsT t)[k] = rgOf t.C[k] k := by
    have : (rgsT t)[k]? = some (rgOf t.C[k] k) := e
    rw [List.getElem?_eq_getElem hk'] at this
    exact Option.some.inj this
  have ck := g.cok t.C[k] (List.getElem_mem hk)
  have hm : mayR (rgsT t)[k] = true := by
    rw [ek]; unfold mayR rgOf; unfold Cl.ok at ck
    simp only [decide_eq_true_eq]; omega
  have hs : sameR (rgsT t) k (rgsT t)[k] = false := by
    unfold sameR
    rw [List.any_eq_false]
    intro y hy
    obtain ⟨i, hi, rfl⟩ := List.getElem_of_mem hy
    have hik : i < k := by rw [List.length_take] at hi; omega
    have hi' : i < t.C.length := by omega
    have ei := rgsK_at (l := t.C) (Nat.le_refl _) i hi' hi'
    have hi2 : i < (rgsT t).length := by omega
    have ei : (rgsT t)[i] = rgOf t.C[i] i := by
      have : (rgsT t)[i]? = some (rgOf t.C[i] i) := ei
      rw [List.getElem?_eq_getElem hi2] at this
      exact Option.some.inj this
    rw [List.getElem_take, ei, ek]
    unfold rgOf
    simp only [decide_eq_true_eq]; omega
  have hx : meetR (rgsT t) k (rgsT t)[k] = false := by
    unfold meetR
    rw [List.any_eq_false]
    intro y hy
    obtain ⟨i, hi, rfl⟩ := List.getElem_of_mem hy
    have hik : i < k := by rw [List.length_take] at hi; omega
    have hi2 : i < (rgsT t).length := by omega
    have p := rgs_apart t g
    rw [List.pairwise_map] at p
    have := List.pairwise_iff_getElem.1 p i k hi2 hk' hik
    rw [List.getElem_take]
    show ¬ meetS (sp (rgsT t)[i]) (sp (rgsT t)[k]) = true
    have t2 : meetS (sp (rgsT t)[i]) (sp (rgsT t)[k]) = false := this
    rw [t2]; simp
  unfold badR
  rw [stR_at hk', hm, hs, hx]; simp
set_option maxHeartbeats 2000000 in
theorem f32 (n : Nat) (t : Tab) (g : Good t) (hp : Heap) (hn : 60 < n) : evalCall Try.prog hints (n + 20) 32 [.agg t.cells] hp = some (.tup [.ptr (.heap hp.length) none 0, .int .i64 0], hpP hp t, false) := by
  have hf := g.frame
  unfold frameB at hf; simp only [decide_eq_true_eq] at hf
  obtain ⟨H28, e28⟩ : ∃ H, evalCall Try.prog hints (n + 19) 28 [.agg t.cells] hp = some (.bool (decide ((faults t).length = 0)), H, false) := f28 (n + 8) t hp (by omega)
  rw [decide_eq_true (show (faults t).length = 0 by rw [g.nil]; rfl)] at e28
  have e29 : ∀ H, evalCall Try.prog hints (n + 19) 29 [.agg t.cells] H = some (.sl (.mu 3) t.C.length ((rgsT t).flatMap R3.cells), H, false) := fun H => f29 (n + 18) t H (by omega) (fun h => by rw [h] at hf; simp at hf) (by omega)
  have hrl : (rgsT t).length = t.C.length := rgsK_len (Nat.le_refl _)
  have e19 : ∀ H, evalCall Try.prog hints (n + 19) 19 [.sl .sh t.C.length ((rgsT t).flatMap R3.cells)] H = some (.tup [.ptr (.heap (H.length + 1)) none 0, .int .i64 0], hpR H (rgsT t), false) := fun H => by
    have := f19g (n + 11) (rgsT t) H (by omega) (by omega)
    rw [rgsT_none t g, hrl] at this
    exact this
  have e70 : ∀ H, evalCall Try.prog hints (n + 19) 70 [.int .i64 t.f, .sl .sh t.S.length (t.S.flatMap R3.cells)] H = _ := fun H => f70 (n + 12) t g H (by omega)
  rw [evalCall_at _ _ _ hh32 rfl Try.func32 rfl (Nat.le_of_ble_eq_true rfl) rfl]
  have lC := flat_len Cl.len t.C
  have oC := flat_out (f := Cl.cells) (fun _ => rfl) t.C
  have aC := flat_all (f := Cl.cells) (fun _ => rfl) t.C
  have m1 : t.C.length * 80 ≤ 140737488355328 := by omega
  have hla : ∀ c : PS.Node, (hp ++ [c])[hp.length]? = some c := fun c => by simp
  have hst : ∀ c d : PS.Node, (hp ++ [c]).set hp.length d = hp ++ [d] := fun c d => by simp
  have lX := flat_len R3.len t.W
  have rr := fun k h => flat_row R3.len t.W k h
  have pG : ((rgsT t).flatMap R3.cells).all plain1 = true := by rw [List.all_flatMap]; simp [R3.cells, plain1]
  have oG := flat_out (f := R3.cells) (fun _ => rfl) (rgsT t)
  obtain ⟨PC, hPC⟩ : ∃ PC : Nat → List PV, PC = fun k => PCc t (t.C.flatMap Cl.cells) (t.W.take k) .nilp .nilp := ⟨_, rfl⟩
  obtain ⟨R, hR⟩ : ∃ R, R = hpP hp t := ⟨_, rfl⟩
  rw [← hR]
  simp only [Tab.cells_eq] at e28 e29 ⊢
  generalize (rgsT t).flatMap R3.cells = G at *
  generalize hY : t.S.flatMap R3.cells = Y at *
  generalize hX : t.W.flatMap R3.cells = X at *
  generalize hZ : t.C.flatMap Cl.cells = Z at *
  have h0 : [PV.int .i64 t.f, .sl (.mu 0) 0 [], .sl (.mu 0) 0 [], .sl (.mu 10) t.C.length Z, .int .i64 0, .int .i64 0, .int .i64 0, .int .i64 0, .int .i64 0, .int .i64 0, .int .i64 0, .int .i64 0, .int .i64 0, .int .i64 0, .int .i64 0, .int .i64 0, .int .i64 0, .int .i64 0, .int .i64 0, .int .i64 0, .int .i64 0, .int .i64 0, .nilp, .nilp] = PC 0 := by rw [hPC]; rfl
  simp [-getElem?_pos, List.getElem?_cons_zero, e28, lC, oC, aC, m1, hla, hst, h0]
  have lP : (PC t.W.length).length = 24 := by rw [hPC]; rfl
  obtain ⟨P1, hP1⟩ : ∃ P1, P1 = PCc t Z t.W (.ptr (.heap (hp.length + 1)) none 0) .nilp := ⟨_, rfl⟩
  have lP1 : P1.length = 24 := by rw [hP1]; rfl
  obtain ⟨H1, hH1⟩ : ∃ H1, H1 = hpS1 (hp ++ [.cells P1]) t t.S.length := ⟨_, rfl⟩
  have g1 : (hpS1 (hp ++ [PS.Node.cells (PC t.W.length)]) t t.S.length)[hp.length]? = some (.cells (PC t.W.length)) := by
    rw [hpS1_get _ _ _ _ (by simp)]; simp
  have s1 : (hpS1 (hp ++ [PS.Node.cells (PC t.W.length)]) t t.S.length).set hp.length (.cells ((PC t.W.length).set 22 (.ptr (.heap (hp.length + 1)) none 0))) = H1 := by
    rw [hpS1_set _ _ _ _ _ (by simp), hst, hPC]
    simp only
    rw [List.take_length, pc_p, hH1, hP1]
  have lH1 : H1.length = hp.length + t.S.length + 2 := by
    rw [hH1, hpS1_len _ _ _ (Nat.le_refl _)]; simp; omega
  have g2 : (hpR H1 (rgsT t))[hp.length]? = some (.cells P1) := by
    rw [hpR_get _ _ _ (by omega), hH1, hpS1_get _ _ _ _ (by simp)]; simp
  have s2 : (hpR H1 (rgsT t)).set hp.length (.cells (P1.set 23 (.ptr (.heap (H1.length + 1)) none 0))) = R := by
    rw [hpR_set _ _ _ _ (by omega), hH1, hpS1_set _ _ _ _ _ (by simp), hst, hR]
    unfold hpP hpP1 hpR
    rw [hZ, hP1, pc_q]
    rw [hpS1_len _ _ _ (Nat.le_refl _), hpS1_len _ _ _ (Nat.le_refl _)]
    simp only [List.length_append, List.length_cons, List.length_nil]
    rw [show hp.length + (0 + 1) + 1 + t.S.length + 1 = hp.length + t.S.length + 3 by omega]
  rw [iter_count (fun k => { fr := [(1, .box [.int .i64 t.f, .sl .sh t.W.length X, .sl .sh t.S.length Y, .sl .sh t.C.length Z]), (4, .ptr (.heap hp.length) none 0), (29, .sl .sh t.W.length X), (30, .int .i64 t.W.length), (31, .int .i64 k)], hp := hp ++ [.cells (PC k)], base := hp.length, dirty := false }) (.exit 0, { fr := [(1, .box [.int .i64 t.f, .sl .sh t.W.length X, .sl .sh t.S.length Y, .sl .sh t.C.length Z]), (4, .ptr (.heap hp.length) none 0), (29, .sl .sh t.W.length X), (30, .int .i64 t.W.length), (31, .int .i64 t.W.length), (32, .bool false)], hp := hp ++ [.cells (PC t.W.length)], base := hp.length, dirty := false }) t.W.length]
  · simp [-getElem?_pos, List.getElem?_cons_zero, e70, g1, s1, lP, e29, pG, e19, g2, s2, lP1, oG]
  · simp
  · omega
  · intro k hk
    have r := rr k hk
    have z : k * 3 + 3 ≤ t.W.length * 3 := by omega
    have w := wrap_id (x := (k : Int) + 1) (by omega)
    have wk := g.wok t.W[k] (List.getElem_mem hk)
    unfold okW at wk; simp only [decide_eq_true_eq] at wk
    obtain ⟨j, hj⟩ : ∃ j : Nat, (j : Int) = t.W[k].o := ⟨t.W[k].o.toNat, by omega⟩
    have hj9 : j < 9 := by omega
    have hj9i : (j : Int) < 9 := by omega
    have hj24 : 4 + j * 2 + 2 ≤ 24 := by omega
    have ps := pc_set t Z (t.W.take k) .nilp .nilp t.W[k] j hj9 hj.symm
    have hps : ((PC k).set (4 + j * 2) (.int .i64 t.W[k].a)).set (4 + j * 2 + 1) (.int .i64 t.W[k].b) = PC (k + 1) := by
      rw [hPC]; simp only
      rw [List.take_succ_eq_append_getElem hk]; exact ps
    have lP : (PC k).length = 24 := by rw [hPC]; rfl
    clear ps wk s1 g1
    rw [← hps]
    clear hps
    generalize PC k = Q at *
    generalize t.W[k] = x at *
    obtain ⟨o, a, b⟩ := x
    simp only [R3.cells] at *
    subst hj
    simp [-getElem?_pos, List.getElem?_cons_zero, hk, lX, r, z, w, hla, hst, hj9, hj9i, hj24, lP]
  · simp
  · simp
end Go.Proofs.Ytehemoachikpgaa
end

section
namespace Go.Proofs.Ytehemoachikpgaa
open Go Go.PS
/-- What is read of a plan's object. -/
structure PlanO (t : Tab) (Z P : List PV) (js jr : Nat) : Prop where
  len : P.length = 24
  p0 : P[0]? = some (.int .i64 t.f)
  p3 : P[3]? = some (.sl (.mu 10) t.C.length Z)
  p4 : P[4]? = some (.int .i64 (winF t.W 0).a)
  p22 : P[22]? = some (.ptr (.heap js) none 0)
  p23 : P[23]? = some (.ptr (.heap jr) none 0)
  win : ∀ j, j < 9 → (P.drop (4 + j * 2)).take 2 = (winF t.W j).cells
theorem planO (t : Tab) (Z : List PV) (js jr : Nat) : PlanO t Z (PCc t Z t.W (.ptr (.heap js) none 0) (.ptr (.heap jr) none 0)) js jr := by
  refine ⟨rfl, rfl, rfl, rfl, rfl, rfl, fun j hj => ?_⟩
  unfold PCc
  rw [WN_eq]
  have hc : j = 0 ∨ j = 1 ∨ j = 2 ∨ j = 3 ∨ j = 4 ∨ j = 5 ∨ j = 6 ∨ j = 7 ∨ j = 8 := by omega
  rcases hc with rfl | rfl | rfl | rfl | rfl | rfl | rfl | rfl | rfl <;> rfl
/-- A plan in a heap. -/
structure PlanAt (t : Tab) (hp : Heap) (j : Nat) (P : List PV) (js jr jm : Nat) : Prop where
  o : PlanO t (t.C.flatMap Cl.cells) P js jr
  hj : hp[j]? = some (.cells P)
  hs : hp[js]? = some (.cells [.int .i64 t.f, .sl (.mu (tg3 t.S.length)) t.S.length (t.S.flatMap R3.cells)])
  hr : hp[jr]? = some (.cells [.mp jm])
  hm : hp[jm]? = some (.map (keysR (rgsT t)) (valsR (rgsT t)))
theorem planAt (t : Tab) (hp : Heap) : PlanAt t (hpP hp t) hp.length (PCc t (t.C.flatMap Cl.cells) t.W (.ptr (.heap (hp.length + 1)) none 0) (.ptr (.heap (hp.length + t.S.length + 3)) none 0)) (hp.length + 1) (hp.length + t.S.length + 3) (hp.length + t.S.length + 2) := by
  have l1 : (hpS1 (hpP1 hp t (.ptr (.heap (hp.length + 1)) none 0) (.ptr (.heap (hp.length + t.S.length + 3)) none 0)) t t.S.length).length = hp.length + t.S.length + 2 := by
    rw [hpS1_len _ _ _ (Nat.le_refl _)]; unfold hpP1; simp; omega
  refine ⟨planO _ _ _ _, ?_, ?_, ?_, ?_⟩
  · unfold hpP
    rw [hpR_get _ _ _ (by omega), hpS1_get _ _ _ _ (by unfold hpP1; simp)]
    unfold hpP1; simp
  · unfold hpP
    rw [hpR_get _ _ _ (by omega)]
    unfold hpS1 hpP1
    rw [List.take_length]
    simp
  · unfold hpP hpR
    rw [List.getElem?_append_right (by omega), l1, show hp.length + t.S.length + 3 - (hp.length + t.S.length + 2) = 1 by omega]
    rfl
  · unfold hpP hpR
    rw [List.getElem?_append_right (by omega), l1, Nat.sub_self]
    rfl
section
variable {t : Tab} {hp : Heap} {j js jr jm : Nat} {P : List PV}
theorem f34 (n : Nat) (a : PlanAt t hp j P js jr jm) : evalCall Try.prog hints (n + 1) 34 [.ptr (.heap j) none 0] hp = some (.int .i64 t.f, hp, false) := by
  obtain ⟨⟨o1, o2, o3, o4, o5, o6, o7⟩, a2, a3, a4, a5⟩ := a
  rw [evalCall_at _ _ _ hh34 rfl Try.func34 rfl (Nat.le_of_ble_eq_true rfl) rfl]
  simp [-getElem?_pos, List.getElem?_cons_zero, a2, o1, o2]
theorem f35 (n : Nat) (a : PlanAt t hp j P js jr jm) : evalCall Try.prog hints (n + 1) 35 [.ptr (.heap j) none 0] hp = some (.int .i64 t.C.length, hp, false) := by
  obtain ⟨⟨o1, o2, o3, o4, o5, o6, o7⟩, a2, a3, a4, a5⟩ := a
  rw [evalCall_at _ _ _ hh35 rfl Try.func35 rfl (Nat.le_of_ble_eq_true rfl) rfl]
  generalize t.C.flatMap Cl.cells = Z at *
  simp [-getElem?_pos, List.getElem?_cons_zero, a2, o1, o3]
theorem f39 (n : Nat) (a : PlanAt t hp j P js jr jm) : evalCall Try.prog hints (n + 1) 39 [.ptr (.heap j) none 0] hp = some (.ptr (.heap jr) none 0, hp, false) := by
  obtain ⟨⟨o1, o2, o3, o4, o5, o6, o7⟩, a2, a3, a4, a5⟩ := a
  rw [evalCall_at _ _ _ hh39 rfl Try.func39 rfl (Nat.le_of_ble_eq_true rfl) rfl]
  simp [-getElem?_pos, List.getElem?_cons_zero, a2, o1, o6]
theorem f72 (n : Nat) (a : PlanAt t hp j P js jr jm) : evalCall Try.prog hints (n + 1) 72 [.ptr (.heap j) none 0] hp = some (.ptr (.heap js) none 0, hp, false) := by
  obtain ⟨⟨o1, o2, o3, o4, o5, o6, o7⟩, a2, a3, a4, a5⟩ := a
  rw [evalCall_at _ _ _ hh72 rfl Try.func72 rfl (Nat.le_of_ble_eq_true rfl) rfl]
  simp [-getElem?_pos, List.getElem?_cons_zero, a2, o1, o5]
/-- Is there such a client? -/
def isC (t : Tab) (o : Int) : Bool := decide (1 ≤ o ∧ o ≤ (t.C.length : Int))
def Cl.zero : Cl := ⟨0, 0, 0, 0, 0, 0, 0, 0, 0, 0⟩
def clO (t : Tab) (o : Int) : Cl := if isC t o = true then (t.C[(o - 1).toNat]?).getD Cl.zero else Cl.zero
def winO (t : Tab) (o : Int) : Sp := if 0 ≤ o ∧ o ≤ (t.C.length : Int) then winF t.W o.toNat else ⟨0, 0⟩
def whenO (t : Tab) (w o : Int) : Int := if isC t o = true ∧ (w = 1 ∨ w = 2) then (winF t.W 0).a + 2 * (o - 1) + (w - 1) else -1
set_option maxHeartbeats 1000000 in
theorem f36 (n : Nat) (a : PlanAt t hp j P js jr jm) (hC : t.C.length ≤ 8) (o : Int) : evalCall Try.prog hints (n + 2) 36 [.ptr (.heap j) none 0, .int .i64 o] hp = some (.tup [.agg (clO t o).cells, .int .i64 (if isC t o = true then 0 else 7)], hp, false) := by
  have e := f35 n a
  obtain ⟨⟨o1, o2, o3, o4, o5, o6, o7⟩, a2, a3, a4, a5⟩ := a
  rw [evalCall_at _ _ _ hh36 rfl Try.func36 rfl (Nat.le_of_ble_eq_true rfl) rfl]
  unfold clO
  have lC := flat_len Cl.len t.C
  by_cases c1 : o < 1
  · rw [show isC t o = false from decide_eq_false (by omega)]
    simp [-getElem?_pos, List.getElem?_cons_zero, c1, Cl.zero, Cl.cells]
  · by_cases c2 : (t.C.length : Int) < o
    · rw [show isC t o = false from decide_eq_false (by omega)]
      simp [-getElem?_pos, List.getElem?_cons_zero, c1, e, c2, Cl.zero, Cl.cells]
    · rw [show isC t o = true from decide_eq_true (by omega), if_pos rfl]
      obtain ⟨k, rfl⟩ : ∃ k : Nat, o = (k : Int) + 1 := ⟨(o - 1).toNat, by omega⟩
      have hk : k < t.C.length := by omega
      rw [show ((k : Int) + 1 - 1).toNat = k by omega, List.getElem?_eq_getElem hk]
      simp only [Option.getD_some]
      have r := flat_row Cl.len t.C k hk
      have z : k * 10 + 10 ≤ t.C.length * 10 := by omega
      have w := wrap_id (x := (k : Int)) (by omega)
      generalize t.C.flatMap Cl.cells = Z at *
      generalize t.C[k] = x at *
      obtain ⟨x1, x2, x3, x4, x5, x6, x7, x8, x9, x10⟩ := x
      simp only [Cl.cells] at *
      simp [-getElem?_pos, List.getElem?_cons_zero, c1, e, c2, a2, o1, o3, lC, r, z, w, hk]
theorem f40 (n : Nat) (a : PlanAt t hp j P js jr jm) (hC : t.C.length ≤ 8) (o : Int) : evalCall Try.prog hints (n + 2) 40 [.ptr (.heap j) none 0, .int .i64 o] hp = some (.agg (winO t o).cells, hp, false) := by
  have e := f35 n a
  obtain ⟨⟨o1, o2, o3, o4, o5, o6, o7⟩, a2, a3, a4, a5⟩ := a
  rw [evalCall_at _ _ _ hh40 rfl Try.func40 rfl (Nat.le_of_ble_eq_true rfl) rfl]
  unfold winO
  by_cases c1 : o < 0
  · rw [if_neg (by omega)]
    simp [-getElem?_pos, List.getElem?_cons_zero, c1, Sp.cells]
  · by_cases c2 : (t.C.length : Int) < o
    · rw [if_neg (by omega)]
      simp [-getElem?_pos, List.getElem?_cons_zero, c1, e, c2, Sp.cells]
    · rw [if_pos (by omega)]
      obtain ⟨k, rfl⟩ : ∃ k : Nat, o = (k : Int) := ⟨o.toNat, by omega⟩
      have hk : k < 9 := by omega
      have hki : (k : Int) < 9 := by omega
      have c2' : ¬ t.C.length < k := by omega
      have r := o7 k hk
      have z : 4 + k * 2 + 2 ≤ 24 := by omega
      rw [show ((k : Int)).toNat = k by omega]
      generalize winF t.W k = w at *
      obtain ⟨x, y⟩ := w
      simp only [Sp.cells] at *
      simp [-getElem?_pos, List.getElem?_cons_zero, c1, e, c2, c2', a2, o1, r, z, hk, hki]
theorem f41 (n : Nat) (a : PlanAt t hp j P js jr jm) (hC : t.C.length ≤ 8) (hw : 0 ≤ (winF t.W 0).a ∧ (winF t.W 0).a ≤ 5000) (w o : Int) : evalCall Try.prog hints (n + 2) 41 [.ptr (.heap j) none 0, .int .i64 w, .int .i64 o] hp = some (.int .i64 (whenO t w o), hp, false) := by
  have e := f35 n a
  obtain ⟨⟨o1, o2, o3, o4, o5, o6, o7⟩, a2, a3, a4, a5⟩ := a
  rw [evalCall_at _ _ _ hh41 rfl Try.func41 rfl (Nat.le_of_ble_eq_true rfl) rfl]
  unfold whenO
  generalize winF t.W 0 = q at *
  by_cases c1 : o < 1
  · rw [if_neg (fun h => by have := of_decide_eq_true h.1; omega)]
    simp [-getElem?_pos, List.getElem?_cons_zero, c1]
  · by_cases c2 : (t.C.length : Int) < o
    · rw [if_neg (fun h => by have := of_decide_eq_true h.1; omega)]
      simp [-getElem?_pos, List.getElem?_cons_zero, c1, e, c2]
    · have hi : isC t o = true := decide_eq_true (by omega)
      rw [hi]
      have w1 := wrap_id (x := o - 1) (by omega)
      have w2 := wrap_id (x := 2 * (o - 1)) (by omega)
      have w3 := wrap_id (x := q.a + 2 * (o - 1)) (by omega)
      have w4 := wrap_id (x := q.a + 2 * (o - 1) + 1) (by omega)
      by_cases d1 : w = 1
      · subst d1
        simp [-getElem?_pos, List.getElem?_cons_zero, c1, e, c2, a2, o1, o4, w1, w2, w3]
      · by_cases d2 : w = 2
        · subst d2
          simp [-getElem?_pos, List.getElem?_cons_zero, c1, e, c2, a2, o1, o4, w1, w2, w3, w4]
        · have d1' : (w != 1) = true := by simp [d1]
          have d2' : (w != 2) = true := by simp [d2]
          simp [-getElem?_pos, List.getElem?_cons_zero, c1, e, c2, d1', d2', d1, d2]
end
end Go.Proofs.Ytehemoachikpgaa
end

section
namespace Go.Proofs.Ytehemoachikpgaa
open Go Go.PS
theorem wins_uniq {l : List R3} (h : l.Pairwise fun y x => pairW x y = false) {x y : R3} (hx : x ∈ l) (hy : y ∈ l) (e : x.o = y.o) : x = y := by
  obtain ⟨i, hi, rfl⟩ := List.getElem_of_mem hx
  obtain ⟨j, hj, rfl⟩ := List.getElem_of_mem hy
  have p := List.pairwise_iff_getElem.1 h
  have key : ∀ i j (hi : i < l.length) (hj : j < l.length), i < j → l[i].o ≠ l[j].o := fun i j hi hj hij e => by
    have := p i j hi hj hij
    unfold pairW at this
    rw [Bool.or_eq_false_iff] at this
    exact of_decide_eq_false this.1 e.symm
  by_cases c : i = j
  · subst c; rfl
  · rcases Nat.lt_or_ge i j with h | h
    · exact absurd e (key i j hi hj h)
    · exact absurd e.symm (key j i hj hi (by omega))
theorem winF_of {o : Nat} {w : R3} (hw : w.o = (o : Int)) : ∀ (l : List R3) (s : Sp), (∀ x ∈ l, x.o = (o : Int) → x = w) → (w ∈ l ∨ s = wsp w) → l.foldl (fun s w => if w.o = (o : Int) then (⟨w.a, w.b⟩ : Sp) else s) s = wsp w
  | [], s, _, h2 => by
    rcases h2 with h | h
    · simp at h
    · exact h
  | x :: l, s, h1, h2 => by
    rw [List.foldl_cons]
    refine winF_of hw l _ (fun y hy => h1 y (List.mem_cons_of_mem _ hy)) ?_
    by_cases c : x.o = (o : Int)
    · right
      rw [if_pos c, h1 x (by simp) c]; rfl
    · rw [if_neg c]
      rcases h2 with h | h
      · rcases List.mem_cons.1 h with e | e
        · subst e; exact absurd hw c
        · exact .inl e
      · exact .inr h
/-- An owner's window. -/
theorem win_good {t : Tab} (g : Good t) (o : Nat) (ho : o ≤ t.C.length) : ∃ w ∈ t.W, w.o = (o : Int) ∧ winF t.W o = wsp w ∧ rowO t.W (o : Int) = w := by
  have h := g.own o ho
  rw [List.any_eq_true] at h
  obtain ⟨w, hw, e⟩ := h
  have e := of_decide_eq_true e
  refine ⟨w, hw, e, ?_, ?_⟩
  · exact winF_of e t.W _ (fun x hx hxo => wins_uniq g.wpair hx hw (by rw [hxo, e])) (.inl hw)
  · have hh : hasO t.W (o : Int) = true := by
      unfold hasO ownI
      cases hx : idx (fun r : R3 => decide (r.o = (o : Int))) t.W with
      | none =>
        have := idx_none.1 hx
        rw [List.any_eq_true.2 ⟨w, hw, by simp [e]⟩] at this
        cases this
      | some k => rfl
    unfold hasO at hh
    unfold rowO
    cases hx : ownI t.W (o : Int) with
    | none => rw [hx] at hh; cases hh
    | some k =>
      obtain ⟨hk, e2⟩ := idx_lt hx
      simp only [List.getElem?_eq_getElem hk, Option.getD_some]
      exact wins_uniq g.wpair (List.getElem_mem hk) hw (by rw [e]; simpa using e2)
theorem win_b {t : Tab} (g : Good t) (o : Nat) (ho : o ≤ t.C.length) : 0 ≤ (winF t.W o).a ∧ (winF t.W o).a < (winF t.W o).b ∧ (winF t.W o).b ≤ t.f := by
  obtain ⟨w, hw, _, e, _⟩ := win_good g o ho
  have := g.wok w hw
  unfold okW at this; simp only [decide_eq_true_eq] at this
  rw [e]; unfold wsp; simp only; omega
theorem f76 (n : Nat) (k f : Int) (hp : Heap) (hf : 1 ≤ f ∧ f ≤ 4096) (hk : k < 9223372036854775808) : evalCall Try.prog hints (n + 2) 76 [.int .i64 k, .int .i64 f] hp = some (.tup [.int .i64 (if k < 0 then 0 else k / f), .int .i64 (if k < 0 then 0 else k % f)], hp, false) := by
  have e := f99 n f hp
  rw [decide_eq_true hf] at e
  rw [evalCall_at _ _ _ hh76 rfl Try.func76 rfl (Nat.le_of_ble_eq_true rfl) rfl]
  by_cases c : k < 0
  · simp [e, c]
  · have hne : (f == 0) = false := by simp; omega
    have hne' : ¬ f = 0 := by omega
    have q1 := td (a := k) f (by omega)
    have q2 := tm (a := k) f (by omega)
    have b0 := Int.ediv_nonneg (a := k) (b := f) (by omega) (by omega)
    have b1 : k / f ≤ k := Int.ediv_le_self f (by omega)
    have b2 := Int.emod_nonneg k (show f ≠ 0 by omega)
    have b3 := Int.emod_lt_of_pos k (show 0 < f by omega)
    have w1 := wrap_id (x := k / f) (by omega)
    have w2 := wrap_id (x := k % f) (by omega)
    simp [e, c, hne, hne', q1, q2, w1, w2]
def hold1 (s : Sp) (x : Int) : Bool := holds s.a s.b x && s.is
theorem f56 (n : Nat) (s : Sp) (x : Int) (hp : Heap) : evalCall Try.prog hints (n + 2) 56 [.agg s.cells, .int .i64 x] hp = some (.bool (s.is && decide (s.a ≤ x ∧ x < s.b)), hp, false) := by
  have e := fun hp => f79 n s.a s.b hp
  rw [evalCall_at _ _ _ hh56 rfl Try.func56 rfl (Nat.le_of_ble_eq_true rfl) rfl]
  obtain ⟨a, b⟩ := s
  unfold Sp.is
  simp only [Sp.cells] at *
  generalize decide (0 ≤ a ∧ a < b) = d at *
  cases d
  · simp [e]
  · by_cases c : a ≤ x <;> simp [e, c]
theorem f75 (n : Nat) (s : Sp) (x : Int) (hp : Heap) : evalCall Try.prog hints (n + 1) 75 [.agg s.cells, .int .i64 x] hp = some (.bool (s.a == x), hp, false) := by
  rw [evalCall_at _ _ _ hh75 rfl Try.func75 rfl (Nat.le_of_ble_eq_true rfl) rfl]
  obtain ⟨a, b⟩ := s
  simp [Sp.cells]
/-- The first owner of whose window something is so. -/
def findO (t : Tab) (q : Sp → Bool) : Int := match (List.range t.C.length).find? (fun i => q (winF t.W (i + 1))) with
  | some i => (i : Int) + 1
  | none => 0
section
variable {t : Tab} {hp : Heap} {j js jr jm : Nat} {P : List PV}
set_option maxHeartbeats 1000000 in
theorem f74 (n g : Nat) (q : Sp → Bool) (a : PlanAt t hp j P js jr jm) (hf : 1 ≤ t.f ∧ t.f ≤ 4096) (hC : t.C.length ≤ 8) (hn : 60 < n) (k : Int) (hk : k < 9223372036854775808) (ho : (hints g).own = none)
    (hg : 0 ≤ k → ∀ s : Sp, ∃ H, evalCall Try.prog hints (n + 2) g [.agg s.cells, .int .i64 (k % t.f)] hp = some (.bool (q s), H, false)) :
    evalCall Try.prog hints (n + 3) 74 [.ptr (.heap j) none 0, .int .i64 k, .fn g []] hp = some (.int .i64 (if k < 0 then 0 else findO t q), hp, false) := by
  have e34 := f34 (n + 1) a
  have e35 := f35 (n + 1) a
  have e76 := f76 n k t.f hp hf hk
  obtain ⟨⟨o1, o2, o3, o4, o5, o6, o7⟩, a2, a3, a4, a5⟩ := a
  rw [evalCall_at _ _ _ hh74 rfl Try.func74 rfl (Nat.le_of_ble_eq_true rfl) rfl]
  by_cases c : k < 0
  · simp [c]
  · have hg := hg (by omega)
    rw [if_neg c, if_neg c] at e76
    rw [if_neg c]
    generalize t.C.flatMap Cl.cells = Z at *
    unfold findO
    simp [c, e34, e35, e76]
    rw [iter_idx (fun i => { fr := [(0, .ptr (.heap j) none 0), (2, .fn g []), (8, .int .i64 (k % t.f)), (9, .int .i64 ((i : Int) + 1))], hp := hp, base := hp.length, dirty := false }) (fun i => q (winF t.W (i + 1))) (fun i => (.ret, { fr := [(6, .int .i64 ((i : Int) + 1))], hp := hp, base := hp.length, dirty := false })) (.exit 0, { fr := [(0, .ptr (.heap j) none 0), (2, .fn g []), (8, .int .i64 (k % t.f)), (9, .int .i64 ((t.C.length : Int) + 1)), (22, .bool false)], hp := hp, base := hp.length, dirty := false }) t.C.length]
    · cases (List.range t.C.length).find? _ <;> simp
    · simp
    · omega
    · intro i hi
      obtain ⟨H, e⟩ := hg (winF t.W (i + 1))
      have r := o7 (i + 1) (by omega)
      have z : 4 + (i + 1) * 2 + 2 ≤ 24 := by omega
      have w := wrap_id (x := (i : Int) + 1 + 1) (by omega)
      have c1 : (i : Int) + 1 ≤ t.C.length := by omega
      have c2 : (i : Int) + 1 < 9 := by omega
      have c2' : i + 1 < 9 := by omega
      have c3 : (0 : Int) ≤ (i : Int) + 1 := by omega
      generalize winF t.W (i + 1) = s at *
      obtain ⟨x, y⟩ := s
      simp only [Sp.cells] at *
      generalize q ⟨x, y⟩ = b at *
      cases b <;> simp [-getElem?_pos, List.getElem?_cons_zero, e35, c1, c2, c2', c3, a2, o1, r, z, w, e, ho]
    · have cn : ¬ ((t.C.length : Int) + 1 ≤ t.C.length) := by omega
      simp [e35, cn]
    · simp
    · simp
end
end Go.Proofs.Ytehemoachikpgaa
end

section
namespace Go.Proofs.Ytehemoachikpgaa
open Go Go.PS
def inS (x : Int) (s : Sp) : Bool := s.is && decide (s.a ≤ x ∧ x < s.b)
def dutyO (t : Tab) (k : Int) : Int × Int :=
  if k < 0 then (0, 0) else if k % t.f - (winF t.W 0).a < 0 then (0, 0) else if (t.C.length : Int) < (k % t.f - (winF t.W 0).a) / 2 + 1 then (0, 0) else (1 + (k % t.f - (winF t.W 0).a) % 2, (k % t.f - (winF t.W 0).a) / 2 + 1)
theorem winO_zero (t : Tab) : winO t 0 = winF t.W 0 := by
  unfold winO; rw [if_pos (by omega)]; rfl
theorem i64_wf {v : Int} (h : (Lit.int .i64 v).wf = true) : -9223372036854775808 ≤ v ∧ v < 9223372036854775808 := by
  simp [Lit.wf, IntKind.min, IntKind.max, IntKind.signed, IntKind.bits] at h
  omega
section
variable {t : Tab} {hp : Heap} {j js jr jm : Nat} {P : List PV}
theorem f45 (n : Nat) (a : PlanAt t hp j P js jr jm) (hf : 1 ≤ t.f ∧ t.f ≤ 4096) (hC : t.C.length ≤ 8) (hn : 60 < n) (k : Int) (hk : k < 9223372036854775808) :
    evalCall Try.prog hints (n + 4) 45 [.ptr (.heap j) none 0, .int .i64 k] hp = some (.int .i64 (if k < 0 then 0 else findO t (inS (k % t.f))), hp, false) := by
  have e := f74 n 56 (inS (k % t.f)) a hf hC hn k hk rfl (fun _ s => ⟨_, f56 n s (k % t.f) hp⟩)
  rw [evalCall_at _ _ _ hh45 rfl Try.func45 rfl (Nat.le_of_ble_eq_true rfl) rfl]
  generalize (if k < 0 then (0 : Int) else findO t (inS (k % t.f))) = r at *
  simp [e]
theorem f47 (n : Nat) (a : PlanAt t hp j P js jr jm) (hf : 1 ≤ t.f ∧ t.f ≤ 4096) (hC : t.C.length ≤ 8) (hn : 60 < n) (k : Int) (hk : k < 9223372036854775808) :
    evalCall Try.prog hints (n + 4) 47 [.ptr (.heap j) none 0, .int .i64 k] hp = some (.int .i64 (if k < 0 then 0 else findO t (fun s => s.a == k % t.f)), hp, false) := by
  have e := f74 n 75 (fun s => s.a == k % t.f) a hf hC hn k hk rfl (fun _ s => ⟨_, f75 (n + 1) s (k % t.f) hp⟩)
  rw [evalCall_at _ _ _ hh47 rfl Try.func47 rfl (Nat.le_of_ble_eq_true rfl) rfl]
  generalize (if k < 0 then (0 : Int) else findO t (fun s => s.a == k % t.f)) = r at *
  simp [e]
set_option maxHeartbeats 1000000 in
theorem f49 (n : Nat) (a : PlanAt t hp j P js jr jm) (hf : 1 ≤ t.f ∧ t.f ≤ 4096) (hC : t.C.length ≤ 8) (hw : 0 ≤ (winF t.W 0).a ∧ (winF t.W 0).a ≤ 5000) (k : Int) (hk : k < 9223372036854775808) :
    evalCall Try.prog hints (n + 3) 49 [.ptr (.heap j) none 0, .int .i64 k] hp = some (.agg [.int .i64 (dutyO t k).1, .int .i64 (dutyO t k).2], hp, false) := by
  have e34 := f34 (n + 1) a
  have e35 := f35 (n + 1) a
  have e40 := f40 n a hC 0
  rw [winO_zero] at e40
  have e76 := f76 n k t.f hp hf hk
  rw [evalCall_at _ _ _ hh49 rfl Try.func49 rfl (Nat.le_of_ble_eq_true rfl) rfl]
  unfold dutyO
  generalize winF t.W 0 = s at *
  obtain ⟨x, y⟩ := s
  simp only [Sp.cells] at *
  by_cases c : k < 0
  · rw [if_pos c, if_pos c] at e76
    rw [if_pos c]
    have w1 := wrap_id (x := 0 - x) (by omega)
    simp [-getElem?_pos, List.getElem?_cons_zero, e34, e35, e40, e76, c]
  · rw [if_neg c, if_neg c] at e76
    rw [if_neg c]
    have b2 := Int.emod_nonneg k (show t.f ≠ 0 by omega)
    have b3 := Int.emod_lt_of_pos k (show 0 < t.f by omega)
    generalize k / t.f = d at *
    generalize k % t.f = m at *
    have w1 := wrap_id (x := m - x) (by omega)
    by_cases c1 : m - x < 0
    · rw [if_pos c1]
      simp [-getElem?_pos, List.getElem?_cons_zero, e34, e35, e40, e76, c, w1, c1]
    · rw [if_neg c1]
      have q1 := td (a := m - x) 2 (by omega)
      have q2 := tm (a := m - x) 2 (by omega)
      have w2 := wrap_id (x := (m - x) / 2) (by omega)
      have w3 := wrap_id (x := (m - x) / 2 + 1) (by omega)
      have w4 := wrap_id (x := (m - x) % 2) (by omega)
      have w5 := wrap_id (x := 1 + (m - x) % 2) (by omega)
      by_cases c2 : (t.C.length : Int) < (m - x) / 2 + 1
      · rw [if_pos c2]
        simp [-getElem?_pos, List.getElem?_cons_zero, e34, e35, e40, e76, c, w1, c1, q1, w2, w3, c2]
      · rw [if_neg c2]
        simp [-getElem?_pos, List.getElem?_cons_zero, e34, e35, e40, e76, c, w1, c1, q1, q2, w2, w3, w4, w5, c2]
end
set_option maxHeartbeats 1000000 in
theorem f37 (n : Nat) (t : Tab) (o : Int) (hp : Heap) (hl : t.W.length ≤ 40) (hn : 60 < n) : evalCall Try.prog hints (n + 1) 37 [.agg t.cells, .int .i64 o] hp = some (.agg (wsp (rowO t.W o)).cells, hp, false) := by
  rw [evalCall_at _ _ _ hh37 rfl Try.func37 rfl (Nat.le_of_ble_eq_true rfl) rfl]
  have lX := flat_len R3.len t.W
  have g0 := fun k h => flat_get R3.len t.W k h 0 (by omega)
  have g1 := fun k h => flat_get R3.len t.W k h 1 (by omega)
  have g2 := fun k h => flat_get R3.len t.W k h 2 (by omega)
  unfold rowO ownI
  rw [← idx_range]
  simp only [Tab.cells_eq]
  generalize t.S.flatMap R3.cells = Y at *
  generalize t.C.flatMap Cl.cells = Z at *
  generalize t.W.flatMap R3.cells = X at *
  simp
  rw [iter_idx (fun k => { fr := [(1, .int .i64 o), (2, .box [.int .i64 t.f, .sl .sh t.W.length X, .sl .sh t.S.length Y, .sl .sh t.C.length Z]), (4, .box [.int .i64 0, .int .i64 0]), (5, .int .i64 k)], hp := hp, base := hp.length, dirty := false }) (fun k => (t.W[k]?).any fun r => decide (r.o = o)) (fun k => (.ret, { fr := [(4, .box (wsp ((t.W[k]?).getD ⟨0, 0, 0⟩)).cells)], hp := hp, base := hp.length, dirty := false })) (.exit 0, { fr := [(1, .int .i64 o), (2, .box [.int .i64 t.f, .sl .sh t.W.length X, .sl .sh t.S.length Y, .sl .sh t.C.length Z]), (4, .box [.int .i64 0, .int .i64 0]), (5, .int .i64 t.W.length), (10, .bool false)], hp := hp, base := hp.length, dirty := false }) t.W.length]
  · cases (List.range t.W.length).find? _ <;> simp [wsp, Sp.cells]
  · simp
  · omega
  · intro k hk
    have g0 := g0 k hk
    have g1 := g1 k hk
    have g2 := g2 k hk
    have w := wrap_id (x := (k : Int) + 1) (by omega)
    rw [List.getElem?_eq_getElem hk]
    simp only [Option.any_some, Option.getD_some]
    generalize t.W[k] = x at *
    obtain ⟨o', a, b⟩ := x
    simp only [R3.cells, wsp, Sp.cells, Nat.add_zero, List.getElem?_cons_zero, List.getElem?_cons_succ] at *
    by_cases c : o' = o
    · have c' : (o' == o) = true := by simp [c]
      rw [decide_eq_true c]
      simp [-getElem?_pos, List.getElem?_cons_zero, hk, lX, g0, g1, g2, w, c']
    · have c' : (o' == o) = false := by simp [c]
      rw [decide_eq_false c]
      simp [-getElem?_pos, List.getElem?_cons_zero, hk, lX, g0, g1, g2, w, c']
  · simp
  · simp
  · simp
theorem f38 (n : Nat) (t : Tab) (g : Good t) (w o : Int) (hp : Heap) (hw : 1 ≤ w ∧ w ≤ 2) (ho : 1 ≤ o ∧ o ≤ (t.C.length : Int)) (hn : 60 < n) : evalCall Try.prog hints (n + 2) 38 [.agg t.cells, .int .i64 w, .int .i64 o] hp = some (.int .i64 (whenO t w o), hp, false) := by
  have hf := g.frame
  unfold frameB at hf; simp only [decide_eq_true_eq] at hf
  have e := f37 n t 0 hp (by omega) hn
  obtain ⟨wi, _, _, h1, h2⟩ := win_good g 0 (by omega)
  have wb := win_b g 0 (by omega)
  rw [show ((0 : Nat) : Int) = 0 from rfl] at h2
  rw [h2, ← h1] at e
  have hW : whenO t w o = (winF t.W 0).a + 2 * (o - 1) + (w - 1) := by
    unfold whenO
    rw [if_pos ⟨decide_eq_true ho, by omega⟩]
  rw [evalCall_at _ _ _ hh38 rfl Try.func38 rfl (Nat.le_of_ble_eq_true rfl) rfl]
  rw [hW]
  clear h1 h2 hW
  generalize winF t.W 0 = s at *
  obtain ⟨x, y⟩ := s
  simp only [Sp.cells, Tab.cells_eq] at *
  have w1 := wrap_id (x := 2 * o) (by omega)
  have w2 := wrap_id (x := x + 2 * o) (by omega)
  have w3 := wrap_id (x := x + 2 * o - 3) (by omega)
  have w4 := wrap_id (x := x + 2 * o - 3 + w) (by omega)
  have he : x + 2 * (o - 1) + (w - 1) = x + 2 * o - 3 + w := by omega
  rw [he]
  generalize t.S.flatMap R3.cells = Y at *
  generalize t.C.flatMap Cl.cells = Z at *
  generalize t.W.flatMap R3.cells = X at *
  simp [-getElem?_pos, List.getElem?_cons_zero, e, w1, w2, w3, w4]
end Go.Proofs.Ytehemoachikpgaa
end

section
namespace Go.Proofs.Ytehemoachikpgaa
open Go Go.PS
theorem stood87 : Try.prog.stoodInHeld 87 = false := by kernel_rfl
@[simp] theorem guard87 : Try.prog.eqGuardType Try.prog.depth 87 = false := by kernel_rfl
theorem eqT87 (a b a' b' : Int) : eqT Try.prog 20 87 [.int .i64 a, .int .i64 b] [.int .i64 a', .int .i64 b'] = some (a == a' && b == b') := by
  show eqT Try.prog (18 + 1 + 1) 87 _ _ = _
  unfold eqT
  rw [Try.underlying87]
  simp only [stood87]
  simp [eqi3, andL]
def t33 : Tab := ⟨20, [⟨0, 0, 4⟩, ⟨1, 4, 20⟩], [⟨1, 4, 12⟩], [⟨128, 32, 1, 0, 2, 0, 0, 0, 0, 0⟩]⟩
theorem good33 : Good t33 := good_of (by kernel_rfl)
theorem live33 (n : Nat) (hp : Heap) : ∃ H, evalCall Try.prog hints (n + 100) 33 [] hp = some (.bool true, H, false) := by
  have e32 : evalCall Try.prog hints (n + 99) 32 [.agg [.int .i64 20, .sl .sh 2 [.int .i64 0, .int .i64 0, .int .i64 4, .int .i64 1, .int .i64 4, .int .i64 20], .sl .sh 1 [.int .i64 1, .int .i64 4, .int .i64 12], .sl .sh 1 [.int .i64 128, .int .i64 32, .int .i64 1, .int .i64 0, .int .i64 2, .int .i64 0, .int .i64 0, .int .i64 0, .int .i64 0, .int .i64 0]]] hp = _ := f32 (n + 79) t33 good33 hp (by omega)
  have a := planAt t33 hp
  generalize PCc t33 _ _ _ _ = P at a
  generalize hp.length + t33.S.length + 3 = jr at a
  generalize hp.length + t33.S.length + 2 = jm at a
  generalize hp.length + 1 = js at a
  obtain ⟨H, hH⟩ : ∃ H, H = hpP hp t33 := ⟨_, rfl⟩
  rw [← hH] at e32 a
  have e45 : evalCall Try.prog hints (n + 99) 45 [.ptr (.heap hp.length) none 0, .int .i64 25] H = some (.int .i64 1, H, false) := f45 (n + 95) a (by decide) (by decide) (by omega) 25 (by omega)
  have e47 : evalCall Try.prog hints (n + 99) 47 [.ptr (.heap hp.length) none 0, .int .i64 24] H = some (.int .i64 1, H, false) := f47 (n + 95) a (by decide) (by decide) (by omega) 24 (by omega)
  have e49 : evalCall Try.prog hints (n + 99) 49 [.ptr (.heap hp.length) none 0, .int .i64 21] H = some (.agg [.int .i64 2, .int .i64 1], H, false) := f49 (n + 96) a (by decide) (by decide) (by decide) 21 (by omega)
  have e41 : evalCall Try.prog hints (n + 99) 41 [.ptr (.heap hp.length) none 0, .int .i64 1, .int .i64 1] H = some (.int .i64 0, H, false) := f41 (n + 97) a (by decide) (by decide) 1 1
  have e34 : evalCall Try.prog hints (n + 99) 34 [.ptr (.heap hp.length) none 0] H = some (.int .i64 20, H, false) := f34 (n + 98) a
  refine ⟨H, ?_⟩
  rw [evalCall_at _ _ _ hh33 rfl Try.func33 rfl (Nat.le_of_ble_eq_true rfl) rfl]
  simp [e32, e45, e47, e49, e41, e34, eqT87]
end Go.Proofs.Ytehemoachikpgaa
end
