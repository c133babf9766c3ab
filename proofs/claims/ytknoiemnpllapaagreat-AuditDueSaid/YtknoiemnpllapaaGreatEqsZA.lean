/-
  What functions of this program compute, as equations about the evaluator. No condition but those stated.
-/
import Derived.Test.YtknoiemnpllapaaGreatEqsJ
import Derived.Test.YtknoiemnpllapaaGreatEqsZ

set_option linter.all false
section
namespace Go.Proofs.YtknoiemnpllapaaGreat
open Go Go.PS
def sameR (l : List R3) (k : Nat) (r : R3) : Bool := (l.take k).any fun y => decide (y.o = r.o)
def meetR (l : List R3) (k : Nat) (r : R3) : Bool := (l.take k).any fun y => meetS (sp y) (sp r)
/-- What is wrong with a row, by those ahead of it. -/
def stR (l : List R3) (k : Nat) : Int := match l[k]? with
  | none => 0
  | some r => if mayR r = false then 2 else if sameR l k r = true then 15 else if meetR l k r = true then 11 else 0
def badR (l : List R3) (k : Nat) : Bool := decide (stR l k ≠ 0)
theorem stR_at {l : List R3} {k : Nat} (hk : k < l.length) : stR l k = if mayR l[k] = false then 2 else if sameR l k l[k] = true then 15 else if meetR l k l[k] = true then 11 else 0 := by
  unfold stR; rw [List.getElem?_eq_getElem hk]
end Go.Proofs.YtknoiemnpllapaaGreat
end

section
namespace Go.Proofs.YtknoiemnpllapaaGreat
open Go Go.PS
theorem findK_int {α : Type} (f : α → Int) (x : Int) : ∀ l : List α, findK (.int .i64 x) (l.map fun r => PV.int .i64 (f r)) = some (idx (fun r => decide (f r = x)) l)
  | [] => rfl
  | r :: l => by
    rw [List.map_cons, findK, sameK, if_pos rfl, idx, findK_int f x l]
    by_cases c : f r = x
    · have : (x == f r) = true := by simp [c]
      rw [this, if_pos (decide_eq_true c)]
    · have : (x == f r) = false := by rw [beq_eq_false_iff_ne]; exact fun h => c h.symm
      rw [this, if_neg (by simp [c])]
      cases idx (fun r => decide (f r = x)) l <;> rfl
def keysR (l : List R3) : List PV := l.map fun r => .int .i64 r.o
def valsR (l : List R3) : List PV := l.map fun r => .agg r.cells
def hpR (hp : Heap) (l : List R3) : Heap := hp ++ [.map (keysR l) (valsR l), .cells [.mp hp.length]]
theorem apart_snoc (l : List Sp) (s : Sp) (h : apartB l = true) : apartB (l ++ [s]) = (!(l.any fun y => meetS y s) && s.is) := by
  unfold apartB at *
  rw [Bool.and_eq_true] at h
  obtain ⟨h1, h2⟩ := h
  have sing : ∀ {α : Type} (a : α) (p : α → Bool), [a].any p = p a := fun a p => by simp
  rw [List.length_append, List.length_singleton, List.range_succ, List.any_append, List.any_append, sing, sing]
  have e1 : ((List.range l.length).any (meetAt (l ++ [s]))) = (List.range l.length).any (meetAt l) := by
    rw [Bool.eq_iff_iff, List.any_eq_true, List.any_eq_true]
    constructor
    · rintro ⟨k, hk, e⟩
      have hk' := List.mem_range.1 hk
      refine ⟨k, hk, ?_⟩
      unfold meetAt at *
      rw [List.getElem?_append_left hk', List.take_append_of_le_length (by omega)] at e
      exact e
    · rintro ⟨k, hk, e⟩
      have hk' := List.mem_range.1 hk
      refine ⟨k, hk, ?_⟩
      unfold meetAt at *
      rw [List.getElem?_append_left hk', List.take_append_of_le_length (by omega)]
      exact e
  have e2 : meetAt (l ++ [s]) l.length = l.any fun y => meetS y s := by
    unfold meetAt
    rw [List.getElem?_append_right (Nat.le_refl _)]
    simp
  rw [e1, e2]
  have h1' : (List.range l.length).any (meetAt l) = false := by simpa using h1
  have h2' : (l.any fun s => !s.is) = false := by simpa using h2
  rw [h1', h2']
  simp
theorem sp_is {r : R3} (h : mayR r = true) : (sp r).is = true := by
  unfold mayR at h; simp only [decide_eq_true_eq] at h
  unfold sp Sp.is; simp only [decide_eq_true_eq]; omega
theorem badR_ok {l : List R3} {k : Nat} (hk : k < l.length) (h : badR l k = false) : mayR l[k] = true ∧ sameR l k l[k] = false ∧ meetR l k l[k] = false := by
  unfold badR at h
  simp only [ne_eq, decide_eq_false_iff_not, Decidable.not_not] at h
  rw [stR_at hk] at h
  cases hm : mayR l[k] with
  | false => rw [hm, if_pos rfl] at h; cases h
  | true =>
    rw [hm, if_neg (by simp)] at h
    cases hs : sameR l k l[k] with
    | true => rw [hs, if_pos rfl] at h; cases h
    | false =>
      rw [hs, if_neg (by simp)] at h
      cases hx : meetR l k l[k] with
      | true => rw [hx, if_pos rfl] at h; cases h
      | false => exact ⟨rfl, rfl, rfl⟩
theorem apart_pre {l : List R3} : ∀ {k : Nat}, k ≤ l.length → (∀ j, j < k → badR l j = false) → apartB ((l.take k).map sp) = true
  | 0, _, _ => rfl
  | k + 1, hk, h => by
    obtain ⟨h1, h2, h3⟩ := badR_ok (show k < l.length by omega) (h k (by omega))
    rw [List.take_succ_eq_append_getElem (by omega), List.map_append, List.map_singleton]
    rw [apart_snoc _ _ (apart_pre (by omega) fun j hj => h j (by omega)), sp_is h1, Bool.and_true, List.any_map]
    unfold meetR at h3
    show (!((l.take k).any fun y => meetS (sp y) (sp l[k]))) = true
    rw [h3]; rfl
end Go.Proofs.YtknoiemnpllapaaGreat
end

section
namespace Go.Proofs.YtknoiemnpllapaaGreat
open Go Go.PS
set_option maxHeartbeats 2000000 in
theorem f20g (n : Nat) (l : List R3) (hp : Heap) (hl : l.length ≤ 20) (hn : 60 < n) : evalCall Tryz.prog hints (n + 8) 20 [.sl .sh l.length (l.flatMap R3.cells)] hp = match (List.range l.length).find? (badR l) with
    | some k => some (.tup [.nilp, .int .i64 (stR l k)], hpR hp (l.take k), false)
    | none => some (.tup [.ptr (.heap (hp.length + 1)) none 0, .int .i64 0], hpR hp l, false) := by
  obtain ⟨HP, hHP⟩ : ∃ HP : Nat → Heap, HP = fun k => hpR hp (l.take k) := ⟨_, rfl⟩
  obtain ⟨SL, hSL⟩ : ∃ SL : Nat → List PV, SL = fun k => ((l.take k).map sp).flatMap Sp.cells := ⟨_, rfl⟩
  rw [evalCall_at _ _ _ hh20 rfl Tryz.func20 rfl (Nat.le_of_ble_eq_true rfl) rfl]
  have lX := flat_len R3.len l
  have rr := fun k h => flat_row R3.len l k h
  have e61 := fun k (h : k < l.length) => f55 (n + 6) l[k] (HP k)
  have e57 := fun k (h : k < l.length) (m : mayR l[k] = true) => f56 (n + 6) l[k] (HP k) m
  have h0 : hp ++ [PS.Node.map [] []] ++ [PS.Node.cells [.mp hp.length]] = HP 0 := by rw [hHP]; simp [hpR, keysR, valsR]
  have h0' : hp ++ [PS.Node.map [] [], PS.Node.cells [.mp hp.length]] = HP 0 := by rw [hHP]; simp [hpR, keysR, valsR]
  generalize l.flatMap R3.cells = X at *
  simp [h0, h0']
  rw [iter_idxI (fun k => { fr := [(4, .ptr (.heap (hp.length + 1)) none 0), (5, .sl (.mu 2) k (SL k)), (13, .sl .sh l.length X), (14, .int .i64 l.length), (15, .int .i64 k)], hp := HP k, base := hp.length, dirty := false }) (badR l) (fun k => (.ret, { fr := [(2, .nilp), (3, .int .i64 (stR l k))], hp := HP k, base := hp.length, dirty := false })) (.exit 0, { fr := [(4, .ptr (.heap (hp.length + 1)) none 0), (5, .sl (.mu 2) l.length (SL l.length)), (13, .sl .sh l.length X), (14, .int .i64 l.length), (15, .int .i64 l.length), (16, .bool false)], hp := HP l.length, base := hp.length, dirty := false }) l.length]
  · rw [hHP]
    cases (List.range l.length).find? (badR l) <;> simp
  · simp [hSL]
  · omega
  · intro k hk inv
    have r := rr k hk
    have e61 := e61 k hk
    have hlk : (l.take k).length = k := by rw [List.length_take]; omega
    have hmp : (HP k)[hp.length]? = some (.map (keysR (l.take k)) (valsR (l.take k))) := by rw [hHP]; simp [hpR]
    have hob : (HP k)[hp.length + 1]? = some (.cells [.mp hp.length]) := by rw [hHP]; simp [hpR]
    have hset : (HP k).set hp.length (.map (keysR (l.take k) ++ [.int .i64 l[k].o]) (valsR (l.take k) ++ [.agg l[k].cells])) = HP (k + 1) := by
      rw [hHP]; simp only [hpR]
      rw [List.take_succ_eq_append_getElem hk]
      simp only [keysR, valsR, List.map_append, List.map_cons, List.map_nil]
      rw [List.set_append_right _ _ (Nat.le_refl _), Nat.sub_self]; rfl
    have fk := findK_int R3.o l[k].o (l.take k)
    have ap := apart_pre (Nat.le_of_lt hk) inv
    have e62 := f57 (n + 1) ((l.take (k + 1)).map sp) (HP k) (by simp; omega) (by omega)
    have hS1 : SL (k + 1) = SL k ++ (sp l[k]).cells := by
      rw [hSL]; simp only
      rw [List.take_succ_eq_append_getElem hk, List.map_append, List.flatMap_append]; simp
    have lS : (SL k).length = k * 2 := by
      rw [hSL]; simp only
      rw [flat_len Sp.len, List.length_map, hlk]
    have aS : (SL k).all storable = true := by rw [hSL]; exact flat_all (f := Sp.cells) (fun _ => rfl) _
    have hSe : ((l.take (k + 1)).map sp).flatMap Sp.cells = SL (k + 1) := by rw [hSL]
    have hle : ((l.take (k + 1)).map sp).length = k + 1 := by simp; omega
    rw [hSe, hle, hS1, List.take_succ_eq_append_getElem hk, List.map_append, List.map_singleton, apart_snoc _ _ ap, List.any_map] at e62
    have hmm : ((l.take k).any ((fun y => meetS y (sp l[k])) ∘ sp)) = meetR l k l[k] := rfl
    rw [hmm] at e62
    have z : k * 3 + 3 ≤ l.length * 3 := by omega
    have w := wrap_id (x := (k : Int) + 1) (by omega)
    have m1 : (k + 1) * 16 ≤ 140737488355328 := by omega
    have hb : badR l k = decide (stR l k ≠ 0) := rfl
    have fk' : findK (.int .i64 l[k].o) (keysR (l.take k)) = _ := fk
    have e57 := e57 k hk
    have his := fun (h : mayR l[k] = true) => sp_is h
    rw [hb, stR_at hk]
    clear hHP hSL inv ap hb hSe hle hmm fk
    cases hm : mayR l[k] with
    | false =>
      rw [hm] at e61
      rw [if_pos rfl]
      generalize l[k] = x at *
      obtain ⟨o, a, b⟩ := x
      simp only [R3.cells] at *
      simp [-getElem?_pos, List.getElem?_cons_zero, hk, lX, r, z, e61]
    | true =>
      rw [hm] at e61
      have e57 := e57 hm
      have his := his hm
      rw [if_neg (by simp)]
      cases hs : sameR l k l[k] with
      | true =>
        rw [if_pos rfl]
        cases hi : idx (fun r : R3 => decide (r.o = l[k].o)) (l.take k) with
        | none =>
          have := idx_none.1 hi
          unfold sameR at hs
          rw [hs] at this; cases this
        | some j =>
          obtain ⟨hj, _⟩ := idx_lt hi
          have hv : (valsR (l.take k))[j]? = some (.agg ((l.take k)[j]).cells) := by
            unfold valsR
            rw [List.getElem?_map, List.getElem?_eq_getElem hj]; rfl
          rw [hi] at fk'
          generalize (l.take k)[j] = y at *
          generalize l[k] = x at *
          obtain ⟨o, a, b⟩ := x
          obtain ⟨o', a', b'⟩ := y
          simp only [R3.cells] at *
          simp [-getElem?_pos, List.getElem?_cons_zero, hk, lX, r, z, e61, hob, hmp, fk', hv]
      | false =>
        rw [if_neg (by simp)]
        have hi : idx (fun r : R3 => decide (r.o = l[k].o)) (l.take k) = none := idx_none.2 hs
        rw [hi] at fk'
        rw [his, Bool.and_true] at e62
        generalize meetR l k l[k] = M at *
        generalize l[k] = x at *
        obtain ⟨o, a, b⟩ := x
        simp only [R3.cells, sp, Sp.cells] at *
        rw [hS1]
        generalize SL k = S at *
        cases M with
        | true =>
          simp [-getElem?_pos, List.getElem?_cons_zero, hk, lX, r, z, e61, hob, hmp, fk', e57, lS, aS, m1, e62]
        | false =>
          simp [-getElem?_pos, List.getElem?_cons_zero, hk, lX, r, z, e61, hob, hmp, fk', e57, lS, aS, m1, e62, hset, w]
  · simp
  · simp
  · simp
end Go.Proofs.YtknoiemnpllapaaGreat
end

section
namespace Go.Proofs.YtknoiemnpllapaaGreat
open Go Go.PS
/-- An owner's row. -/
def ownI (l : List R3) (o : Int) : Option Nat := idx (fun r : R3 => decide (r.o = o)) l
def rowO (l : List R3) (o : Int) : R3 := match ownI l o with
  | some k => (l[k]?).getD ⟨0, 0, 0⟩
  | none => ⟨0, 0, 0⟩
def hasO (l : List R3) (o : Int) : Bool := (ownI l o).isSome
end Go.Proofs.YtknoiemnpllapaaGreat
end
