/-
  What functions of this program compute, as equations about the evaluator. No condition but those stated.
-/
import Derived.Test.YtehemoachikpgaaRegionRowsEqs2
set_option linter.all false
section
namespace Go.Proofs.Ytehemoachikpgaa
open Go Go.PS
theorem r3_of24 (r : List PV) (h : Ty Try.prog 24 r) : ∃ m : R3, r = m.cells ∧ True := by
  obtain ⟨parts, rfl, h1, h2⟩ := ty_struct Try.underlying24 h
  match parts, h1, h2 with
  | [p0, p1, p2], _, h2 =>
    obtain ⟨a, rfl, _⟩ := ty_int Try.underlying3 (h2 0 _ _ rfl rfl)
    obtain ⟨b, rfl, _⟩ := ty_int Try.underlying3 (h2 1 _ _ rfl rfl)
    obtain ⟨c, rfl, _⟩ := ty_int Try.underlying3 (h2 2 _ _ rfl rfl)
    exact ⟨⟨a, b, c⟩, rfl, trivial⟩
end Go.Proofs.Ytehemoachikpgaa
end

section
namespace Go.Proofs.Ytehemoachikpgaa
open Go Go.PS
def ints (r : R3) : List Int := [r.o, r.a, r.b]
theorem sorts58 : sortsOf (some 600301) = some (59, 3, 1) := rfl
theorem intsOf_rows : ∀ L : List R3, intsOf (L.flatMap R3.cells) = some (L.flatMap ints)
  | [] => rfl
  | r :: L => by
    rw [List.flatMap_cons, List.flatMap_cons]
    show intsOf (.int .i64 r.o :: .int .i64 r.a :: .int .i64 r.b :: L.flatMap R3.cells) = _
    simp only [intsOf, intsOf_rows L]; rfl
theorem chunk_rows : ∀ L : List R3, chunk 3 L.length (L.flatMap ints) = L.map ints
  | [] => rfl
  | r :: L => by
    rw [List.flatMap_cons, List.length_cons, chunk, List.map_cons]
    show (ints r ++ L.flatMap ints).take 3 :: chunk 3 L.length ((ints r ++ L.flatMap ints).drop 3) = _
    have h : (ints r).length = 3 := rfl
    rw [List.take_left' h, List.drop_left' h, chunk_rows L]
/-- Rows by their base. -/
def insR (r : R3) : List R3 → List R3
  | [] => [r]
  | x :: xs => if r.a ≤ x.a then r :: x :: xs else x :: insR r xs
def sortR : List R3 → List R3
  | [] => []
  | r :: rs => insR r (sortR rs)
theorem insK_map (r : R3) : ∀ L : List R3, insK 1 (ints r) (L.map ints) = (insR r L).map ints
  | [] => rfl
  | x :: L => by
    rw [List.map_cons, insK, insR]
    show (if r.a ≤ x.a then _ else _) = _
    split
    · rfl
    · rw [List.map_cons, insK_map r L]
theorem sortK_map : ∀ L : List R3, sortK 1 (L.map ints) = (sortR L).map ints
  | [] => rfl
  | r :: L => by rw [List.map_cons, sortK, sortK_map L, insK_map]; rfl
theorem flat_ints : ∀ L : List R3, (L.map ints).flatten.map (PV.int .i64) = L.flatMap R3.cells
  | [] => rfl
  | r :: L => by rw [List.map_cons, List.flatten_cons, List.map_append, flat_ints L, List.flatMap_cons]; rfl
theorem keys_map (L : List R3) : (L.map ints).map (keyI 1) = L.map R3.a := by rw [List.map_map]; rfl
theorem insR_mem {r y : R3} : ∀ {L : List R3}, y ∈ insR r L ↔ y = r ∨ y ∈ L
  | [] => by simp [insR]
  | x :: L => by
    unfold insR
    split
    · simp
    · rw [List.mem_cons, insR_mem, List.mem_cons]
      exact or_left_comm
theorem sortR_mem {y : R3} : ∀ {L : List R3}, y ∈ sortR L ↔ y ∈ L
  | [] => by simp [sortR]
  | r :: L => by rw [sortR, insR_mem, sortR_mem, List.mem_cons]
theorem insR_len (r : R3) : ∀ L : List R3, (insR r L).length = L.length + 1
  | [] => rfl
  | x :: L => by
    unfold insR
    split
    · rfl
    · rw [List.length_cons, insR_len, List.length_cons]
theorem sortR_len : ∀ L : List R3, (sortR L).length = L.length
  | [] => rfl
  | r :: L => by rw [sortR, insR_len, sortR_len, List.length_cons]
/-- The rows of the owners below k. -/
def allTo (l : List R3) (k : Nat) : List R3 := (List.range k).filterMap fun (o : Nat) => if hasO l (o : Int) = true then some (rowO l (o : Int)) else none
theorem allTo_succ (l : List R3) (k : Nat) : allTo l (k + 1) = allTo l k ++ (if hasO l (k : Int) = true then [rowO l (k : Int)] else []) := by
  unfold allTo
  rw [List.range_succ, List.filterMap_append]
  congr 1
  rw [List.filterMap_cons, List.filterMap_nil]
  split <;> simp_all
theorem allTo_len (l : List R3) : ∀ k, (allTo l k).length ≤ k
  | 0 => by simp [allTo]
  | k + 1 => by
    have := allTo_len l k
    rw [allTo_succ, List.length_append]
    split <;> simp <;> omega
set_option maxHeartbeats 2000000 in
theorem f17 (n i j : Nat) (l : List R3) (hp : Heap) (hj : hp[j]? = some (.cells [.mp i])) (hi : hp[i]? = some (.map (keysR l) (valsR l))) (hd : ((allTo l 9).map R3.a).Nodup) (hn : 60 < n) :
    evalCall Try.prog hints (n + 2) 17 [.ptr (.heap j) none 0] hp = some (.sl (.mu 3) (allTo l 9).length ((sortR (allTo l 9)).flatMap R3.cells), hp, false) := by
  have e := fun o => f13 n i j l o hp hj hi
  obtain ⟨A, hA⟩ : ∃ A : Nat → List PV, A = fun k => (allTo l k).flatMap R3.cells := ⟨_, rfl⟩
  rw [evalCall_at _ _ _ hh17 rfl Try.func17 rfl (Nat.le_of_ble_eq_true rfl) rfl]
  simp
  rw [iter_count (fun k => { fr := [(0, .ptr (.heap j) none 0), (3, .sl (.mu 3) (allTo l k).length (A k)), (7, .int .i64 k)], hp := hp, base := hp.length, dirty := false }) (.exit 0, { fr := [(0, .ptr (.heap j) none 0), (3, .sl (.mu 3) (allTo l 9).length (A 9)), (7, .int .i64 9), (8, .bool false)], hp := hp, base := hp.length, dirty := false }) 9]
  · have h1 := intsOf_rows (allTo l 9)
    have h2 := chunk_rows (allTo l 9)
    have h3 := keys_map (allTo l 9)
    have h4 := sortK_map (allTo l 9)
    have h5 := flat_ints (sortR (allTo l 9))
    have h6 := flat_len R3.len (allTo l 9)
    have h7 : (allTo l 9).length ≤ 1000 := by have := allTo_len l 9; omega
    have hA9 : A 9 = (allTo l 9).flatMap R3.cells := by rw [hA]
    rw [← hA9] at h1 h6
    generalize A 9 = X at *
    generalize (allTo l 9).flatMap ints = Y at *
    generalize (sortR (allTo l 9)).flatMap R3.cells = Z at *
    generalize (allTo l 9).length = N at *
    rw [← h3, ← h2] at hd
    rw [← h2] at h4
    rw [← h4] at h5
    clear h2 h3 h4
    simp [sorts58, sortOp, h1, h6, h7, hd, h5]
  · simp [hA, allTo]
  · omega
  · intro k hk
    have e := e k
    have lA : (A k).length = (allTo l k).length * 3 := by rw [hA]; exact flat_len R3.len _
    have aA : (A k).all storable = true := by rw [hA]; exact flat_all (f := R3.cells) (fun _ => rfl) _
    have hl := allTo_len l k
    have hS := allTo_succ l k
    have hA1 : A (k + 1) = (allTo l (k + 1)).flatMap R3.cells := by rw [hA]
    have hA0 : A k = (allTo l k).flatMap R3.cells := by rw [hA]
    have w := wrap_id (x := (k : Int) + 1) (by omega)
    have k9 : (k : Int) < 9 := by omega
    rw [hA1, hS]
    unfold errO at e
    cases hh : hasO l (k : Int) with
    | false =>
      rw [hh, if_neg (by simp)] at e
      rw [if_neg (by simp), List.append_nil, ← hA0]
      clear hS hA1 hA0 hA
      generalize rowO l (k : Int) = r at *
      generalize A k = X at *
      generalize (allTo l k).length = N at *
      obtain ⟨o, a, b⟩ := r
      simp only [R3.cells] at *
      simp [-getElem?_pos, List.getElem?_cons_zero, k9, e, w]
    | true =>
      rw [hh, if_pos rfl] at e
      rw [if_pos rfl, List.flatMap_append, ← hA0, List.length_append]
      clear hS hA1 hA0 hA
      generalize rowO l (k : Int) = r at *
      generalize A k = X at *
      generalize (allTo l k).length = N at *
      have m1 : (N + 1) * 24 ≤ 140737488355328 := by omega
      obtain ⟨o, a, b⟩ := r
      simp only [R3.cells] at *
      simp [-getElem?_pos, List.getElem?_cons_zero, k9, e, w, lA, aA, m1, R3.cells]
  · simp
  · simp
end Go.Proofs.Ytehemoachikpgaa
end

section
namespace Go.Proofs.Ytehemoachikpgaa
open Go Go.PS
def ltR (x y : R3) : Prop := x.a < y.a
theorem strict_ext : ∀ {l1 l2 : List R3}, l1.Pairwise ltR → l2.Pairwise ltR → (∀ x, x ∈ l1 ↔ x ∈ l2) → l1 = l2
  | [], [], _, _, _ => rfl
  | [], b :: l2, _, _, h => by have := (h b).2 (by simp); simp at this
  | a :: l1, [], _, _, h => by have := (h a).1 (by simp); simp at this
  | a :: l1, b :: l2, h1, h2, h => by
    rw [List.pairwise_cons] at h1 h2
    have irr : ∀ x : R3, ¬ ltR x x := fun x => by unfold ltR; omega
    have hab : a = b := by
      rcases List.mem_cons.1 ((h a).1 (by simp)) with e | e
      · exact e
      · rcases List.mem_cons.1 ((h b).2 (by simp)) with e' | e'
        · exact e'.symm
        · have := h1.1 b e'; have := h2.1 a e; unfold ltR at *; omega
    subst hab
    rw [strict_ext h1.2 h2.2 fun x => ?_]
    constructor
    · intro hx
      rcases List.mem_cons.1 ((h x).1 (by simp [hx])) with e | e
      · subst e; exact (irr _ (h1.1 _ hx)).elim
      · exact e
    · intro hx
      rcases List.mem_cons.1 ((h x).2 (by simp [hx])) with e | e
      · subst e; exact (irr _ (h2.1 _ hx)).elim
      · exact e
theorem insR_strict (r : R3) : ∀ {L : List R3}, L.Pairwise ltR → (∀ x ∈ L, x.a ≠ r.a) → (insR r L).Pairwise ltR
  | [], _, _ => by simp [insR]
  | x :: L, h, hn => by
    rw [List.pairwise_cons] at h
    have hx := hn x (by simp)
    unfold insR
    split
    · rename_i hr
      rw [List.pairwise_cons, List.pairwise_cons]
      refine ⟨fun y hy => ?_, h⟩
      rcases List.mem_cons.1 hy with rfl | hy
      · unfold ltR; omega
      · have := h.1 y hy; unfold ltR at *; omega
    · rename_i hr
      rw [List.pairwise_cons]
      refine ⟨fun y hy => ?_, insR_strict r h.2 fun y hy => hn y (by simp [hy])⟩
      rcases insR_mem.1 hy with rfl | hy
      · unfold ltR; omega
      · exact h.1 y hy
theorem sortR_strict : ∀ {L : List R3}, (L.map R3.a).Nodup → (sortR L).Pairwise ltR
  | [], _ => by simp [sortR]
  | r :: L, h => by
    rw [List.map_cons, List.nodup_cons] at h
    refine insR_strict r (sortR_strict h.2) fun x hx e => h.1 ?_
    rw [← e]; exact List.mem_map_of_mem (sortR_mem.1 hx)
/-- Where a row is put by the reference: behind the last one whose base is not greater. -/
def posB (out : List R3) (a : Int) : Nat → Nat
  | 0 => 0
  | k + 1 => if (out[k]?).any (fun y => decide (a < y.a)) = true then posB out a k else k + 1
theorem posB_le (out : List R3) (a : Int) : ∀ k, posB out a k ≤ k
  | 0 => Nat.le_refl _
  | k + 1 => by
    unfold posB
    split
    · have := posB_le out a k; omega
    · exact Nat.le_refl _
theorem posB_hi (out : List R3) (a : Int) : ∀ k, ∀ j, posB out a k ≤ j → j < k → (out[j]?).any (fun y => decide (a < y.a)) = true
  | 0, j, _, h => by omega
  | k + 1, j, h1, h2 => by
    unfold posB at h1
    split at h1
    · rename_i h
      by_cases e : j = k
      · subst e; exact h
      · exact posB_hi out a k j h1 (by omega)
    · omega
theorem posB_lo (out : List R3) (a : Int) : ∀ k, 0 < posB out a k → (out[posB out a k - 1]?).any (fun y => decide (a < y.a)) = false
  | 0, h => by cases h
  | k + 1, h => by
    unfold posB at h ⊢
    split
    · rename_i hc
      rw [if_pos hc] at h
      exact posB_lo out a k h
    · rename_i hc
      simpa using hc
def insB (out : List R3) (r : R3) : List R3 := out.take (posB out r.a out.length) ++ [r] ++ out.drop (posB out r.a out.length)
def sortB (l : List R3) : List R3 := l.foldl insB []
theorem insB_mem {out : List R3} {r y : R3} : y ∈ insB out r ↔ y = r ∨ y ∈ out := by
  unfold insB
  rw [List.mem_append, List.mem_append, List.mem_singleton]
  conv => rhs; rw [← List.take_append_drop (posB out r.a out.length) out, List.mem_append]
  constructor
  · rintro ((h | h) | h)
    · exact .inr (.inl h)
    · exact .inl h
    · exact .inr (.inr h)
  · rintro (h | h | h)
    · exact .inl (.inr h)
    · exact .inl (.inl h)
    · exact .inr h
theorem insB_len (out : List R3) (r : R3) : (insB out r).length = out.length + 1 := by
  unfold insB
  have := posB_le out r.a out.length
  simp; omega
theorem insB_strict {out : List R3} {r : R3} (h : out.Pairwise ltR) (hn : ∀ x ∈ out, x.a ≠ r.a) : (insB out r).Pairwise ltR := by
  unfold insB
  have hp := posB_le out r.a out.length
  have hhi : ∀ x ∈ out.drop (posB out r.a out.length), r.a < x.a := fun x hx => by
    obtain ⟨j, hj, e⟩ := List.getElem_of_mem hx
    rw [List.length_drop] at hj
    rw [List.getElem_drop] at e
    have := posB_hi out r.a out.length (posB out r.a out.length + j) (by omega) (by omega)
    rw [List.getElem?_eq_getElem (by omega), e] at this
    simpa using this
  have hlo : ∀ x ∈ out.take (posB out r.a out.length), x.a < r.a := fun x hx => by
    obtain ⟨j, hj, e⟩ := List.getElem_of_mem hx
    rw [List.length_take] at hj
    rw [List.getElem_take] at e
    have h0 := posB_lo out r.a out.length (by omega)
    rw [List.getElem?_eq_getElem (by omega)] at h0
    simp only [Option.any_some, decide_eq_false_iff_not] at h0
    have hne := hn _ (List.getElem_mem (show posB out r.a out.length - 1 < out.length by omega))
    rcases Nat.lt_or_ge j (posB out r.a out.length - 1) with hlt | hge
    · have := List.pairwise_iff_getElem.1 h j (posB out r.a out.length - 1) (by omega) (by omega) hlt
      unfold ltR at this
      rw [e] at this; omega
    · have ej : j = posB out r.a out.length - 1 := by omega
      subst ej
      rw [e] at h0 hne; omega
  rw [List.append_assoc, List.pairwise_append]
  refine ⟨h.sublist (List.take_sublist _ _), ?_, fun x hx y hy => ?_⟩
  · rw [List.singleton_append, List.pairwise_cons]
    exact ⟨fun y hy => hhi y hy, h.sublist (List.drop_sublist _ _)⟩
  · rw [List.singleton_append, List.mem_cons] at hy
    have h1 := hlo x hx
    rcases hy with rfl | hy
    · exact h1
    · have := hhi y hy; unfold ltR; omega
theorem sortB_go : ∀ (l out : List R3), out.Pairwise ltR → ((l.map R3.a).Nodup) → (∀ x ∈ out, ∀ y ∈ l, x.a ≠ y.a) → (l.foldl insB out).Pairwise ltR ∧ (∀ x, x ∈ l.foldl insB out ↔ x ∈ out ∨ x ∈ l) ∧ (l.foldl insB out).length = out.length + l.length
  | [], out, h, _, _ => ⟨h, fun x => by simp, by simp⟩
  | r :: l, out, h, hd, hn => by
    rw [List.map_cons, List.nodup_cons] at hd
    rw [List.foldl_cons]
    have h1 := insB_strict (r := r) h fun x hx => hn x hx r (by simp)
    obtain ⟨g1, g2, g3⟩ := sortB_go l (insB out r) h1 hd.2 fun x hx y hy => by
      rcases insB_mem.1 hx with rfl | hx
      · intro e; exact hd.1 (by rw [e]; exact List.mem_map_of_mem hy)
      · exact hn x hx y (by simp [hy])
    refine ⟨g1, fun x => ?_, by rw [g3, insB_len, List.length_cons]; omega⟩
    rw [g2, insB_mem, List.mem_cons]
    constructor
    · rintro ((h | h) | h)
      · exact .inr (.inl h)
      · exact .inl h
      · exact .inr (.inr h)
    · rintro (h | h | h)
      · exact .inl (.inr h)
      · exact .inl (.inl h)
      · exact .inr h
/-- Rows whose bases are all unlike. -/
theorem sortB_ok {l : List R3} (hd : (l.map R3.a).Nodup) : (sortB l).Pairwise ltR ∧ (∀ x, x ∈ sortB l ↔ x ∈ l) ∧ (sortB l).length = l.length := by
  obtain ⟨h1, h2, h3⟩ := sortB_go l [] (by simp) hd (by simp)
  exact ⟨h1, fun x => by rw [sortB, h2]; simp, by rw [sortB, h3]; simp⟩
end Go.Proofs.Ytehemoachikpgaa
end

section
namespace Go.Proofs.Ytehemoachikpgaa
open Go Go.PS
theorem foldl_take_succ (l : List R3) (k : Nat) (hk : k < l.length) : (l.take (k + 1)).foldl insB [] = insB ((l.take k).foldl insB []) l[k] := by
  rw [List.take_succ_eq_append_getElem hk, List.foldl_append]; rfl
theorem sortB_len : ∀ (l out : List R3), (l.foldl insB out).length = out.length + l.length
  | [], out => by simp
  | r :: l, out => by rw [List.foldl_cons, sortB_len l, insB_len, List.length_cons]; omega
set_option maxHeartbeats 2000000 in
theorem f22 (n : Nat) (l : List R3) (hp : Heap) (hl : l.length ≤ 20) (hn : 60 < n) : evalCall Try.prog hints (n + 1) 22 [.sl .sh l.length (l.flatMap R3.cells)] hp = some (.sl (.mu 3) l.length ((sortB l).flatMap R3.cells), hp, false) := by
  obtain ⟨O, hO⟩ : ∃ O : Nat → List R3, O = fun k => (l.take k).foldl insB [] := ⟨_, rfl⟩
  have lO : ∀ k, k ≤ l.length → (O k).length = k := fun k hk => by rw [hO]; simp only; rw [sortB_len]; simp; omega
  rw [evalCall_at _ _ _ hh22 rfl Try.func22 rfl (Nat.le_of_ble_eq_true rfl) rfl]
  have lX := flat_len R3.len l
  have rr := fun k h => flat_row R3.len l k h
  have g1 := fun k h => flat_get R3.len l k h 1 (by omega)
  have hS : sortB l = O l.length := by rw [hO]; simp [sortB]
  rw [hS]
  generalize l.flatMap R3.cells = X at *
  simp
  rw [iter_count (fun k => { fr := [(0, .sl .sh l.length X), (3, .sl (.mu 3) k ((O k).flatMap R3.cells)), (4, .int .i64 k)], hp := hp, base := hp.length, dirty := false }) (.exit 0, { fr := [(0, .sl .sh l.length X), (3, .sl (.mu 3) l.length ((O l.length).flatMap R3.cells)), (4, .int .i64 l.length), (11, .bool false)], hp := hp, base := hp.length, dirty := false }) l.length]
  · simp
  · simp [hO]
  · omega
  · intro k hk
    have r := rr k hk
    have g1 := g1 k hk
    have hOs : O (k + 1) = insB (O k) l[k] := by rw [hO]; exact foldl_take_succ l k hk
    have lk := lO k (by omega)
    have z : k * 3 + 3 ≤ l.length * 3 := by omega
    have w := wrap_id (x := (k : Int) + 1) (by omega)
    rw [hOs]
    generalize O k = out at *
    have hpl := posB_le out l[k].a out.length
    have hph := posB_hi out l[k].a out.length
    have hpo := posB_lo out l[k].a out.length
    have go := fun j h => flat_get R3.len out j h 1 (by omega)
    have lo := flat_len R3.len out
    have tk := fun j => flat_take R3.len out j
    unfold insB
    generalize hp0 : posB out l[k].a out.length = p at *
    rw [lk] at hpl lo hph
    have ao : (out.flatMap R3.cells).all storable = true := flat_all (f := R3.cells) (fun _ => rfl) _
    have hdrop : (out.flatMap R3.cells).drop (p * 3) = (out.drop p).flatMap R3.cells := by
      have h1 : (out.flatMap R3.cells) = (out.take p).flatMap R3.cells ++ (out.drop p).flatMap R3.cells := by
        rw [← List.flatMap_append, List.take_append_drop]
      have h2 : ((out.take p).flatMap R3.cells).length = p * 3 := by rw [flat_len R3.len, List.length_take]; omega
      rw [h1, List.drop_left' h2]
    have hfl : (out.take p ++ [l[k]] ++ out.drop p).flatMap R3.cells = (out.flatMap R3.cells).take (p * 3) ++ l[k].cells ++ (out.flatMap R3.cells).drop (p * 3) := by
      rw [List.flatMap_append, List.flatMap_append, hdrop, tk]; simp
    rw [hfl]
    have atk : ((out.flatMap R3.cells).take (p * 3)).all storable = true := List.all_eq_true.2 fun y hy => List.all_eq_true.1 ao y (List.mem_of_mem_take hy)
    have adr : ((out.flatMap R3.cells).drop (p * 3)).all storable = true := List.all_eq_true.2 fun y hy => List.all_eq_true.1 ao y (List.mem_of_mem_drop hy)
    have oY : (out.flatMap R3.cells).map outCell = out.flatMap R3.cells := by rw [List.map_flatMap]; rfl
    have sY : (out.flatMap R3.cells).map shr = out.flatMap R3.cells := by rw [List.map_flatMap]; rfl
    clear hfl hdrop tk hOs
    generalize l[k] = x at *
    generalize out.flatMap R3.cells = Y at *
    simp [-getElem?_pos, List.getElem?_cons_zero, hk, lX, lo]
    rw [iter_count (fun m => { fr := [(0, .sl .sh l.length X), (3, .sl (.mu 3) k Y), (4, .int .i64 k), (5, .int .i64 (k - m : Nat))], hp := hp, base := hp.length, dirty := false }) (.exit 2, { fr := [(0, .sl .sh l.length X), (3, .sl (.mu 3) k Y), (4, .int .i64 k), (5, .int .i64 p), (31, .bool false)], hp := hp, base := hp.length, dirty := false }) (k - p)]
    · have m1 : (p + 1) * 24 ≤ 140737488355328 := by omega
      have p1 : (p : Int) ≤ k := by omega
      have lt : (Y.take (p * 3)).length = p * 3 := by rw [List.length_take, lo]; omega
      have ld : (Y.drop (p * 3)).length = (k - p) * 3 := by rw [List.length_drop, lo]; omega
      have m0 : p * 24 ≤ 140737488355328 := by omega
      have m2 : (p + 1 + (k - p)) * 24 ≤ 140737488355328 := by omega
      have m3 : p + 1 + (k - p) = k + 1 := by omega
      have td : (Y.drop (p * 3)).take ((k - p) * 3) = Y.drop (p * 3) := List.take_of_length_le (by rw [ld]; exact Nat.le_refl _)
      have m4 : p * 3 + 3 = (p + 1) * 3 := by omega
      have m5 : (k + 1) * 24 ≤ 140737488355328 := by omega
      have z3 : p * 3 + (k - p) * 3 ≤ k * 3 := by omega
      obtain ⟨o, a, b⟩ := x
      simp only [R3.cells] at *
      have z2 : p * 3 ≤ k * 3 := by omega
      simp [-getElem?_pos, List.getElem?_cons_zero, -List.map_map, -List.all_eq_true, hk, lX, lo, hpl, m1, p1, lt, ld, atk, adr, z, r, w, z2, sY, oY, m0, m2, m3, z3, td, m4, m5]
    · simp
    · omega
    · intro m hm
      have hj : k - m - 1 < k := by omega
      have g := go (k - m - 1) (by omega)
      have hh := hph (k - m - 1) (by omega) (by omega)
      rw [List.getElem?_eq_getElem (by omega)] at hh
      generalize out[k - m - 1] = y at *
      simp only [Option.any_some, decide_eq_true_eq] at hh
      obtain ⟨o, a, b⟩ := x
      obtain ⟨o', a', b'⟩ := y
      simp only [R3.cells] at *
      obtain ⟨q, hq⟩ : ∃ q, k - m = q + 1 := ⟨k - m - 1, by omega⟩
      have hq1 : k - m - 1 = q := by omega
      have hq2 : k - (m + 1) = q := by omega
      have hqk : q < k := by omega
      have wq := wrap_id (x := (q : Int)) (by omega)
      have eq1 : (q : Int) + 1 - 1 = q := by omega
      rw [hq1] at g
      rw [hq, hq2]
      simp [-getElem?_pos, List.getElem?_cons_zero, hk, lX, lo, hqk, g, g1, hh, wq, eq1]
    · obtain ⟨o, a, b⟩ := x
      simp only [R3.cells] at *
      rcases Nat.eq_zero_or_pos p with h0 | h0
      · subst h0
        simp [-getElem?_pos, List.getElem?_cons_zero]
      · have h := hpo h0
        have g := go (p - 1) (by omega)
        rw [List.getElem?_eq_getElem (by omega)] at h
        generalize out[p - 1] = y at *
        simp only [Option.any_some, decide_eq_false_iff_not] at h
        obtain ⟨o', a', b'⟩ := y
        simp only [R3.cells] at *
        obtain ⟨q, rfl⟩ : ∃ q, p = q + 1 := ⟨p - 1, by omega⟩
        have e0 : k - (k - (q + 1)) = q + 1 := by omega
        have hqk : q < k := by omega
        have wq := wrap_id (x := (q : Int)) (by omega)
        have eq1 : (q : Int) + 1 - 1 = q := by omega
        rw [Nat.add_sub_cancel] at g
        rw [e0]
        simp [-getElem?_pos, List.getElem?_cons_zero, hk, lX, lo, hqk, g, g1, h, wq, eq1]
    · simp
  · simp
  · simp
end Go.Proofs.Ytehemoachikpgaa
end

section
namespace Go.Proofs.Ytehemoachikpgaa
open Go Go.PS
theorem meet_same {x y : R3} (hx : mayR x = true) (hy : mayR y = true) (h : x.a = y.a) : meetS (sp x) (sp y) = true := by
  unfold mayR at hx hy
  simp only [decide_eq_true_eq] at hx hy
  unfold meetS sp meets holds
  rw [h]
  simp only [Bool.and_eq_true, Bool.or_eq_true, decide_eq_true_eq]
  omega
section
variable {l : List R3} (h : (List.range l.length).find? (badR l) = none)
include h
theorem all_ok (k : Nat) (hk : k < l.length) : mayR l[k] = true ∧ sameR l k l[k] = false ∧ meetR l k l[k] = false := by
  have := List.find?_eq_none.1 h k (List.mem_range.2 hk)
  exact badR_ok hk (by simpa using this)
theorem pair_ok (i j : Nat) (hij : i < j) (hj : j < l.length) : l[i].o ≠ l[j].o ∧ l[i].a ≠ l[j].a := by
  obtain ⟨m1, s1, t1⟩ := all_ok h j hj
  obtain ⟨m2, _, _⟩ := all_ok h i (by omega)
  have hm : l[i] ∈ l.take j := by
    rw [List.mem_iff_getElem]
    exact ⟨i, by rw [List.length_take]; omega, by rw [List.getElem_take]⟩
  constructor
  · intro e
    unfold sameR at s1
    have := List.any_eq_false.1 s1 _ hm
    simp [e] at this
  · intro e
    unfold meetR at t1
    have := List.any_eq_false.1 t1 _ hm
    rw [meet_same m2 m1 e] at this
    exact this rfl
theorem nodup_a : (l.map R3.a).Nodup := by
  rw [List.Nodup, List.pairwise_map, List.pairwise_iff_getElem]
  intro i j hi hj hij
  exact (pair_ok h i j hij hj).2
theorem uniq_o {x y : R3} (hx : x ∈ l) (hy : y ∈ l) (e : x.o = y.o) : x = y := by
  obtain ⟨i, hi, rfl⟩ := List.getElem_of_mem hx
  obtain ⟨j, hj, rfl⟩ := List.getElem_of_mem hy
  rcases Nat.lt_trichotomy i j with c | c | c
  · exact ((pair_ok h i j c hj).1 e).elim
  · subst c; rfl
  · exact ((pair_ok h j i c hi).1 e.symm).elim
theorem uniq_a {x y : R3} (hx : x ∈ l) (hy : y ∈ l) (e : x.a = y.a) : x = y := by
  obtain ⟨i, hi, rfl⟩ := List.getElem_of_mem hx
  obtain ⟨j, hj, rfl⟩ := List.getElem_of_mem hy
  rcases Nat.lt_trichotomy i j with c | c | c
  · exact ((pair_ok h i j c hj).2 e).elim
  · subst c; rfl
  · exact ((pair_ok h j i c hi).2 e.symm).elim
omit h in
theorem rowO_mem {o : Int} (hh : hasO l o = true) : rowO l o ∈ l ∧ (rowO l o).o = o := by
  unfold hasO at hh
  unfold rowO
  cases hx : ownI l o with
  | none => rw [hx] at hh; cases hh
  | some k =>
    obtain ⟨hk, e⟩ := idx_lt hx
    simp only [List.getElem?_eq_getElem hk, Option.getD_some]
    exact ⟨List.getElem_mem hk, by simpa using e⟩
omit h in
theorem hasO_of {x : R3} (hx : x ∈ l) : hasO l x.o = true := by
  unfold hasO ownI
  cases hi : idx (fun r : R3 => decide (r.o = x.o)) l with
  | some k => rfl
  | none =>
    have := List.any_eq_false.1 (idx_none.1 hi) x hx
    simp at this
theorem allTo_mem {x : R3} {k : Nat} : x ∈ allTo l k ↔ x ∈ l ∧ 0 ≤ x.o ∧ x.o < k := by
  unfold allTo
  simp only [List.mem_filterMap, List.mem_range]
  constructor
  · rintro ⟨o, ho, e⟩
    split at e
    · rename_i hh
      cases e
      obtain ⟨h1, h2⟩ := rowO_mem hh
      rw [h2]
      exact ⟨h1, by omega, by omega⟩
    · cases e
  · rintro ⟨h1, h2, h3⟩
    refine ⟨x.o.toNat, by omega, ?_⟩
    have e : (x.o.toNat : Int) = x.o := Int.toNat_of_nonneg h2
    rw [e, if_pos (hasO_of h1)]
    obtain ⟨m1, m2⟩ := rowO_mem (hasO_of h1)
    rw [uniq_o h m1 h1 m2]
theorem allTo_nodup : ∀ k, ((allTo l k).map R3.a).Nodup
  | 0 => by simp [allTo]
  | k + 1 => by
    rw [allTo_succ]
    split
    · rename_i hh
      rw [List.map_append, List.nodup_append]
      refine ⟨allTo_nodup k, by simp, fun a ha b hb => ?_⟩
      rw [List.map_singleton, List.mem_singleton] at hb
      subst hb
      obtain ⟨x, hx, rfl⟩ := List.mem_map.1 ha
      obtain ⟨h1, h2, h3⟩ := (allTo_mem h).1 hx
      obtain ⟨m1, m2⟩ := rowO_mem hh
      intro e
      have := uniq_a h h1 m1 e
      rw [this, m2] at h3
      omega
    · rw [List.append_nil]; exact allTo_nodup k
theorem sort_eq : sortR (allTo l 9) = sortB l := by
  obtain ⟨h1, h2, h3⟩ := sortB_ok (nodup_a h)
  refine strict_ext (sortR_strict (allTo_nodup h 9)) h1 fun x => ?_
  rw [sortR_mem, h2, allTo_mem h]
  constructor
  · exact fun hx => hx.1
  · intro hx
    refine ⟨hx, ?_⟩
    obtain ⟨i, hi, rfl⟩ := List.getElem_of_mem hx
    have m := (all_ok h i hi).1
    unfold mayR at m; simp only [decide_eq_true_eq] at m
    omega
theorem all_len : (allTo l 9).length = l.length := by
  rw [← sortR_len, sort_eq h]
  exact (sortB_ok (nodup_a h)).2.2
end
theorem f17r (n i j : Nat) (l : List R3) (hp : Heap) (hj : hp[j]? = some (.cells [.mp i])) (hi : hp[i]? = some (.map (keysR l) (valsR l))) (h : (List.range l.length).find? (badR l) = none) (hn : 60 < n) :
    evalCall Try.prog hints (n + 2) 17 [.ptr (.heap j) none 0] hp = some (.sl (.mu 3) l.length ((sortB l).flatMap R3.cells), hp, false) := by
  rw [f17 n i j l hp hj hi (allTo_nodup h 9) hn, all_len h, sort_eq h]
set_option maxHeartbeats 4000000 in
theorem f4 (n : Nat) (L : List R3) (o : Int) (hL : L.length ≤ maxLen) : fstR (evalCall Try.prog hints (n + 200) 4 [.sl .sh L.length (L.flatMap R3.cells), .int .i64 o] []) = some (.bool true) := by
  obtain ⟨l, hl⟩ : ∃ l, l = L.take 20 := ⟨_, rfl⟩
  have ll : l.length ≤ 20 := by rw [hl, List.length_take]; omega
  have ln : l.length = min L.length 20 := by rw [hl, List.length_take, Nat.min_comm]
  have hT : (L.flatMap R3.cells).take (l.length * 3) = l.flatMap R3.cells := by
    rw [flat_take R3.len, hl, List.length_take, Nat.min_comm, ]
    congr 1
    rw [List.take_eq_take_iff]; omega
  have hm : (if (20 : Int) < L.length then (20 : Int) else L.length) = (l.length : Int) := by split <;> omega
  have e19 : evalCall Try.prog hints (n + 199) 19 [.sl .sh l.length (l.flatMap R3.cells)] [] = _ := f19g (n + 191) l [] ll (by omega)
  have e20' : ∀ hp, evalCall Try.prog hints (n + 199) 20 [.sl .sh l.length (l.flatMap R3.cells)] hp = _ := fun hp => f20 (n + 195) l hp ll (by omega)
  rw [evalCall_at _ _ _ hh4 rfl Try.func4 rfl (Nat.le_of_ble_eq_true rfl) rfl]
  have lX := flat_len R3.len L
  have le : (l.length : Int) ≤ L.length := by omega
  have le' : l.length ≤ L.length := by omega
  cases hk : (List.range l.length).find? (badR l) with
  | some k =>
    obtain ⟨h1, h2⟩ := chk_some hk
    obtain ⟨H, e16⟩ := fst_some (live16b (n + 99))
    rw [hk] at e19
    simp only at e19
    rw [h1] at e20'
    generalize l.flatMap R3.cells = X at *
    generalize L.flatMap R3.cells = Y at *
    have h2' : (stR l k != 0) = true := by simp [h2]
    generalize stR l k = s at *
    simp [-getElem?_pos, List.getElem?_cons_zero, lX, le, le', hm, hT, e19, e20', e16, h2, h2']
  | none =>
    obtain ⟨h1, h2⟩ := chk_none hk
    rw [hk] at e19
    simp only at e19
    rw [h1] at e20'
    have e13 := f13 (n + 198) 0 1 l o (hpR [] l) rfl rfl
    have e21 := f21 (n + 198) l o (hpR [] l) (by omega) (by omega)
    have e17 := f17r (n + 197) 0 1 l (hpR [] l) rfl rfl hk (by omega)
    have e22 := f22 (n + 198) l (hpR [] l) ll (by omega)
    have e18 := f18 (n + 197) 0 1 l o (hpR [] l) rfl rfl h2
    have e23 := fun h => f23 (n + 198) (rowO l o) (hpR [] l) h
    obtain ⟨H, e16⟩ := fst_some (live16a (n + 99) (keysR l) (valsR l) [.mp 0])
    have hpe : hpR [] l = [.map (keysR l) (valsR l), .cells [.mp 0]] := rfl
    rw [← hpe] at e16
    clear hpe
    have rm := fun h => rowO_may (o := o) h2 h
    have rn := fun h => rowO_no (l := l) (o := o) h
    have ps := fun h => hasO_pos (o := o) h2 h
    have sl : (sortB l).length = l.length := (sortB_ok (nodup_a hk)).2.2
    have lS : ((sortB l).flatMap R3.cells).length = l.length * 3 := by rw [flat_len R3.len, sl]
    have rS := fun k (h : k < l.length) => flat_row R3.len (sortB l) k (by rw [sl]; exact h)
    unfold errO at e13
    generalize l.flatMap R3.cells = X at *
    generalize L.flatMap R3.cells = Y at *
    generalize (sortB l).flatMap R3.cells = Z at *
    generalize hpR [] l = HP at *
    generalize sortB l = SB at *
    cases hh : hasO l o with
    | false =>
      rw [hh, if_neg (by simp)] at e13
      rw [rn hh] at *
      simp only [R3.cells, sp, Sp.cells] at *
      simp [-getElem?_pos, List.getElem?_cons_zero, lX, le, le', hm, hT, e19, e20', e16, e13, e21, e17, e22, e18, lS]
      rw [iter_count (fun k => { fr := [(1, .int .i64 o), (5, .ptr (.heap 1) none 0), (8, .box [.int .i64 0, .int .i64 0, .int .i64 0]), (9, .int .i64 7), (10, .box [.int .i64 0, .int .i64 0, .int .i64 0]), (11, .sl (.mu 3) l.length Z), (12, .sl (.mu 3) l.length Z), (13, .int .i64 k)], hp := HP, base := 0, dirty := false }) (.exit 0, { fr := [(1, .int .i64 o), (5, .ptr (.heap 1) none 0), (8, .box [.int .i64 0, .int .i64 0, .int .i64 0]), (9, .int .i64 7), (10, .box [.int .i64 0, .int .i64 0, .int .i64 0]), (11, .sl (.mu 3) l.length Z), (12, .sl (.mu 3) l.length Z), (13, .int .i64 l.length), (65, .bool false)], hp := HP, base := 0, dirty := false }) l.length]
      rotate_left
      · simp
      · omega
      · intro k hk
        have r := rS k hk
        have z : k * 3 + 3 ≤ l.length * 3 := by omega
        have w := wrap_id (x := (k : Int) + 1) (by omega)
        generalize SB[k]'(by omega) = x at *
        obtain ⟨o', a', b'⟩ := x
        simp only [R3.cells] at *
        simp [-getElem?_pos, List.getElem?_cons_zero, hk, lS, r, z, w, eqT24]
      · simp [lS]
      · simp
      by_cases ho : o < 1
      · simp [-getElem?_pos, List.getElem?_cons_zero, ho, e16, e18, eqT24, eqT36]
      · simp [-getElem?_pos, List.getElem?_cons_zero, ho, e16, e18, eqT24, eqT36]
    | true =>
      rw [hh, if_pos rfl] at e13
      have rm' := (rm hh).1
      have ro := (rm hh).2
      have ps := ps hh
      have e23 := e23 rm'
      clear rm rn
      generalize sp (rowO l o) = S at *
      generalize rowO l o = r at *
      obtain ⟨r1, r2, r3⟩ := r
      obtain ⟨sa, sb⟩ := S
      simp only [R3.cells, Sp.cells] at *
      have ho : ¬ o < 1 := by omega
      have c0 : (r1 == 0) = false := by simp; omega
      simp [-getElem?_pos, List.getElem?_cons_zero, lX, le, le', hm, hT, e19, e20', e16, e13, e21, e17, e22, e18, lS]
      rw [iter_count (fun k => { fr := [(1, .int .i64 o), (5, .ptr (.heap 1) none 0), (8, .box [.int .i64 r1, .int .i64 r2, .int .i64 r3]), (9, .int .i64 0), (10, .box [.int .i64 r1, .int .i64 r2, .int .i64 r3]), (11, .sl (.mu 3) l.length Z), (12, .sl (.mu 3) l.length Z), (13, .int .i64 k)], hp := HP, base := 0, dirty := false }) (.exit 0, { fr := [(1, .int .i64 o), (5, .ptr (.heap 1) none 0), (8, .box [.int .i64 r1, .int .i64 r2, .int .i64 r3]), (9, .int .i64 0), (10, .box [.int .i64 r1, .int .i64 r2, .int .i64 r3]), (11, .sl (.mu 3) l.length Z), (12, .sl (.mu 3) l.length Z), (13, .int .i64 l.length), (65, .bool false)], hp := HP, base := 0, dirty := false }) l.length]
      rotate_left
      · simp
      · omega
      · intro k hk
        have r := rS k hk
        have z : k * 3 + 3 ≤ l.length * 3 := by omega
        have w := wrap_id (x := (k : Int) + 1) (by omega)
        generalize SB[k]'(by omega) = x at *
        obtain ⟨o', a', b'⟩ := x
        simp only [R3.cells] at *
        simp [-getElem?_pos, List.getElem?_cons_zero, hk, lS, r, z, w, eqT24]
      · simp [lS]
      · simp
      simp [-getElem?_pos, List.getElem?_cons_zero, ho, c0, e16, e18, e23, eqT24, eqT36]
end Go.Proofs.Ytehemoachikpgaa
end
