/-
  What functions of this program compute, as equations about the evaluator. No condition but those stated.
-/
import Derived.Test.YtnccpffnffioeaaDoorEqsF

set_option linter.all false
section
namespace Go.PS
theorem flatE_at : ∀ (t : List Evt) (i : Nat) (h : i < t.length), ((flatE t).drop (i * 8)).take 8 = (t[i]).cells
  | e :: t, 0, _ => by simp [flatE, Evt.cells]
  | e :: t, i + 1, h => by
    have ih := flatE_at t i (by simpa using h)
    have e8 : flatE (e :: t) = e.cells ++ flatE t := rfl
    rw [e8, show (i + 1) * 8 = e.cells.length + i * 8 by rw [e.cells_len]; omega, List.drop_append]
    rw [List.drop_of_length_le (by omega), List.nil_append, Nat.add_sub_cancel_left]
    simpa using ih
end Go.PS
namespace Go.Proofs.YtnccpffnffioeaaDoor
open Go Go.PS
set_option maxHeartbeats 4000000 in
theorem f30 (n : Nat) (e : Evt) (hp : Heap) : evalCall Tryd.prog hints (n + 22) 30 [.agg e.cells, .agg e.cells] hp = some (.bool true, hp, false) := by
  have e51 := fun p => f51 (n + 18) p p hp
  rw [evalCall_at _ _ _ hh30 rfl Tryd.func30 rfl (Nat.le_of_ble_eq_true rfl) rfl]
  obtain ⟨k, c, b, z0, z1, z2, z3, d⟩ := e
  have e0 := e51 z0
  have e1 := e51 z1
  have e2 := e51 z2
  have e3 := e51 z3
  rw [sameC_self] at e0 e1 e2 e3
  clear e51
  have w0 := wrap_id (x := (1 : Int)) (by omega)
  have w1 := wrap_id (x := (2 : Int)) (by omega)
  have w2 := wrap_id (x := (3 : Int)) (by omega)
  have w3 := wrap_id (x := (4 : Int)) (by omega)
  simp [iter_one, Evt.cells, e0, e1, e2, e3, w0, w1, w2, w3]
set_option maxHeartbeats 4000000 in
theorem f14 (n : Nat) (t : List Evt) (A : PV) (hp : Heap) (hA : A = .sl .sh t.length (flatE t) ∨ ∃ j, A = .rf j t.length (flatE t)) (ht : t.length ≤ 3001) (hn : 5000 < n) : evalCall Tryd.prog hints (n + 23) 14 [A, .sl .sh t.length (flatE t)] hp = some (.bool true, hp, false) := by
  have e30 := fun e => f30 n e hp
  rw [evalCall_at _ _ _ hh14 rfl Tryd.func14 rfl (Nat.le_of_ble_eq_true rfl) rfl]
  have hl := flatE_len t
  have hat := flatE_at t
  rcases hA with rfl | ⟨j, rfl⟩
  · generalize flatE t = cs at *
    simp
    rw [iter_count (fun k => { fr := [(0, .sl .sh t.length cs), (1, .sl .sh t.length cs), (5, .int .i64 k)], hp := hp, base := hp.length, dirty := false })
      (.exit 0, { fr := [(0, .sl .sh t.length cs), (1, .sl .sh t.length cs), (5, .int .i64 t.length), (14, .bool false)], hp := hp, base := hp.length, dirty := false }) t.length]
    · simp
    · simp
    · omega
    · intro k hk
      have hk' : (k : Int) < t.length := by omega
      have w := wrap_id (x := (k : Int) + 1) (by omega)
      have h1 := hat k hk
      have h2 : k * 8 + 8 ≤ t.length * 8 := by omega
      have e30 := e30 (t[k])
      generalize t[k] = e at *
      obtain ⟨k', c', b', z0, z1, z2, z3, d'⟩ := e
      simp only [Evt.cells] at h1 e30
      simp [hk, hk', w, hl, h1, h2, e30]
    · simp
    · simp
  · generalize flatE t = cs at *
    simp
    rw [iter_count (fun k => { fr := [(0, .rf j t.length cs), (1, .sl .sh t.length cs), (5, .int .i64 k)], hp := hp, base := hp.length, dirty := false })
      (.exit 0, { fr := [(0, .rf j t.length cs), (1, .sl .sh t.length cs), (5, .int .i64 t.length), (14, .bool false)], hp := hp, base := hp.length, dirty := false }) t.length]
    · simp
    · simp
    · omega
    · intro k hk
      have hk' : (k : Int) < t.length := by omega
      have w := wrap_id (x := (k : Int) + 1) (by omega)
      have h1 := hat k hk
      have h2 : k * 8 + 8 ≤ t.length * 8 := by omega
      have e30 := e30 (t[k])
      generalize t[k] = e at *
      obtain ⟨k', c', b', z0, z1, z2, z3, d'⟩ := e
      simp only [Evt.cells] at h1 e30
      simp [hk, hk', w, hl, h1, h2, e30]
    · simp
    · simp
end Go.Proofs.YtnccpffnffioeaaDoor
end

section
namespace Go.PS
theorem RowsOf_len : ∀ {rs : List PV} {ts : List (List Evt)}, RowsOf rs ts → rs.length = ts.length
  | [], [], _ => rfl
  | _ :: _, _ :: _, h => by simp [RowsOf_len h.2]
  | [], _ :: _, h => h.elim
  | _ :: _, [], h => h.elim
theorem RowsR_len : ∀ {rs : List PV} {ts : List (List Evt)}, RowsR rs ts → rs.length = ts.length
  | [], [], _ => rfl
  | _ :: _, _ :: _, h => by simp [RowsR_len h.2]
  | [], _ :: _, h => h.elim
  | _ :: _, [], h => h.elim
theorem RowsOf_at : ∀ {rs : List PV} {ts : List (List Evt)} {i : Nat} {t : List Evt}, RowsOf rs ts → ts[i]? = some t → ∃ r, rs[i]? = some r ∧ RowOf r t
  | r :: _, _ :: _, 0, t, h, ht => ⟨r, rfl, by simp at ht; subst ht; exact h.1⟩
  | _ :: _, _ :: _, i + 1, t, h, ht => RowsOf_at (i := i) h.2 (by simpa using ht)
  | [], [], _, _, _, ht => by simp at ht
  | [], _ :: _, _, _, h, _ => h.elim
  | _ :: _, [], _, _, h, _ => h.elim
theorem RowsR_at : ∀ {rs : List PV} {ts : List (List Evt)} {i : Nat} {t : List Evt}, RowsR rs ts → ts[i]? = some t → ∃ r, rs[i]? = some r ∧ RowR r t
  | r :: _, _ :: _, 0, t, h, ht => ⟨r, rfl, by simp at ht; subst ht; exact h.1⟩
  | _ :: _, _ :: _, i + 1, t, h, ht => RowsR_at (i := i) h.2 (by simpa using ht)
  | [], [], _, _, _, ht => by simp at ht
  | [], _ :: _, _, _, h, _ => h.elim
  | _ :: _, [], _, _, h, _ => h.elim
end Go.PS
namespace Go.Proofs.YtnccpffnffioeaaDoor
open Go Go.PS
set_option maxHeartbeats 4000000 in
theorem f7 (n : Nat) (a : Abs) (r1 r2 : List PV) (hp : Heap) (h1 : RowsOf r1 a.ts) (h2 : RowsR r2 a.ts) (hps : a.ps.length ≤ 3001) (hts : a.ts.length ≤ 3001) (htl : ∀ t, t ∈ a.ts → t.length ≤ 3001) (hn : 5000 < n) : evalCall Tryd.prog hints (n + 24) 7 [.agg (scC a r1), .agg (scC a r2)] hp = some (.bool true, hp, false) := by
  have e14 := fun t A hA ht => f14 n t A hp hA ht hn
  rw [evalCall_at _ _ _ hh7 rfl Tryd.func7 rfl (Nat.le_of_ble_eq_true rfl) rfl]
  have l1 := RowsOf_len h1
  have l2 := RowsR_len h2
  obtain ⟨img, ps, ts, st⟩ := a
  simp only at h1 h2 hps hts htl l1 l2
  simp [scC, l1, l2]
  rw [iter_count (fun k => { fr := [(2, .box [.str img, .sl .sh ps.length (ps.map .str), .sl .sh ts.length r1]), (3, .box [.str img, .sl .sh ps.length (ps.map .str), .sl .sh ts.length r2]), (5, .int .i64 k)], hp := hp, base := hp.length, dirty := false })
    (.exit 0, { fr := [(2, .box [.str img, .sl .sh ps.length (ps.map .str), .sl .sh ts.length r1]), (3, .box [.str img, .sl .sh ps.length (ps.map .str), .sl .sh ts.length r2]), (5, .int .i64 ps.length), (34, .bool false)], hp := hp, base := hp.length, dirty := false }) ps.length]
  · simp
    rw [iter_count (fun k => { fr := [(2, .box [.str img, .sl .sh ps.length (ps.map .str), .sl .sh ts.length r1]), (3, .box [.str img, .sl .sh ps.length (ps.map .str), .sl .sh ts.length r2]), (6, .int .i64 k)], hp := hp, base := hp.length, dirty := false })
      (.exit 2, { fr := [(2, .box [.str img, .sl .sh ps.length (ps.map .str), .sl .sh ts.length r1]), (3, .box [.str img, .sl .sh ps.length (ps.map .str), .sl .sh ts.length r2]), (6, .int .i64 ts.length), (52, .bool false)], hp := hp, base := hp.length, dirty := false }) ts.length]
    · simp
    · simp
    · omega
    · intro k hk
      have hk' : (k : Int) < ts.length := by omega
      have w := wrap_id (x := (k : Int) + 1) (by omega)
      obtain ⟨t, ht⟩ : ∃ t, ts[k]? = some t := ⟨_, List.getElem?_eq_getElem hk⟩
      obtain ⟨a1, g1, q1⟩ := RowsOf_at h1 ht
      obtain ⟨a2, g2, q2⟩ := RowsR_at h2 ht
      have hlt := htl t (List.mem_of_getElem? ht)
      have e0 := e14 [] (.sl .sh 0 []) (.inl rfl) (by simp)
      simp only [flatE, List.flatMap_nil, List.length_nil] at e0
      rcases q1 with ⟨rfl, rfl⟩ | ⟨j, rfl⟩
      · rcases q2 with ⟨rfl, _⟩ | rfl
        · simp [-getElem?_pos, List.getElem?_cons_zero, List.getElem?_cons_succ, hk, hk', w, l1, l2, g1, g2, nilRow, e0]
        · simp [-getElem?_pos, List.getElem?_cons_zero, List.getElem?_cons_succ, hk, hk', w, l1, l2, g1, g2, nilRow, e0, flatE]
      · rcases q2 with ⟨rfl, rfl⟩ | rfl
        · have e := e14 [] (.rf j 0 []) (.inr ⟨j, rfl⟩) (by simp)
          simp only [flatE, List.flatMap_nil, List.length_nil] at e
          simp [-getElem?_pos, List.getElem?_cons_zero, List.getElem?_cons_succ, hk, hk', w, l1, l2, g1, g2, nilRow, e, flatE]
        · have e := e14 t (.rf j t.length (flatE t)) (.inr ⟨j, rfl⟩) hlt
          simp [-getElem?_pos, List.getElem?_cons_zero, List.getElem?_cons_succ, hk, hk', w, l1, l2, g1, g2, e]
    · simp
    · simp
  · simp
  · omega
  · intro k hk
    have hk' : (k : Int) < ps.length := by omega
    have w := wrap_id (x := (k : Int) + 1) (by omega)
    obtain ⟨p, hpk⟩ : ∃ p, ps[k]? = some p := ⟨_, List.getElem?_eq_getElem hk⟩
    have g := rows_get hpk
    simp [-getElem?_pos, List.getElem?_cons_zero, List.getElem?_cons_succ, -List.getElem?_map, hk, hk', w, g]
  · simp
  · simp
end Go.Proofs.YtnccpffnffioeaaDoor
end

section
namespace Go.PS
def sumE (ts : List (List Evt)) : Nat := (ts.map List.length).sum
theorem sumE_take (ts : List (List Evt)) (k : Nat) (t : List Evt) (h : ts[k]? = some t) : sumE (ts.take (k + 1)) = sumE (ts.take k) + t.length := by
  have hk := (List.getElem?_eq_some_iff.1 h).1
  rw [List.take_succ_eq_append_getElem hk]
  rw [List.getElem?_eq_getElem hk] at h
  cases h
  unfold sumE
  rw [List.map_append, List.sum_append_nat]; simp
theorem sumE_take_le (ts : List (List Evt)) (k : Nat) : sumE (ts.take k) ≤ sumE ts := by
  have e : sumE ts = sumE (ts.take k ++ ts.drop k) := by rw [List.take_append_drop]
  rw [e]
  unfold sumE
  rw [List.map_append, List.sum_append_nat]; omega
def printP (p : List UInt8) : List UInt8 := wProgram ++ [32] ++ hexP p ++ [10]
def printE (e : Evt) : List UInt8 := lineE e ++ [10]
def printT (t : List Evt) : List UInt8 := wTick ++ [10] ++ t.flatMap printE
def printI (s : List UInt8) : List UInt8 := wImage ++ [32] ++ hexP s ++ [10]
def printA (a : Abs) : List UInt8 := printI a.img ++ a.ps.flatMap printP ++ a.ts.flatMap printT
theorem fm_take {α : Type} (f : α → List UInt8) (l : List α) (k : Nat) (x : α) (h : l[k]? = some x) : (l.take (k + 1)).flatMap f = (l.take k).flatMap f ++ f x := by
  have hk := (List.getElem?_eq_some_iff.1 h).1
  rw [List.take_succ_eq_append_getElem hk]
  rw [List.getElem?_eq_getElem hk] at h
  cases h
  rw [List.flatMap_append]; simp
theorem fm_le {α : Type} (f : α → List UInt8) (l : List α) (k : Nat) : ((l.take k).flatMap f).length ≤ (l.flatMap f).length := by
  conv => rhs; rw [← List.take_append_drop k l]
  rw [List.flatMap_append, List.length_append]; omega
end Go.PS
namespace Go.Proofs.YtnccpffnffioeaaDoor
open Go Go.PS
set_option maxHeartbeats 4000000 in
theorem f15 (n : Nat) (a : Abs) (rows : List PV) (hp : Heap) (h1 : RowsOf rows a.ts) (hts : a.ts.length ≤ 3001) (hsum : sumE a.ts ≤ 3001) (hn : 5000 < n) : evalCall Tryd.prog hints (n + 1) 15 [.agg (scC a rows)] hp = some (.int .i64 (sumE a.ts), hp, false) := by
  rw [evalCall_at _ _ _ hh15 rfl Tryd.func15 rfl (Nat.le_of_ble_eq_true rfl) rfl]
  have l1 := RowsOf_len h1
  obtain ⟨img, ps, ts, st⟩ := a
  simp only at h1 hts l1 hsum ⊢
  simp [scC, l1]
  rw [iter_count (fun k => { fr := [(3, .int .i64 (sumE (ts.take k))), (7, .sl .sh ts.length rows), (8, .int .i64 ts.length), (9, .int .i64 k)], hp := hp, base := hp.length, dirty := false })
    (.exit 0, { fr := [(3, .int .i64 (sumE ts)), (7, .sl .sh ts.length rows), (8, .int .i64 ts.length), (9, .int .i64 ts.length), (10, .bool false)], hp := hp, base := hp.length, dirty := false }) ts.length]
  · simp
  · simp [sumE]
  · omega
  · intro k hk
    have hk' : (k : Int) < ts.length := by omega
    have w := wrap_id (x := (k : Int) + 1) (by omega)
    obtain ⟨t, ht⟩ : ∃ t, ts[k]? = some t := ⟨_, List.getElem?_eq_getElem hk⟩
    obtain ⟨a1, g1, q1⟩ := RowsOf_at h1 ht
    have hs := sumE_take ts k t ht
    have hle := sumE_take_le ts (k + 1)
    have w2 := wrap_id (x := (sumE (ts.take k) : Int) + t.length) (by omega)
    rw [hs]
    generalize sumE (ts.take k) = sk at *
    rcases q1 with ⟨rfl, rfl⟩ | ⟨j, rfl⟩
    · simp only [List.length_nil] at w2
      have w3 := wrap_id (x := (sk : Int)) (by omega)
      simp [-getElem?_pos, List.getElem?_cons_zero, List.getElem?_cons_succ, hk, hk', w, l1, g1, w3, nilRow]
    · simp [-getElem?_pos, List.getElem?_cons_zero, List.getElem?_cons_succ, hk, hk', w, l1, g1, w2]
  · simp
  · simp
end Go.Proofs.YtnccpffnffioeaaDoor
end

section
namespace Go.PS
theorem OkE.zero {e : Evt} (h : OkE e) : mayE e = true := h.may
theorem printT_nil : printT [] = [116, 105, 99, 107, 10] := rfl
end Go.PS
namespace Go.Proofs.YtnccpffnffioeaaDoor
open Go Go.PS
set_option maxHeartbeats 8000000 in
theorem f8 (n : Nat) (a : Abs) (rows : List PV) (hp : Heap) (h1 : RowsOf rows a.ts) (hps : a.ps.length ≤ 8) (hts : a.ts.length ≤ 3001) (hsum : sumE a.ts ≤ 3001) (hi : a.img.length ≤ 3000) (hpl : ∀ p, p ∈ a.ps → p.length ≤ 3000)
    (hok : ∀ t, t ∈ a.ts → ∀ e, e ∈ t → OkE e) (hlen : (printA a).length ≤ 3000) (hn : 5100 < n) : ∃ hp', evalCall Tryd.prog hints (n + 40) 8 [.agg (scC a rows)] hp = some (.tup [.str (printA a), .int .i64 0], hp', false) := by
  have e15 := f15 (n + 38) a rows hp h1 hts hsum (by omega)
  have e17 := fun s hp hs => f17 (n + 38) s hp hs (by omega)
  have e18 := fun e hp => f18 (n + 16) e hp
  have e19 := fun e hp h => f19 (n + 19) e hp h (by omega)
  rw [evalCall_at _ _ _ hh8 rfl Tryd.func8 rfl (Nat.le_of_ble_eq_true rfl) rfl]
  have l1 := RowsOf_len h1
  obtain ⟨img, ps, ts, st⟩ := a
  simp only at h1 hts l1 hsum hps hi hpl hok
  unfold printA at hlen ⊢
  simp only at hlen ⊢
  rw [List.length_append, List.length_append] at hlen
  simp only [scC, l1] at e15
  have c1 : ¬ ((8 : Int) < ps.length) := by omega
  have c2 : ¬ ((4096 : Int) < ts.length) := by omega
  have c3 : ¬ ((4096 : Int) < sumE ts) := by omega
  obtain ⟨hpI, eI⟩ := e17 img (hp ++ [.bld 55 5 []]) hi
  have lI := hexP_len img
  have hpi : printI img = [105, 109, 97, 103, 101, 32] ++ (hexP img ++ [10]) := by simp [printI, wImage]
  generalize hexP img = hI at *
  have lI2 : 6 + hI.length ≤ 9223372036854775807 := by omega
  have lI3 := sml (a := hI.length) (by omega)
  have lI4 : hI.length ≤ 140737488355321 := by omega
  simp [scC, l1, c1, c2, e15, c3, eI, lI2, lI3, lI4, bldOp, hp_get, hp_set]
  generalize hI0 : printI img = I at *
  have hI1 : 105 :: 109 :: 97 :: 103 :: 101 :: 32 :: (hI ++ [10]) = I := by rw [hpi]; rfl
  rw [hI1]
  clear eI lI2 lI3 lI4 hI1 hpi
  rw [iter_count (fun k => { fr := [(1, .box [.str img, .sl .sh ps.length (ps.map .str), .sl .sh ts.length rows]), (4, .bp hp.length), (33, .sl .sh ps.length (ps.map .str)), (34, .int .i64 ps.length), (35, .int .i64 k)], hp := hp ++ [.bld 55 5 (I ++ (ps.take k).flatMap printP)], base := hp.length, dirty := false })
    (.exit 0, { fr := [(1, .box [.str img, .sl .sh ps.length (ps.map .str), .sl .sh ts.length rows]), (4, .bp hp.length), (33, .sl .sh ps.length (ps.map .str)), (34, .int .i64 ps.length), (35, .int .i64 ps.length), (36, .bool false)], hp := hp ++ [.bld 55 5 (I ++ ps.flatMap printP)], base := hp.length, dirty := false }) ps.length]
  · have hIP : (I ++ ps.flatMap printP).length + (ts.flatMap printT).length ≤ 3000 := by rw [List.length_append]; omega
    rw [← List.append_assoc]
    generalize hIPe : I ++ ps.flatMap printP = IP at *
    simp
    rw [iter_count (fun k => { fr := [(4, .bp hp.length), (46, .sl .sh ts.length rows), (47, .int .i64 ts.length), (48, .int .i64 k)], hp := hp ++ [.bld 55 5 (IP ++ (ts.take k).flatMap printT)], base := hp.length, dirty := false })
      (.exit 2, { fr := [(4, .bp hp.length), (46, .sl .sh ts.length rows), (47, .int .i64 ts.length), (48, .int .i64 ts.length), (49, .bool false)], hp := hp ++ [.bld 55 5 (IP ++ ts.flatMap printT)], base := hp.length, dirty := false }) ts.length]
    · have hpos : 0 < (IP ++ ts.flatMap printT).length := by
        rw [← hIPe, ← hI0]
        simp [printI, wImage]
      have e20 : ∀ x : List UInt8, 0 < x.length → x = IP ++ ts.flatMap printT → True := fun _ _ _ => trivial
      generalize IP ++ ts.flatMap printT = out at *
      simp [bldOp, hp_get, hp_set, hpos]
    · simp
    · omega
    · intro k hk
      have hk' : (k : Int) < ts.length := by omega
      have w := wrap_id (x := (k : Int) + 1) (by omega)
      obtain ⟨t, ht⟩ : ∃ t, ts[k]? = some t := ⟨_, List.getElem?_eq_getElem hk⟩
      obtain ⟨a1, g1, q1⟩ := RowsOf_at h1 ht
      have hle := fm_le printT ts (k + 1)
      rw [fm_take printT ts k t ht] at hle ⊢
      have hokt := hok t (List.mem_of_getElem? ht)
      rw [List.length_append] at hle
      rw [← List.append_assoc]
      have hBl : (IP ++ (ts.take k).flatMap printT).length + (printT t).length ≤ 3000 := by rw [List.length_append]; omega
      generalize IP ++ (ts.take k).flatMap printT = B at *
      have hB5 : B.length ≤ 140737488355323 := by omega
      rcases q1 with ⟨rfl, rfl⟩ | ⟨j, rfl⟩
      · rw [printT_nil]
        simp [-getElem?_pos, List.getElem?_cons_zero, List.getElem?_cons_succ, hk, hk', w, l1, g1, nilRow, bldOp, hp_get, hp_set, hB5, iter_one]
      · have hat := flatE_at t
        have hfl := flatE_len t
        have htk : t.length ≤ 3001 := by
          have := sumE_take ts k t ht
          have := sumE_take_le ts (k + 1)
          omega
        have hpt : printT t = [116, 105, 99, 107, 10] ++ t.flatMap printE := rfl
        rw [hpt] at hBl ⊢
        rw [← List.append_assoc]
        rw [List.length_append] at hBl
        simp [-getElem?_pos, List.getElem?_cons_zero, List.getElem?_cons_succ, hk, hk', w, l1, g1, bldOp, hp_get, hp_set, hB5]
        generalize hC : B ++ [116, 105, 99, 107, 10] = C at *
        have hCl : C.length + (t.flatMap printE).length ≤ 3000 := by
          rw [← hC, List.length_append]; omega
        generalize flatE t = cs at *
        rw [iter_count (fun m => { fr := [(4, .bp hp.length), (46, .sl .sh ts.length rows), (47, .int .i64 ts.length), (48, .int .i64 k), (53, .rf j t.length cs), (54, .int .i64 t.length), (55, .int .i64 m)], hp := hp ++ [.bld 55 5 (C ++ (t.take m).flatMap printE)], base := hp.length, dirty := false })
          (.exit 4, { fr := [(4, .bp hp.length), (46, .sl .sh ts.length rows), (47, .int .i64 ts.length), (48, .int .i64 k), (53, .rf j t.length cs), (54, .int .i64 t.length), (55, .int .i64 t.length), (56, .bool false)], hp := hp ++ [.bld 55 5 (C ++ t.flatMap printE)], base := hp.length, dirty := false }) t.length]
        · simp [w]
          rw [← hC]
          simp
        · simp
        · omega
        · intro m hm
          have hm' : (m : Int) < t.length := by omega
          have w2 := wrap_id (x := (m : Int) + 1) (by omega)
          obtain ⟨e, he⟩ : ∃ e, t[m]? = some e := ⟨_, List.getElem?_eq_getElem hm⟩
          have hle := fm_le printE t (m + 1)
          rw [fm_take printE t m e he] at hle ⊢
          rw [List.length_append] at hle
          rw [← List.append_assoc]
          have oke := hokt e (List.mem_of_getElem? he)
          have hDl : (C ++ (t.take m).flatMap printE).length + (printE e).length ≤ 3000 := by rw [List.length_append]; omega
          generalize C ++ (t.take m).flatMap printE = D at *
          have e18 := e18 e (hp ++ [.bld 55 5 D])
          obtain ⟨hpE, e19⟩ := e19 e (hp ++ [.bld 55 5 D]) oke
          rw [oke.may] at e18
          have h1c := hat m hm
          have h2 : m * 8 + 8 ≤ t.length * 8 := by omega
          rw [List.getElem?_eq_getElem hm] at he
          have he2 : t[m] = e := by cases he; rfl
          rw [he2] at h1c
          have hpe : printE e = lineE e ++ [10] := rfl
          rw [hpe] at hDl ⊢
          generalize lineE e ++ [10] = ln at *
          obtain ⟨k', c', b', z0, z1, z2, z3, d'⟩ := e
          simp only [Evt.cells] at h1c e18 e19
          have s4 : D.length + ln.length ≤ 140737488355328 := by omega
          simp [-getElem?_pos, List.getElem?_cons_zero, List.getElem?_cons_succ, hm, hm', w2, hfl, h1c, h2, e18, e19, bldOp, hp_get, hp_set, s4]
        · simp
        · simp
    · simp
    · simp
  · simp
  · omega
  · intro k hk
    have hk' : (k : Int) < ps.length := by omega
    have w := wrap_id (x := (k : Int) + 1) (by omega)
    obtain ⟨p, hpk⟩ : ∃ p, ps[k]? = some p := ⟨_, List.getElem?_eq_getElem hk⟩
    have g := rows_get hpk
    have hle := fm_le printP ps (k + 1)
    rw [fm_take printP ps k p hpk] at hle ⊢
    rw [List.length_append] at hle
    rw [← List.append_assoc]
    have hBl : (I ++ (ps.take k).flatMap printP).length + (printP p).length ≤ 3000 := by rw [List.length_append]; omega
    generalize I ++ (ps.take k).flatMap printP = B at *
    obtain ⟨hpI, eI⟩ := e17 p (hp ++ [.bld 55 5 B]) (hpl p (List.mem_of_getElem? hpk))
    unfold printP at hBl ⊢
    generalize hexP p = hx at *
    simp only [wProgram, List.length_append, List.length_cons, List.length_nil] at hBl
    have s1 : 8 + hx.length ≤ 9223372036854775807 := by omega
    have s2 := sml (a := hx.length) (by omega)
    have s3 : B.length + (hx.length + 1 + 1 + 1 + 1 + 1 + 1 + 1 + 1 + 1) ≤ 140737488355328 := by omega
    simp [-getElem?_pos, List.getElem?_cons_zero, List.getElem?_cons_succ, -List.getElem?_map, hk, hk', w, g, eI, bldOp, hp_get, hp_set, s1, s2, s3, wProgram]
  · simp
  · simp
end Go.Proofs.YtnccpffnffioeaaDoor
end
