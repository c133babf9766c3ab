/-
  What functions of this program compute, as equations about the evaluator. No condition but those stated.
-/
import Derived.Test.YtnccpffnffioeaaDoorEqsD

set_option linter.all false
section
namespace Go.PS
def wImage : List UInt8 := [105, 109, 97, 103, 101]
def wProgram : List UInt8 := [112, 114, 111, 103, 114, 97, 109]
def wTick : List UInt8 := [116, 105, 99, 107]
/-- What was read so far: an image, programs, rows of ticks as they lie there, the state, how many events. -/
structure RdP where
  img : List UInt8
  ps : List (List UInt8)
  tp : Nat
  rows : List PV
  tr : Nat
  st : Nat
  ev : Nat
def RdP.cells (x : RdP) : List PV := [.str x.img, .sl (.mu x.tp) x.ps.length (x.ps.map .str), .sl (.mu x.tr) x.rows.length x.rows, .int .i64 x.st, .int .i64 x.ev]
structure RdP.ok (x : RdP) : Prop where
  tp : x.tp = 1 ∨ x.tp = 0 ∧ x.ps.length = 0
  tr : x.tr = 1 ∨ x.tr = 0 ∧ x.rows.length = 0
  ps : x.ps.length ≤ 3000
  rows : x.rows.length ≤ 3000
  ev : x.ev ≤ 3000
end Go.PS
namespace Go.Proofs.YtnccpffnffioeaaDoor
open Go Go.PS
set_option maxHeartbeats 4000000 in
theorem f10_0 (n : Nat) (l : List UInt8) (x : RdP) (R : Heap) (hl : l.length ≤ 3000) (hn : 5100 < n) (h0 : x.st = 0) :
    evalCall Tryd.prog hints (n + 12) 10 [.ptr (.heap 0) none 0, .str l] (.cells x.cells :: R) =
      if nth (splitL 32 l) 0 = wImage ∧ (splitL 32 l).length = 2 then (match unhexP (nth (splitL 32 l) 1) with
        | some b => some (.int .i64 0, .cells { x with img := b, st := 1 }.cells :: R, true)
        | none => some (.int .i64 3, .cells x.cells :: R, false))
      else some (.int .i64 3, .cells x.cells :: R, false) := by
  have e9 := fun hp => f9 (n + 10) l 32 hp hl
  have e22 := fun w h hp => f22 (n + 8) w hp h (by omega)
  have hm : ∀ w, w ∈ splitL 32 l → w.length ≤ 3000 := fun w h => Nat.le_trans (splitL_mem 32 l w h) hl
  rw [evalCall_at _ _ _ hh10 rfl Tryd.func10 rfl (Nat.le_of_ble_eq_true rfl) rfl]
  have hne := splitL_ne 32 l
  generalize splitL 32 l = ws at *
  obtain ⟨img, ps, tp, rows, tr, st, ev⟩ := x
  simp only at h0
  subst h0
  unfold RdP.cells
  simp only
  by_cases k1 : nth ws 0 = wImage ∧ ws.length = 2
  · rw [if_pos k1]
    obtain ⟨w0, w1, rfl⟩ := twoW k1.2
    have hw0 : w0 = wImage := k1.1
    subst hw0
    have e22 := fun hp => e22 w1 (hm w1 (by simp)) hp
    have hu : nth [wImage, w1] 1 = w1 := rfl
    rw [hu]
    unfold uh at e22
    simp only [wImage, List.map_cons, List.map_nil, List.length_cons, List.length_nil] at e9
    cases hw : unhexP w1 with
    | none =>
      rw [hw] at e22
      simp [e9, e22]
    | some b =>
      rw [hw] at e22
      simp [e9, e22]
  · rw [if_neg k1]
    obtain ⟨w0, r, rfl⟩ : ∃ w0 r, ws = w0 :: r := by
      cases ws with
      | nil => exact (hne rfl).elim
      | cons w0 r => exact ⟨w0, r, rfl⟩
    simp only [List.map_cons, List.length_cons] at e9
    have f1 : w0 = wImage → r.length ≠ 1 := fun h h2 => k1 ⟨h, by simp [h2]⟩
    by_cases c1 : w0 = wImage
    · have l3 : ((r.length : Int) + 1 == 2) = false := by
        have := f1 c1
        simp only [beq_eq_false_iff_ne, ne_eq]; omega
      subst c1
      simp only [wImage] at e9
      simp [e9, l3]
    · have c1' : (w0 == [105, 109, 97, 103, 101]) = false := by simpa [wImage] using c1
      simp [e9, c1']
end Go.Proofs.YtnccpffnffioeaaDoor
end

section
namespace Go.Proofs.YtnccpffnffioeaaDoor
open Go Go.PS
set_option maxHeartbeats 4000000 in
theorem f10_1 (n : Nat) (l : List UInt8) (x : RdP) (R : Heap) (hx : x.ok) (hl : l.length ≤ 3000) (hn : 5100 < n) (h0 : x.st = 1) (ht : l ≠ wTick) :
    evalCall Tryd.prog hints (n + 12) 10 [.ptr (.heap 0) none 0, .str l] (.cells x.cells :: R) =
      if nth (splitL 32 l) 0 = wProgram ∧ (splitL 32 l).length = 2 then (match unhexP (nth (splitL 32 l) 1) with
        | some b => if x.ps.length = 8 then some (.int .i64 4, .cells x.cells :: R, false) else some (.int .i64 0, .cells { x with ps := x.ps ++ [b], tp := 1 }.cells :: R, true)
        | none => some (.int .i64 3, .cells x.cells :: R, false))
      else some (.int .i64 3, .cells x.cells :: R, false) := by
  have e9 := fun hp => f9 (n + 10) l 32 hp hl
  have e22 := fun w h hp => f22 (n + 8) w hp h (by omega)
  have hm : ∀ w, w ∈ splitL 32 l → w.length ≤ 3000 := fun w h => Nat.le_trans (splitL_mem 32 l w h) hl
  rw [evalCall_at _ _ _ hh10 rfl Tryd.func10 rfl (Nat.le_of_ble_eq_true rfl) rfl]
  have hne := splitL_ne 32 l
  generalize splitL 32 l = ws at *
  have htp := hx.tp
  have hps := hx.ps
  obtain ⟨img, ps, tp, rows, tr, st, ev⟩ := x
  simp only at h0 htp hps
  subst h0
  unfold RdP.cells
  simp only
  have ht' : (l == [116, 105, 99, 107]) = false := by simpa [wTick] using ht
  by_cases k1 : nth ws 0 = wProgram ∧ ws.length = 2
  · rw [if_pos k1]
    obtain ⟨w0, w1, rfl⟩ := twoW k1.2
    have hw0 : w0 = wProgram := k1.1
    subst hw0
    have e22 := fun hp => e22 w1 (hm w1 (by simp)) hp
    have hu : nth [wProgram, w1] 1 = w1 := rfl
    rw [hu]
    unfold uh at e22
    simp only [wProgram, List.map_cons, List.map_nil, List.length_cons, List.length_nil] at e9
    cases hw : unhexP w1 with
    | none =>
      rw [hw] at e22
      simp [e9, e22]
    | some b =>
      rw [hw] at e22
      by_cases c8 : ps.length = 8
      · have c8' : (ps.length : Int) = 8 := by omega
        simp [e9, e22, c8, c8']
      · have c8' : ((ps.length : Int) == 8) = false := by simp; omega
        have ls : (ps.length + 1) * 16 ≤ 140737488355328 := by omega
        have htp' : tp = 1 ∨ tp = 0 ∧ ps = [] := by
          rcases htp with h | ⟨h, h2⟩
          · exact .inl h
          · exact .inr ⟨h, List.eq_nil_of_length_eq_zero h2⟩
        simp [e9, e22, c8, c8', ls, htp, htp']
  · rw [if_neg k1]
    obtain ⟨w0, r, rfl⟩ : ∃ w0 r, ws = w0 :: r := by
      cases ws with
      | nil => exact (hne rfl).elim
      | cons w0 r => exact ⟨w0, r, rfl⟩
    simp only [List.map_cons, List.length_cons] at e9
    have f1 : w0 = wProgram → r.length ≠ 1 := fun h h2 => k1 ⟨h, by simp [h2]⟩
    by_cases c1 : w0 = wProgram
    · have l3 : ((r.length : Int) + 1 == 2) = false := by
        have := f1 c1
        simp only [beq_eq_false_iff_ne, ne_eq]; omega
      subst c1
      simp only [wProgram] at e9
      simp [e9, l3, ht']
    · have c1' : (w0 == [112, 114, 111, 103, 114, 97, 109]) = false := by simpa [wProgram] using c1
      simp [e9, c1', ht']
set_option maxHeartbeats 4000000 in
theorem f10_t (n : Nat) (x : RdP) (R : Heap) (hx : x.ok) (hn : 5100 < n) (h0 : x.st = 1 ∨ x.st = 2) :
    evalCall Tryd.prog hints (n + 12) 10 [.ptr (.heap 0) none 0, .str wTick] (.cells x.cells :: R) =
      some (.int .i64 0, .cells { x with rows := x.rows ++ [PV.sl (.mu 0) 0 []], tr := 1, st := 2 }.cells :: R, true) := by
  have e9 := fun hp => f9 (n + 10) wTick 32 hp (by decide)
  have hws : splitL 32 wTick = [wTick] := by decide
  rw [hws] at e9
  simp only [wTick, List.map_cons, List.map_nil, List.length_cons, List.length_nil] at e9
  rw [evalCall_at _ _ _ hh10 rfl Tryd.func10 rfl (Nat.le_of_ble_eq_true rfl) rfl]
  have htr := hx.tr
  have hrows := hx.rows
  obtain ⟨img, ps, tp, rows, tr, st, ev⟩ := x
  simp only at h0 htr hrows
  unfold RdP.cells
  simp only [wTick]
  have c8' : ((rows.length : Int) == 4096) = false := by simp; omega
  have ls : (rows.length + 1) * 24 ≤ 140737488355328 := by omega
  have htr' : tr = 1 ∨ tr = 0 ∧ rows = [] := by
    rcases htr with h | ⟨h, h2⟩
    · exact .inl h
    · exact .inr ⟨h, List.eq_nil_of_length_eq_zero h2⟩
  rcases h0 with rfl | rfl
  · simp [e9, c8', ls, htr, htr']
  · simp [e9, c8', ls, htr, htr']
end Go.Proofs.YtnccpffnffioeaaDoor
end

section
namespace Go.PS
def alive (R : Heap) (i : Nat) : Bool := rowAlive R i
theorem ra_cells (c : List PV) (R : Heap) (i : Nat) : rowAlive (.cells c :: R) i = alive R i := by simp [rowAlive, alive]
theorem splice_last (pre : List PV) (a b : PV) : splice (pre ++ [a]) pre.length [b] = pre ++ [b] := by
  rw [splice_cons, splice_nil]; simp
theorem get_last (pre : List PV) (a : PV) : (pre ++ [a])[pre.length]? = some a := by simp
theorem Evt.cells_len (e : Evt) : e.cells.length = 8 := rfl
theorem Evt.cells_st (e : Evt) : e.cells.all storable = true := rfl
theorem Evt.cells_out (e : Evt) : e.cells.map outNil = e.cells := rfl
end Go.PS
namespace Go.Proofs.YtnccpffnffioeaaDoor
open Go Go.PS
set_option maxHeartbeats 4000000 in
theorem f10_2 (n : Nat) (l : List UInt8) (x : RdP) (R : Heap) (pre : List PV) (last : PV) (hx : x.ok) (hl : l.length ≤ 3000) (hn : 5100 < n) (h0 : x.st = 2) (ht : l ≠ wTick) (htr : x.tr = 1) (hr : x.rows = pre ++ [last])
    (k j : Nat) (cs : List PV) (p : Option Nat) (new : PV) (nd : PS.Node) (hlast : (last = .sl (.mu 0) 0 [] ∧ new = .rf (R.length + 1) 1 (evE (splitL 32 l)).1.cells ∧ nd = .row 8 1 none) ∨
      (last = .rf (j + 1) k cs ∧ R[j]? = some (.row 8 k p) ∧ cs.length = k * 8 ∧ alive R (j + 1) = true ∧ k ≤ 3000 ∧ new = .rf (R.length + 1) (k + 1) (cs ++ (evE (splitL 32 l)).1.cells) ∧ nd = .row 8 (k + 1) (some (j + 1)))) :
    evalCall Tryd.prog hints (n + 12) 10 [.ptr (.heap 0) none 0, .str l] (.cells x.cells :: R) =
      if (evE (splitL 32 l)).2 = true then some (.int .i64 0, .cells { x with rows := pre ++ [new], ev := x.ev + 1 }.cells :: (R ++ [nd]), true)
      else some (.int .i64 3, .cells x.cells :: R, false) := by
  have e9 := fun hp => f9 (n + 10) l 32 hp hl
  have hm : ∀ w, w ∈ splitL 32 l → w.length ≤ 3000 := fun w h => Nat.le_trans (splitL_mem 32 l w h) hl
  have hne := splitL_ne 32 l
  have e23 := fun hp => f23 (n + 1) (splitL 32 l) hp hm hne (by omega)
  rw [evalCall_at _ _ _ hh10 rfl Tryd.func10 rfl (Nat.le_of_ble_eq_true rfl) rfl]
  have htp := hx.tp
  have hev := hx.ev
  have hrows := hx.rows
  obtain ⟨img, ps, tp, rows, tr, st, ev⟩ := x
  simp only at h0 htp hr htr hev hrows
  subst h0 hr htr
  unfold RdP.cells
  simp only
  have ht' : (l == [116, 105, 99, 107]) = false := by simpa [wTick] using ht
  generalize (evE (splitL 32 l)).1 = e at *
  generalize (evE (splitL 32 l)).2 = eb at *
  generalize (splitL 32 l).map PV.str = sws at *
  generalize (splitL 32 l).length = L at *
  obtain ⟨k', c', b', z0, z1, z2, z3, d'⟩ := e
  simp only [Evt.cells] at e23 hlast ⊢
  cases eb
  · simp [e9, e23, ht']
  · have c8' : ((ev : Int) == 4096) = false := by simp; omega
    have w1 := wrap_id (x := (ev : Int) + 1) (by omega)
    have w2 := wrap_id (x := (pre.length : Int)) (by simp at hrows; omega)
    have lp : (pre.length : Int) < (pre.length : Int) + 1 := by omega
    rcases hlast with ⟨rfl, rfl, rfl⟩ | ⟨rfl, hj, hcs, hal, hk, rfl, rfl⟩
    · simp [-getElem?_pos, List.getElem?_cons_zero, List.getElem?_cons_succ, e9, e23, ht', c8', w1, w2, appendNest, get_last, splice_last, lp]
    · have lk : (k + 1) * 104 ≤ 140737488355328 := by omega
      simp [-getElem?_pos, List.getElem?_cons_zero, List.getElem?_cons_succ, e9, e23, ht', c8', w1, w2, appendNest, get_last, splice_last, lp, hj, hcs, hal, ra_cells, lk]
end Go.Proofs.YtnccpffnffioeaaDoor
end

section
namespace Go.PS
structure Abs where
  img : List UInt8
  ps : List (List UInt8)
  ts : List (List Evt)
  st : Nat
def addLast (ts : List (List Evt)) (e : Evt) : List (List Evt) := ts.dropLast ++ [ts.getLastD [] ++ [e]]
theorem addLast_app (pre : List (List Evt)) (t : List Evt) (e : Evt) : addLast (pre ++ [t]) e = pre ++ [t ++ [e]] := by simp [addLast]
/-- A line is read. -/
def stepL (a : Abs) (l : List UInt8) : Abs × Nat :=
  if a.st = 0 then
    (if nth (splitL 32 l) 0 = wImage ∧ (splitL 32 l).length = 2 then (match unhexP (nth (splitL 32 l) 1) with
      | some b => ({ a with img := b, st := 1 }, 0)
      | none => (a, 3)) else (a, 3))
  else if l = wTick then ({ a with ts := a.ts ++ [[]], st := 2 }, 0)
  else if a.st = 1 then
    (if nth (splitL 32 l) 0 = wProgram ∧ (splitL 32 l).length = 2 then (match unhexP (nth (splitL 32 l) 1) with
      | some b => if a.ps.length = 8 then (a, 4) else ({ a with ps := a.ps ++ [b] }, 0)
      | none => (a, 3)) else (a, 3))
  else (if (evE (splitL 32 l)).2 = true then ({ a with ts := addLast a.ts (evE (splitL 32 l)).1 }, 0) else (a, 3))
def flatE (t : List Evt) : List PV := t.flatMap Evt.cells
def nilRow : PV := .sl (.mu 0) 0 []
def RowOf (r : PV) (t : List Evt) : Prop := (r = nilRow ∧ t = []) ∨ ∃ j, r = .rf j t.length (flatE t)
def RowsOf : List PV → List (List Evt) → Prop
  | [], [] => True
  | r :: rs, t :: ts => RowOf r t ∧ RowsOf rs ts
  | _, _ => False
def LastOf (R : Heap) (r : PV) (t : List Evt) : Prop := (r = nilRow ∧ t = []) ∨ ∃ j p, r = .rf (j + 1) t.length (flatE t) ∧ R[j]? = some (.row 8 t.length p) ∧ alive R (j + 1) = true
theorem RowsOf_app : ∀ {rs : List PV} {ts : List (List Evt)} {r : PV} {t : List Evt}, RowsOf rs ts → RowOf r t → RowsOf (rs ++ [r]) (ts ++ [t])
  | [], [], _, _, _, h => ⟨h, trivial⟩
  | _ :: rs, _ :: ts, _, _, h, h' => ⟨h.1, RowsOf_app h.2 h'⟩
  | [], _ :: _, _, _, h, _ => h.elim
  | _ :: _, [], _, _, h, _ => h.elim
theorem LastOf.row {R : Heap} {r : PV} {t : List Evt} (h : LastOf R r t) : RowOf r t := by
  rcases h with h | ⟨j, p, h, _⟩
  · exact .inl h
  · exact .inr ⟨_, h⟩
theorem flatE_len : ∀ t : List Evt, (flatE t).length = t.length * 8
  | [] => rfl
  | e :: t => by
    have := flatE_len t
    simp only [flatE, List.flatMap_cons, List.length_append, List.length_cons] at this ⊢
    rw [this, e.cells_len]; omega
theorem flatE_app (t : List Evt) (e : Evt) : flatE (t ++ [e]) = flatE t ++ e.cells := by simp [flatE]
/-- Which storage has taken which one's place: older ones alone. -/
def parOK (R : Heap) : Prop := ∀ s n i, PS.Node.row s n (some i) ∈ R → i ≤ R.length
structure Rep (a : Abs) (x : RdP) (R : Heap) (i : Nat) : Prop where
  img : x.img = a.img
  ps : x.ps = a.ps
  st : x.st = a.st
  le : a.st ≤ 2
  tp : x.tp = 1 ∨ x.tp = 0 ∧ x.ps.length = 0
  tr : x.tr = 1 ∨ x.tr = 0 ∧ x.rows.length = 0
  bps : x.ps.length ≤ i
  brows : x.rows.length ≤ i
  bev : x.ev ≤ i
  two : a.st = 2 → ∃ pre last tpre t, x.rows = pre ++ [last] ∧ a.ts = tpre ++ [t] ∧ RowsOf pre tpre ∧ LastOf R last t ∧ x.tr = 1 ∧ t.length ≤ i
  one : a.st ≠ 2 → a.ts = [] ∧ x.rows = []
  par : parOK R
theorem Rep.ok {a : Abs} {x : RdP} {R : Heap} {i : Nat} (h : Rep a x R i) (hi : i ≤ 3000) : x.ok :=
  ⟨h.tp, h.tr, Nat.le_trans h.bps hi, Nat.le_trans h.brows hi, Nat.le_trans h.bev hi⟩
theorem alive_new {R : Heap} {nd : PS.Node} (hp : parOK R) (h : ∀ s n i, nd = .row s n (some i) → i ≤ R.length) : alive (R ++ [nd]) (R.length + 1) = true := by
  unfold alive rowAlive
  rw [List.all_eq_true]
  intro x hx
  rw [List.mem_append, List.mem_singleton] at hx
  cases x with
  | row s n par =>
    cases par with
    | none => rfl
    | some i =>
      have : i ≤ R.length := by
        rcases hx with hx | hx
        · exact hp s n i hx
        · exact h s n i hx.symm
      simp; omega
  | _ => rfl
theorem parOK_new {R : Heap} {nd : PS.Node} (hp : parOK R) (h : ∀ s n i, nd = .row s n (some i) → i ≤ R.length) : parOK (R ++ [nd]) := by
  intro s n i hx
  rw [List.mem_append, List.mem_singleton] at hx
  rw [List.length_append]
  rcases hx with hx | hx
  · have := hp s n i hx; omega
  · have := h s n i hx.symm; omega
end Go.PS
namespace Go.Proofs.YtnccpffnffioeaaDoor
open Go Go.PS
theorem step10 (n : Nat) (l : List UInt8) (a : Abs) (x : RdP) (R : Heap) (i : Nat) (h : Rep a x R i) (hi : i ≤ 3000) (hl : l.length ≤ 3000) (hn : 5100 < n) :
    ∃ x' R', evalCall Tryd.prog hints (n + 12) 10 [.ptr (.heap 0) none 0, .str l] (.cells x.cells :: R) = some (.int .i64 (stepL a l).2, .cells x'.cells :: R', decide ((stepL a l).2 = 0)) ∧
      ((stepL a l).2 = 0 → Rep (stepL a l).1 x' R' (i + 1)) := by
  have hx := h.ok hi
  have hst := h.st
  have hle := h.le
  generalize hr : stepL a l = r
  unfold stepL at hr
  by_cases s0 : a.st = 0
  · rw [if_pos s0] at hr
    have e := f10_0 n l x R hl hn (by omega)
    have h1 := h.one (by omega)
    by_cases k1 : nth (splitL 32 l) 0 = wImage ∧ (splitL 32 l).length = 2
    · rw [if_pos k1] at e hr
      cases hu : unhexP (nth (splitL 32 l) 1) with
      | none =>
        rw [hu] at e hr
        subst hr
        exact ⟨x, R, e, fun h => by cases h⟩
      | some b =>
        rw [hu] at e hr
        subst hr
        refine ⟨_, R, e, fun _ => ⟨rfl, h.ps, rfl, ?_, h.tp, h.tr, Nat.le_succ_of_le h.bps, Nat.le_succ_of_le h.brows, Nat.le_succ_of_le h.bev, ?_, fun _ => h1, h.par⟩⟩
        · show 1 ≤ 2; omega
        · intro h2; cases h2
    · rw [if_neg k1] at e hr
      subst hr
      exact ⟨x, R, e, fun h => by cases h⟩
  · rw [if_neg s0] at hr
    by_cases ht : l = wTick
    · rw [if_pos ht] at hr
      subst ht
      subst hr
      have e := f10_t n x R hx hn (by omega)
      refine ⟨_, R, e, fun _ => ⟨h.img, h.ps, rfl, Nat.le_refl _, h.tp, .inl rfl, Nat.le_succ_of_le h.bps, ?_, Nat.le_succ_of_le h.bev, fun _ => ?_, fun h2 => (h2 rfl).elim, h.par⟩⟩
      · show (x.rows ++ [_]).length ≤ i + 1
        have := h.brows
        rw [List.length_append]; simp only [List.length_cons, List.length_nil]; omega
      · refine ⟨x.rows, nilRow, a.ts, [], rfl, rfl, ?_, .inl ⟨rfl, rfl⟩, rfl, Nat.zero_le _⟩
        by_cases s2 : a.st = 2
        · obtain ⟨pre, last, tpre, t, h1, h2, h3, h4, _⟩ := h.two s2
          rw [h1, h2]
          exact RowsOf_app h3 h4.row
        · have := h.one s2
          rw [this.1, this.2]; trivial
    · rw [if_neg ht] at hr
      by_cases s1 : a.st = 1
      · rw [if_pos s1] at hr
        have e := f10_1 n l x R hx hl hn (by omega) ht
        have h1 := h.one (by omega)
        by_cases k1 : nth (splitL 32 l) 0 = wProgram ∧ (splitL 32 l).length = 2
        · rw [if_pos k1] at e hr
          cases hu : unhexP (nth (splitL 32 l) 1) with
          | none =>
            rw [hu] at e hr
            subst hr
            exact ⟨x, R, e, fun h => by cases h⟩
          | some b =>
            rw [hu] at e hr
            simp only at e hr
            have hps := h.ps
            by_cases c8 : x.ps.length = 8
            · rw [if_pos c8] at e
              rw [if_pos (by rw [← hps]; exact c8)] at hr
              subst hr
              exact ⟨x, R, e, fun h => by cases h⟩
            · rw [if_neg c8] at e
              rw [if_neg (by rw [← hps]; exact c8)] at hr
              subst hr
              refine ⟨_, R, e, fun _ => ⟨h.img, ?_, h.st, h.le, .inl rfl, h.tr, ?_, Nat.le_succ_of_le h.brows, Nat.le_succ_of_le h.bev, fun h2 => ?_, fun _ => h1, h.par⟩⟩
              · show x.ps ++ [b] = a.ps ++ [b]
                rw [hps]
              · show (x.ps ++ [b]).length ≤ i + 1
                have := h.bps
                rw [List.length_append]; simp only [List.length_cons, List.length_nil]; omega
              · have h2 : a.st = 2 := h2
                omega
        · rw [if_neg k1] at e hr
          subst hr
          exact ⟨x, R, e, fun h => by cases h⟩
      · rw [if_neg s1] at hr
        have s2 : a.st = 2 := by omega
        obtain ⟨pre, last, tpre, t, h1, h2, h3, h4, h5, h6⟩ := h.two s2
        have key : ∀ (k j : Nat) (cs : List PV) (p : Option Nat) (new : PV) (nd : PS.Node) (q : Option Nat), ((last = .sl (.mu 0) 0 [] ∧ new = .rf (R.length + 1) 1 (evE (splitL 32 l)).1.cells ∧ nd = .row 8 1 none) ∨
            (last = .rf (j + 1) k cs ∧ R[j]? = some (.row 8 k p) ∧ cs.length = k * 8 ∧ alive R (j + 1) = true ∧ k ≤ 3000 ∧ new = .rf (R.length + 1) (k + 1) (cs ++ (evE (splitL 32 l)).1.cells) ∧ nd = .row 8 (k + 1) (some (j + 1)))) →
            (∀ s n i, nd = .row s n (some i) → i ≤ R.length) → nd = .row 8 (t.length + 1) q → new = .rf (R.length + 1) (t.length + 1) (flatE t ++ (evE (splitL 32 l)).1.cells) →
            ∃ x' R', evalCall Tryd.prog hints (n + 12) 10 [.ptr (.heap 0) none 0, .str l] (.cells x.cells :: R) = some (.int .i64 r.2, .cells x'.cells :: R', decide (r.2 = 0)) ∧ (r.2 = 0 → Rep r.1 x' R' (i + 1)) := by
          intro k j cs p new nd q hd hpar hnd hnew
          have e := f10_2 n l x R pre last hx hl hn (by omega) ht h5 h1 k j cs p new nd hd
          cases he : (evE (splitL 32 l)).2 with
          | false =>
            rw [he] at e hr
            subst hr
            exact ⟨x, R, e, fun h => by cases h⟩
          | true =>
            rw [he] at e hr
            subst hr
            have hbr := h.brows
            rw [h1] at hbr
            refine ⟨_, _, e, fun _ => ⟨h.img, h.ps, h.st, h.le, h.tp, .inl h5, Nat.le_succ_of_le h.bps, ?_, ?_, fun _ => ?_, fun h => (h s2).elim, parOK_new h.par hpar⟩⟩
            · show (pre ++ [new]).length ≤ i + 1
              rw [List.length_append] at hbr ⊢
              simp only [List.length_cons, List.length_nil] at hbr ⊢; omega
            · show x.ev + 1 ≤ i + 1
              have := h.bev; omega
            · refine ⟨pre, new, tpre, t ++ [(evE (splitL 32 l)).1], rfl, ?_, h3, .inr ⟨R.length, q, ?_, ?_, alive_new h.par hpar⟩, h5, ?_⟩
              · show addLast a.ts _ = _
                rw [h2, addLast_app]
              · rw [hnew, flatE_app, List.length_append]; rfl
              · rw [List.getElem?_append_right (Nat.le_refl _), Nat.sub_self, List.length_append]
                exact congrArg some hnd
              · rw [List.length_append]; simp only [List.length_cons, List.length_nil]; omega
        rcases h4 with ⟨rfl, rfl⟩ | ⟨j, p, rfl, hj, hal⟩
        · exact key 0 0 [] none _ _ none (.inl ⟨rfl, rfl, rfl⟩) (fun s n i h => by cases h) rfl rfl
        · refine key t.length j (flatE t) p _ _ (some (j + 1)) (.inr ⟨rfl, hj, flatE_len t, hal, by omega, rfl, rfl⟩) (fun s n i h => ?_) rfl rfl
          cases h
          have := (List.getElem?_eq_some_iff.1 hj).1
          omega
end Go.Proofs.YtnccpffnffioeaaDoor
end

section
namespace Go.PS
def A0 : Abs := ⟨[], [], [], 0⟩
/-- Lines are read, up to the first that is wrong: which one, and why. -/
def runL : Abs → Nat → List (List UInt8) → Abs × Nat × Nat
  | a, _, [] => (a, 0, 0)
  | a, i, l :: r => if (stepL a l).2 = 0 then runL (stepL a l).1 (i + 1) r else (a, i + 1, (stepL a l).2)
def parseL (s : List UInt8) : Abs × Nat × Nat :=
  let r := runL A0 0 (splitL 10 s).dropLast
  if r.2.2 ≠ 0 then r else if (splitL 10 s).getLastD [] ≠ [] ∨ r.1.st = 0 then (r.1, (splitL 10 s).length, 3) else (r.1, 0, 0)
def scC (a : Abs) (rows : List PV) : List PV := [.str a.img, .sl .sh a.ps.length (a.ps.map .str), .sl .sh rows.length rows]
def sc0 : List PV := [.str [], .sl .sh 0 [], .sl .sh 0 []]
structure StP where
  i : Nat
  a : Abs
  x : RdP
  R : Heap
  d : Bool
theorem rep0 : Rep A0 ⟨[], [], 0, [], 0, 0, 0⟩ [] 0 := ⟨rfl, rfl, rfl, Nat.zero_le _, .inr ⟨rfl, rfl⟩, .inr ⟨rfl, rfl⟩, Nat.le_refl _, Nat.le_refl _, Nat.le_refl _, (fun h => by cases h), fun _ => ⟨rfl, rfl⟩, (fun s n i h => by cases h)⟩
theorem rows_get {ws : List (List UInt8)} {i : Nat} {l : List UInt8} (h : ws[i]? = some l) : (ws.map PV.str)[i]? = some (.str l) := by simp [h]
end Go.PS
namespace Go.Proofs.YtnccpffnffioeaaDoor
open Go Go.PS
set_option maxHeartbeats 4000000 in
theorem f5 (n : Nat) (s : List UInt8) (hs : s.length ≤ 3000) (hn : 5200 < n) :
    ∃ rows, fstR (evalCall Tryd.prog hints (n + 13) 5 [.str s] []) = some (.tup [.agg (if (parseL s).2.2 = 0 then scC (parseL s).1 rows else sc0), .int .i64 (parseL s).2.1, .int .i64 (parseL s).2.2]) ∧ ((parseL s).2.2 = 0 → RowsOf rows (parseL s).1.ts) := by
  have e9 := fun hp => f9 (n + 11) s 10 hp hs
  have e10 := fun l a x R i h hi hl => step10 n l a x R i h hi hl (by omega)
  rw [evalCall_at _ _ _ hh5 rfl Tryd.func5 rfl (Nat.le_of_ble_eq_true rfl) rfl]
  have hm : ∀ w, w ∈ splitL 10 s → w.length ≤ 3000 := fun w h => Nat.le_trans (splitL_mem 10 s w h) hs
  have hne := splitL_ne 10 s
  have hlen := splitL_len 10 s
  generalize hq : parseL s = q
  unfold parseL at hq
  generalize splitL 10 s = ws at *
  obtain ⟨ls, la, rfl⟩ : ∃ ls la, ws = ls ++ [la] := ⟨ws.dropLast, ws.getLast hne, (List.dropLast_concat_getLast hne).symm⟩
  rw [List.dropLast_concat] at hq
  have hgl : (ls ++ [la]).getLastD [] = la := by simp
  rw [hgl] at hq
  have hl : (ls ++ [la]).length = ls.length + 1 := by simp
  rw [hl] at e9 hlen hq
  have hL : ls.length ≤ 3000 := by omega
  have hmap : (ls ++ [la]).map PV.str = ls.map .str ++ [.str la] := by simp
  rw [hmap] at e9
  have w1 := wrap_id (x := (ls.length : Int)) (by omega)
  have le1 : (ls.length : Int) ≤ (ls.length : Int) + 1 := by omega
  simp [e9, w1, le1]
  generalize hit : iter _ _ _ = r
  refine iter_elim hit (fun x : StP => { fr := [(2, .box [.str [], .sl (.mu 0) 0 [], .sl (.mu 0) 0 []]), (5, .ptr (.heap 0) none 0), (6, .sl (.mu 1) (ls.length + 1) (ls.map .str ++ [.str la])), (7, .int .i64 ls.length), (20, .vw (.slot 6) none 0 1 ls.length), (21, .int .i64 ls.length), (22, .int .i64 x.i)], hp := .cells x.x.cells :: x.R, base := 0, dirty := x.d })
    (fun x => Rep x.a x.x x.R x.i ∧ x.i ≤ ls.length ∧ runL A0 0 ls = runL x.a x.i (ls.drop x.i)) (fun x => ls.length - x.i)
    (fun x : StP × Nat => if x.2 = 0 then (.exit 0, { fr := [(2, .box [.str [], .sl (.mu 0) 0 [], .sl (.mu 0) 0 []]), (5, .ptr (.heap 0) none 0), (6, .sl (.mu 1) (ls.length + 1) (ls.map .str ++ [.str la])), (7, .int .i64 ls.length), (20, .vw (.slot 6) none 0 1 ls.length), (21, .int .i64 ls.length), (22, .int .i64 ls.length), (23, .bool false)], hp := .cells x.1.x.cells :: x.1.R, base := 0, dirty := x.1.d })
      else (.ret, { fr := [(2, .box [.str [], .sl (.mu 0) 0 [], .sl (.mu 0) 0 []]), (3, .int .i64 x.1.i), (4, .int .i64 x.2)], hp := .cells x.1.x.cells :: x.1.R, base := 0, dirty := x.1.d }))
    (fun x => if x.2 = 0 then Rep x.1.a x.1.x x.1.R ls.length ∧ runL A0 0 ls = (x.1.a, 0, 0) else ∃ a, runL A0 0 ls = (a, x.1.i, x.2)) ⟨0, A0, ⟨[], [], 0, [], 0, 0, 0⟩, [], false⟩ (by simp [RdP.cells]) ⟨rep0, Nat.zero_le _, rfl⟩ (by show ls.length - 0 < _; omega) ?_ ?_
  · rintro ⟨i, a, x, R, d⟩ ⟨hrep, hi, hrun⟩
    simp only at hrep hi hrun
    by_cases c : i = ls.length
    · subst c
      right
      refine ⟨⟨⟨ls.length, a, x, R, d⟩, 0⟩, ?_, by simp, ?_⟩
      · simp
      · rw [if_pos rfl]
        rw [List.drop_length] at hrun
        exact ⟨hrep, hrun⟩
    · have hi2 : i < ls.length := by omega
      have hi3 : (i : Int) < ls.length := by omega
      obtain ⟨l, hl2⟩ : ∃ l, ls[i]? = some l := ⟨_, List.getElem?_eq_getElem hi2⟩
      have hdr : ls.drop i = l :: ls.drop (i + 1) := by
        rw [List.drop_eq_getElem_cons hi2]
        rw [List.getElem?_eq_getElem hi2] at hl2
        cases hl2; rfl
      have hg : (ls.map PV.str ++ [PV.str la])[i]? = some (.str l) := by
        rw [List.getElem?_append_left (by simpa using hi2)]
        exact rows_get hl2
      obtain ⟨x', R', e, hrep'⟩ := e10 l a x R i hrep (by omega) (hm l (by
        have := List.mem_of_getElem? hl2
        simp [this]))
      rw [hdr, runL] at hrun
      have w2 := wrap_id (x := (i : Int) + 1) (by omega)
      by_cases e0 : (stepL a l).2 = 0
      · left
        rw [if_pos e0] at hrun
        rw [e0] at e
        refine ⟨⟨i + 1, (stepL a l).1, x', R', true⟩, ?_, ⟨hrep' e0, by show i + 1 ≤ _; omega, hrun⟩, by show ls.length - (i + 1) < ls.length - i; omega⟩
        generalize RdP.cells x = xc at *
        generalize RdP.cells x' = xc' at *
        simp [-getElem?_pos, hi2, hi3, hg, e, w2]
      · right
        rw [if_neg e0] at hrun
        refine ⟨⟨⟨i + 1, a, x, R, d⟩, (stepL a l).2⟩, ?_, by rw [if_neg e0]; simp, ?_⟩
        · have e0' : ((((stepL a l).2 : Nat) : Int) != 0) = true := by simp; omega
          rw [if_neg e0]
          generalize RdP.cells x = xc at *
          generalize RdP.cells x' = xc' at *
          simp [-getElem?_pos, hi2, hi3, hg, e, w2, e0, e0']
        · rw [if_neg e0]
          exact ⟨a, hrun⟩
  · rintro ⟨⟨i, a, x, R, d⟩, er⟩ hr2 hJ
    subst hr2
    have lt1 : (ls.length : Int) < (ls.length : Int) + 1 := by omega
    have hgl2 : (ls.map PV.str ++ [PV.str la])[ls.length]? = some (.str la) := by
      rw [List.getElem?_append_right (by simp)]; simp
    by_cases e0 : er = 0
    · subst e0
      simp only [if_true] at hJ ⊢
      obtain ⟨hrep, hrun⟩ := hJ
      rw [hrun] at hq
      simp only [ne_eq, not_true_eq_false, if_false] at hq
      have h1 := hrep.img
      have h2 := hrep.ps
      have h3 := hrep.st
      by_cases c1 : la = []
      · by_cases c2 : a.st = 0
        · rw [if_pos (.inr c2)] at hq
          subst hq c1
          have c2' : x.st = 0 := by omega
          simp [-getElem?_pos, List.getElem?_cons_zero, List.getElem?_cons_succ, hgl2, lt1, RdP.cells, c2', sc0]
        · rw [if_neg (by simp [c1, c2])] at hq
          subst hq c1
          have c2' : ((x.st : Int) == 0) = false := by simp; omega
          have hrows : RowsOf x.rows a.ts := by
            by_cases s2 : a.st = 2
            · obtain ⟨pre, last, tpre, t, h1, h2, h3, h4, _⟩ := hrep.two s2
              rw [h1, h2]
              exact RowsOf_app h3 h4.row
            · have := hrep.one s2
              rw [this.1, this.2]; trivial
          refine ⟨x.rows, ?_, fun _ => hrows⟩
          simp [-getElem?_pos, List.getElem?_cons_zero, List.getElem?_cons_succ, hgl2, lt1, RdP.cells, c2', scC, h1, h2, shareRange]
      · rw [if_pos (.inl c1)] at hq
        subst hq
        have c1' : (la == []) = false := by simpa using c1
        simp [-getElem?_pos, List.getElem?_cons_zero, List.getElem?_cons_succ, hgl2, lt1, RdP.cells, c1', sc0]
    · simp only [if_neg e0] at hJ ⊢
      obtain ⟨a', hrun⟩ := hJ
      rw [hrun] at hq
      simp only [ne_eq, e0, not_false_eq_true, if_true] at hq
      subst hq
      simp [sc0, e0]
end Go.Proofs.YtnccpffnffioeaaDoor
end
