/-
  What functions of this program compute, as equations about the evaluator. No condition but those stated.
-/
import Derived.Test.YtnccpffnffioeaaDoorEqsE

set_option linter.all false
section
namespace Go.PS
/-- The document reads a line. -/
def stepR (a : Abs) (l : List UInt8) : Abs × Nat :=
  if l = wTick then ({ a with ts := a.ts ++ [[]], st := 2 }, 0)
  else if a.st = 1 then
    (if (blobR l wProgram).2 = true then (if a.ps.length = 8 then (a, 4) else ({ a with ps := a.ps ++ [(blobR l wProgram).1] }, 0)) else (a, 3))
  else (if (readR l).2 = true then ({ a with ts := addLast a.ts (readR l).1 }, 0) else (a, 3))
def runR : Abs → Nat → List (List UInt8) → Abs × Nat × Nat
  | a, _, [] => (a, 0, 0)
  | a, i, l :: r => if (stepR a l).2 = 0 then runR (stepR a l).1 (i + 1) r else (a, i + 1, (stepR a l).2)
def parseR (s : List UInt8) : Abs × Nat × Nat :=
  match (splitL 10 s).dropLast with
  | [] => (A0, 1, 3)
  | l :: ls =>
    if (blobR l wImage).2 = true then
      let r := runR ⟨(blobR l wImage).1, [], [], 1⟩ 1 ls
      if r.2.2 ≠ 0 then r else if (splitL 10 s).getLastD [] ≠ [] then (r.1, (splitL 10 s).length, 3) else (r.1, 0, 0)
    else (A0, 1, 3)
def RowR (r : PV) (t : List Evt) : Prop := (r = nilRow ∧ t = []) ∨ r = .sl .sh t.length (flatE t)
def RowsR : List PV → List (List Evt) → Prop
  | [], [] => True
  | r :: rs, t :: ts => RowR r t ∧ RowsR rs ts
  | _, _ => False
theorem RowsR_app : ∀ {rs : List PV} {ts : List (List Evt)} {r : PV} {t : List Evt}, RowsR rs ts → RowR r t → RowsR (rs ++ [r]) (ts ++ [t])
  | [], [], _, _, _, h => ⟨h, trivial⟩
  | _ :: rs, _ :: ts, _, _, h, h' => ⟨h.1, RowsR_app h.2 h'⟩
  | [], _ :: _, _, _, h, _ => h.elim
  | _ :: _, [], _, _, h, _ => h.elim
def RdP.c3 (x : RdP) : List PV := [.str x.img, .sl (.mu x.tp) x.ps.length (x.ps.map .str), .sl (.mu x.tr) x.rows.length x.rows]
structure RepR (a : Abs) (x : RdP) (i : Nat) : Prop where
  img : x.img = a.img
  ps : x.ps = a.ps
  st : a.st = 1 ∨ a.st = 2
  tp : x.tp = 1 ∨ x.tp = 0 ∧ x.ps.length = 0
  tr : x.tr = 1 ∨ x.tr = 0 ∧ x.rows.length = 0
  bps : x.ps.length ≤ i
  brows : x.rows.length ≤ i
  bev : x.ev ≤ i
  two : a.st = 2 → ∃ pre last tpre t, x.rows = pre ++ [last] ∧ a.ts = tpre ++ [t] ∧ RowsR pre tpre ∧ RowR last t ∧ x.tr = 1 ∧ t.length ≤ i
  one : a.st = 1 → a.ts = [] ∧ x.rows = []
theorem flatE_st (t : List Evt) : (flatE t).all storable = true := by
  induction t with
  | nil => rfl
  | cons e t ih =>
    simp only [flatE, List.flatMap_cons, List.all_append] at ih ⊢
    rw [ih, e.cells_st]; rfl
theorem flatE_nil (t : List Evt) : (flatE t).map outNil = flatE t := by
  induction t with
  | nil => rfl
  | cons e t ih =>
    simp only [flatE, List.flatMap_cons, List.map_append] at ih ⊢
    rw [ih, e.cells_out]
structure StR where
  i : Nat
  a : Abs
  x : RdP
end Go.PS
namespace Go.Proofs.YtnccpffnffioeaaDoor
open Go Go.PS
set_option maxHeartbeats 8000000 in
theorem f6 (n : Nat) (s : List UInt8) (hp : Heap) (hs : s.length ≤ 3000) (hn : 5200 < n) :
    ∃ rows, evalCall Tryd.prog hints (n + 40) 6 [.str s] hp = some (.tup [.agg (if (parseR s).2.2 = 0 then scC (parseR s).1 rows else sc0), .int .i64 (parseR s).2.1, .int .i64 (parseR s).2.2], hp, false) ∧ ((parseR s).2.2 = 0 → RowsR rows (parseR s).1.ts) := by
  have e11 := f11 (n + 38) s 10 hp hs (by omega)
  have e12 := fun l w h1 h2 => f12 (n + 29) l w hp h1 h2 (by omega)
  have e13 := fun l h1 => f13 (n + 9) l hp h1 (by omega)
  rw [evalCall_at _ _ _ hh6 rfl Tryd.func6 rfl (Nat.le_of_ble_eq_true rfl) rfl]
  have hm : ∀ w, w ∈ splitL 10 s → w.length ≤ 3000 := fun w h => Nat.le_trans (splitL_mem 10 s w h) hs
  have hne := splitL_ne 10 s
  have hlen := splitL_len 10 s
  generalize hq : parseR s = q
  unfold parseR at hq
  rw [show (UInt8.toNat 10 : Int) = 10 from rfl] at e11
  generalize splitL 10 s = ws at *
  obtain ⟨ls, la, rfl⟩ : ∃ ls la, ws = ls ++ [la] := ⟨ws.dropLast, ws.getLast hne, (List.dropLast_concat_getLast hne).symm⟩
  rw [List.dropLast_concat] at hq
  have hgl : (ls ++ [la]).getLastD [] = la := by simp
  rw [hgl] at hq
  have hl : (ls ++ [la]).length = ls.length + 1 := by simp
  rw [hl] at e11 hlen hq
  cases ls with
  | nil =>
    subst hq
    simp only [List.nil_append, List.map_cons, List.map_nil, List.length_nil] at e11
    refine ⟨[], ?_, fun h => by cases h⟩
    have w0 := wrap_id (x := (0 : Int)) (by omega)
    simp [e11, sc0, w0]
  | cons l0 ls =>
    have hL : ls.length ≤ 2999 := by simp only [List.length_cons] at hlen; omega
    have hmap : (l0 :: ls ++ [la]).map PV.str = .str l0 :: (ls.map .str ++ [.str la]) := by simp
    rw [hmap] at e11
    simp only [List.length_cons] at e11 hlen hq
    have w1 := wrap_id (x := (ls.length : Int) + 1) (by omega)
    have i0 : ((ls.length : Int) + 1 == 0) = false := by simp; omega
    have p0 : (0 : Int) < (ls.length : Int) + 1 + 1 := by omega
    have eI := e12 l0 wImage (hm l0 (by simp)) (by decide)
    cases hb : (blobR l0 wImage).2 with
    | false =>
      rw [hb] at hq eI
      subst hq
      refine ⟨[], ?_, fun h => by cases h⟩
      simp only [wImage] at eI
      simp [e11, w1, i0, p0, eI, sc0]
    | true =>
      rw [hb] at hq eI
      simp only [if_true] at hq
      generalize (blobR l0 wImage).1 = img at *
      simp only [wImage] at eI
      simp [e11, w1, i0, p0, eI]
      generalize hit : iter _ _ _ = r
      refine iter_elim hit (fun x : StR => { fr := [(2, .box [.str [], .sl (.mu 0) 0 [], .sl (.mu 0) 0 []]), (5, .sl (.mu 1) (ls.length + 1 + 1) (.str l0 :: (ls.map .str ++ [.str la]))), (6, .int .i64 ((ls.length : Int) + 1)), (9, .box x.x.c3), (10, .int .i64 x.x.ev), (11, .int .i64 ((x.i : Int) + 1))], hp := hp, base := hp.length, dirty := false })
        (fun x => RepR x.a x.x (x.i + 1) ∧ x.i ≤ ls.length ∧ runR ⟨img, [], [], 1⟩ 1 ls = runR x.a (x.i + 1) (ls.drop x.i)) (fun x => ls.length - x.i)
        (fun x : StR × Nat => if x.2 = 0 then (.exit 0, { fr := [(2, .box [.str [], .sl (.mu 0) 0 [], .sl (.mu 0) 0 []]), (5, .sl (.mu 1) (ls.length + 1 + 1) (.str l0 :: (ls.map .str ++ [.str la]))), (6, .int .i64 ((ls.length : Int) + 1)), (9, .box x.1.x.c3), (10, .int .i64 x.1.x.ev), (11, .int .i64 ((ls.length : Int) + 1)), (39, .bool false)], hp := hp, base := hp.length, dirty := false })
          else (.ret, { fr := [(2, .box [.str [], .sl (.mu 0) 0 [], .sl (.mu 0) 0 []]), (3, .int .i64 x.1.i), (4, .int .i64 x.2)], hp := hp, base := hp.length, dirty := false }))
        (fun x => if x.2 = 0 then RepR x.1.a x.1.x (ls.length + 1) ∧ runR ⟨img, [], [], 1⟩ 1 ls = (x.1.a, 0, 0) else ∃ a, runR ⟨img, [], [], 1⟩ 1 ls = (a, x.1.i, x.2)) ⟨0, ⟨img, [], [], 1⟩, ⟨img, [], 0, [], 0, 0, 0⟩⟩ (by simp [RdP.c3]) ⟨⟨rfl, rfl, .inl rfl, .inr ⟨rfl, rfl⟩, .inr ⟨rfl, rfl⟩, Nat.zero_le _, Nat.zero_le _, Nat.zero_le _, (fun h => by cases h), fun _ => ⟨rfl, rfl⟩⟩, Nat.zero_le _, rfl⟩ (by show ls.length - 0 < _; omega) ?_ ?_
      · rintro ⟨i, a, x⟩ ⟨hrep, hi, hrun⟩
        simp only at hrep hi hrun
        by_cases c : i = ls.length
        · subst c
          right
          refine ⟨⟨⟨ls.length, a, x⟩, 0⟩, ?_, by simp, ?_⟩
          · simp
          · rw [if_pos rfl]
            rw [List.drop_length] at hrun
            exact ⟨hrep, hrun⟩
        · have hi2 : i < ls.length := by omega
          have hi3 : (i : Int) + 1 < (ls.length : Int) + 1 := by omega
          have hi4 : (i : Int) + 1 < (ls.length : Int) + 1 + 1 := by omega
          have hi5 : (0 : Int) ≤ (i : Int) + 1 := by omega
          have hi6 : ((i : Int) + 1).toNat = i + 1 := by omega
          obtain ⟨l, hl2⟩ : ∃ l, ls[i]? = some l := ⟨_, List.getElem?_eq_getElem hi2⟩
          have hdr : ls.drop i = l :: ls.drop (i + 1) := by
            rw [List.drop_eq_getElem_cons hi2]
            rw [List.getElem?_eq_getElem hi2] at hl2
            cases hl2; rfl
          have hg : (ls.map PV.str ++ [PV.str la])[i]? = some (.str l) := by
            rw [List.getElem?_append_left (by simpa using hi2)]
            exact rows_get hl2
          have hml := hm l (by
            have := List.mem_of_getElem? hl2
            simp [this])
          have e12 := e12 l wProgram hml (by decide)
          have e13 := e13 l hml
          rw [hdr, runR] at hrun
          have w2 := wrap_id (x := (i : Int) + 1 + 1) (by omega)
          have hst := hrep.st
          have hbr := hrep.brows
          have hbp := hrep.bps
          have hbe := hrep.bev
          have htp := hrep.tp
          have htr := hrep.tr
          have w3 := wrap_id (x := (x.rows.length : Int) - 1) (by omega)
          have m1 : ((x.rows.length : Int) - 1 == 4095) = false := by simp; omega
          have m2 : (x.rows.length + 1) * 24 ≤ 140737488355328 := by omega
          have m3 : (x.ps.length + 1) * 16 ≤ 140737488355328 := by omega
          generalize hsr : stepR a l = sr at *
          unfold stepR at hsr
          generalize hrd : readR l = rd at *
          generalize hbl : blobR l wProgram = bl at *
          obtain ⟨ev', rb⟩ := rd
          obtain ⟨bw, bb⟩ := bl
          simp only [wProgram] at e12
          by_cases ht : l = wTick
          · left
            rw [if_pos ht] at hsr
            subst hsr
            rw [if_pos rfl] at hrun
            refine ⟨⟨i + 1, { a with ts := a.ts ++ [[]], st := 2 }, { x with rows := x.rows ++ [nilRow], tr := 1 }⟩, ?_, ⟨⟨hrep.img, hrep.ps, .inr rfl, htp, .inl rfl, by show x.ps.length ≤ i + 1 + 1; omega, ?_, by show x.ev ≤ i + 1 + 1; omega, fun _ => ?_, (fun h => by cases h)⟩, by show i + 1 ≤ _; omega, hrun⟩, by show ls.length - (i + 1) < ls.length - i; omega⟩
            · obtain ⟨k', c', b', z0, z1, z2, z3, d'⟩ := ev'
              obtain ⟨img', ps, tp, rows, tr, st, ev⟩ := x
              simp only [Evt.cells] at e13 m1 m2 m3 w3 htr
              have htr' : tr = 1 ∨ tr = 0 ∧ rows = [] := by
                rcases htr with h | ⟨h, h2⟩
                · exact .inl h
                · exact .inr ⟨h, List.eq_nil_of_length_eq_zero h2⟩
              subst ht
              simp only [wTick] at e12 e13 hg
              simp [-getElem?_pos, List.getElem?_cons_zero, List.getElem?_cons_succ, RdP.c3, hi3, hi4, hi5, hi6, hg, e12, e13, w2, w3, m1, m2, htr, htr', nilRow]
            · show (x.rows ++ [_]).length ≤ i + 1 + 1
              rw [List.length_append]; simp only [List.length_cons, List.length_nil]; omega
            · refine ⟨x.rows, nilRow, a.ts, [], rfl, rfl, ?_, .inl ⟨rfl, rfl⟩, rfl, Nat.zero_le _⟩
              rcases hst with s1 | s2
              · have := hrep.one s1
                rw [this.1, this.2]; trivial
              · obtain ⟨pre, last, tpre, t, h1, h2, h3, h4, _⟩ := hrep.two s2
                rw [h1, h2]
                exact RowsR_app h3 h4
          · have ht' : (l == [116, 105, 99, 107]) = false := by simpa [wTick] using ht
            rw [if_neg ht] at hsr
            rcases hst with s1 | s2
            · rw [if_pos s1] at hsr
              have h1 := hrep.one s1
              cases bb with
              | false =>
                rw [if_neg (by simp)] at hsr
                subst hsr
                rw [if_neg (by simp)] at hrun
                right
                refine ⟨⟨⟨i + 2, a, x⟩, 3⟩, ?_, by simp, ?_⟩
                · obtain ⟨k', c', b', z0, z1, z2, z3, d'⟩ := ev'
                  obtain ⟨img', ps, tp, rows, tr, st, ev⟩ := x
                  have hr0 : rows = [] := h1.2
                  subst hr0
                  simp only [Evt.cells] at e13
                  have w4 := wrap_id (x := (-1 : Int)) (by omega)
                  simp [-getElem?_pos, List.getElem?_cons_zero, List.getElem?_cons_succ, RdP.c3, hi3, hi4, hi5, hi6, hg, e12, e13, w2, w4, ht']
                  omega
                · rw [if_neg (by simp)]
                  exact ⟨a, hrun⟩
              | true =>
                rw [if_pos rfl] at hsr
                by_cases c8 : a.ps.length = 8
                · rw [if_pos c8] at hsr
                  subst hsr
                  rw [if_neg (by simp)] at hrun
                  right
                  refine ⟨⟨⟨i + 2, a, x⟩, 4⟩, ?_, by simp, ?_⟩
                  · rw [← hrep.ps] at c8
                    obtain ⟨k', c', b', z0, z1, z2, z3, d'⟩ := ev'
                    obtain ⟨img', ps, tp, rows, tr, st, ev⟩ := x
                    have hr0 : rows = [] := h1.2
                    subst hr0
                    simp only [Evt.cells] at e13
                    have w4 := wrap_id (x := (-1 : Int)) (by omega)
                    have c8' : (ps.length : Int) = 8 := by
                      have : ps.length = 8 := c8
                      omega
                    simp [-getElem?_pos, List.getElem?_cons_zero, List.getElem?_cons_succ, RdP.c3, hi3, hi4, hi5, hi6, hg, e12, e13, w2, w4, ht', c8']
                    omega
                  · rw [if_neg (by simp)]
                    exact ⟨a, hrun⟩
                · rw [if_neg c8] at hsr
                  subst hsr
                  rw [if_pos rfl] at hrun
                  left
                  refine ⟨⟨i + 1, { a with ps := a.ps ++ [bw] }, { x with ps := x.ps ++ [bw], tp := 1 }⟩, ?_, ⟨⟨hrep.img, ?_, .inl s1, .inl rfl, htr, ?_, by show x.rows.length ≤ i + 1 + 1; omega, by show x.ev ≤ i + 1 + 1; omega, (fun h2 => ?_), fun _ => h1⟩, by show i + 1 ≤ _; omega, hrun⟩, by show ls.length - (i + 1) < ls.length - i; omega⟩
                  · rw [← hrep.ps] at c8
                    obtain ⟨k', c', b', z0, z1, z2, z3, d'⟩ := ev'
                    obtain ⟨img', ps, tp, rows, tr, st, ev⟩ := x
                    have hr0 : rows = [] := h1.2
                    subst hr0
                    simp only [Evt.cells] at e13 m3 htp
                    have w4 := wrap_id (x := (-1 : Int)) (by omega)
                    have c8' : ((ps.length : Int) == 8) = false := by
                      have : ¬ ps.length = 8 := c8
                      simp; omega
                    have htp' : tp = 1 ∨ tp = 0 ∧ ps = [] := by
                      rcases htp with h | ⟨h, h2⟩
                      · exact .inl h
                      · exact .inr ⟨h, List.eq_nil_of_length_eq_zero h2⟩
                    simp [-getElem?_pos, List.getElem?_cons_zero, List.getElem?_cons_succ, RdP.c3, hi3, hi4, hi5, hi6, hg, e12, e13, w2, w4, ht', c8', htp, htp', m3]
                  · show x.ps ++ [bw] = a.ps ++ [bw]
                    rw [hrep.ps]
                  · show (x.ps ++ [bw]).length ≤ i + 1 + 1
                    rw [List.length_append]; simp only [List.length_cons, List.length_nil]; omega
                  · have h2 : a.st = 2 := h2
                    omega
            · rw [if_neg (by omega)] at hsr
              obtain ⟨pre, last, tpre, t, h1, h2, h3, h4, h5, h6⟩ := hrep.two s2
              have w5 := wrap_id (x := (pre.length : Int)) (by rw [h1] at hbr; simp at hbr; omega)
              have p1 : ¬ ((pre.length : Int) < 0) := by omega
              have p2 : (0 : Int) ≤ pre.length := by omega
              have p3 : (pre.length : Int) < (pre.length : Int) + 1 := by omega
              cases rb with
              | false =>
                rw [if_neg (by simp)] at hsr
                subst hsr
                rw [if_neg (by simp)] at hrun
                right
                refine ⟨⟨⟨i + 2, a, x⟩, 3⟩, ?_, by simp, ?_⟩
                · obtain ⟨k', c', b', z0, z1, z2, z3, d'⟩ := ev'
                  obtain ⟨img', ps, tp, rows, tr, st, ev⟩ := x
                  have hr0 : rows = pre ++ [last] := h1
                  subst hr0
                  simp only [Evt.cells] at e13
                  simp [-getElem?_pos, List.getElem?_cons_zero, List.getElem?_cons_succ, RdP.c3, hi3, hi4, hi5, hi6, hg, e12, e13, w2, w5, p1, p2, ht']
                  omega
                · rw [if_neg (by simp)]
                  exact ⟨a, hrun⟩
              | true =>
                rw [if_pos rfl] at hsr
                subst hsr
                rw [if_pos rfl] at hrun
                left
                refine ⟨⟨i + 1, { a with ts := addLast a.ts ev' }, { x with rows := pre ++ [.sl .sh (t.length + 1) (flatE t ++ ev'.cells)], ev := x.ev + 1 }⟩, ?_, ⟨⟨hrep.img, hrep.ps, .inr s2, htp, .inl h5, by show x.ps.length ≤ i + 1 + 1; omega, ?_, by show x.ev + 1 ≤ i + 1 + 1; omega, fun _ => ?_, (fun h => ?_)⟩, by show i + 1 ≤ _; omega, hrun⟩, by show ls.length - (i + 1) < ls.length - i; omega⟩
                · have q1 := flatE_st t
                  have q2 := flatE_nil t
                  have q3 := flatE_len t
                  obtain ⟨k', c', b', z0, z1, z2, z3, d'⟩ := ev'
                  obtain ⟨img', ps, tp, rows, tr, st, ev⟩ := x
                  have hr0 : rows = pre ++ [last] := h1
                  have htr1 : tr = 1 := h5
                  subst hr0 htr1
                  simp only [Evt.cells] at e13 hbe ⊢
                  have c9 : ((ev : Int) == 4096) = false := by simp; omega
                  have w6 := wrap_id (x := (ev : Int) + 1) (by omega)
                  have f1 : t.length * 104 ≤ 140737488355328 := by omega
                  have f2 : (t.length + 1) * 104 ≤ 140737488355328 := by omega
                  rcases h4 with ⟨rfl, rfl⟩ | rfl
                  · simp [-getElem?_pos, List.getElem?_cons_zero, List.getElem?_cons_succ, RdP.c3, hi3, hi4, hi5, hi6, hg, e12, e13, w2, w5, w6, p1, p2, p3, ht', c9, nilRow, get_last, splice_last, flatE]
                  · generalize flatE t = fe at *
                    simp [-getElem?_pos, List.getElem?_cons_zero, List.getElem?_cons_succ, -List.all_eq_true, RdP.c3, hi3, hi4, hi5, hi6, hg, e12, e13, w2, w5, w6, p1, p2, p3, ht', c9, get_last, splice_last, q1, q2, q3, f1, f2]
                · show (pre ++ [_]).length ≤ i + 1 + 1
                  rw [h1] at hbr
                  rw [List.length_append] at hbr ⊢
                  simp only [List.length_cons, List.length_nil] at hbr ⊢; omega
                · refine ⟨pre, _, tpre, t ++ [ev'], rfl, ?_, h3, .inr ?_, h5, ?_⟩
                  · show addLast a.ts _ = _
                    rw [h2, addLast_app]
                  · rw [flatE_app, List.length_append]; rfl
                  · rw [List.length_append]; simp only [List.length_cons, List.length_nil]; omega
                · have h : a.st = 1 := h
                  omega
      · rintro ⟨⟨i, a, x⟩, er⟩ hr2 hJ
        subst hr2
        have hgl2 : (ls.map PV.str ++ [PV.str la])[ls.length]? = some (.str la) := by
          rw [List.getElem?_append_right (by simp)]; simp
        have g1 : (0 : Int) ≤ (ls.length : Int) + 1 := by omega
        have g2 : ((ls.length : Int) + 1).toNat = ls.length + 1 := by omega
        have g3 : (ls.length : Int) + 1 < (ls.length : Int) + 1 + 1 := by omega
        have g4 := wrap_id (x := (ls.length : Int) + 1 + 1) (by omega)
        by_cases e0 : er = 0
        · subst e0
          simp only [if_true] at hJ ⊢
          obtain ⟨hrep, hrun⟩ := hJ
          rw [hrun] at hq
          simp only [ne_eq, not_true_eq_false, if_false] at hq
          have h1 := hrep.img
          have h2 := hrep.ps
          by_cases c1 : la = []
          · rw [if_neg (by simp [c1])] at hq
            subst hq c1
            have hrows : RowsR x.rows a.ts := by
              rcases hrep.st with s1 | s2
              · have := hrep.one s1
                rw [this.1, this.2]; trivial
              · obtain ⟨pre, last, tpre, t, h1, h2, h3, h4, _⟩ := hrep.two s2
                rw [h1, h2]
                exact RowsR_app h3 h4
            refine ⟨x.rows, ?_, fun _ => hrows⟩
            simp [-getElem?_pos, List.getElem?_cons_zero, List.getElem?_cons_succ, hgl2, g1, g2, g3, g4, RdP.c3, scC, h1, h2, shareRange]
          · rw [if_pos c1] at hq
            subst hq
            have c1' : (la == []) = false := by simpa using c1
            refine ⟨[], ?_, fun h => by cases h⟩
            simp [-getElem?_pos, List.getElem?_cons_zero, List.getElem?_cons_succ, hgl2, g1, g2, g3, g4, RdP.c3, c1', sc0]
        · simp only [if_neg e0] at hJ ⊢
          obtain ⟨a', hrun⟩ := hJ
          rw [hrun] at hq
          simp only [ne_eq, e0, not_false_eq_true, if_true] at hq
          subst hq
          refine ⟨[], ?_, fun h => (e0 h).elim⟩
          simp [sc0, e0]
end Go.Proofs.YtnccpffnffioeaaDoor
end
