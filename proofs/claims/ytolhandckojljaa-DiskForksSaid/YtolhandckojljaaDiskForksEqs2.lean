/-
  What functions of this program compute, as equations about the evaluator. No condition but those stated.
-/
import Derived.Test.YtolhandckojljaaDiskForksEqs
set_option linter.all false
section
namespace Go.Proofs.Ytolhandckojljaa
open Go Go.PS
theorem any_range {α : Type} (p : α → Bool) : ∀ l : List α, (List.range l.length).any (fun k => (l[k]?).any p) = l.any p
  | [] => rfl
  | a :: l => by
    rw [List.length_cons, List.range_succ_eq_map, List.any_cons, List.any_map, List.any_cons, ← any_range p l]
    rfl
theorem meets_comm (a b c d : Int) : meets a b c d = meets c d a b := by
  rw [meets_max, meets_max, Int.max_comm a c, Int.min_comm b d, Bool.and_comm (decide (0 ≤ a ∧ a < b))]
theorem any_congr' {α : Type} {p q : α → Bool} (h : ∀ x, p x = q x) (l : List α) : l.any p = l.any q := by rw [show p = q from funext h]
theorem any_take {α : Type} (p : α → Bool) (l : List α) (k : Nat) (h : k ≤ l.length) : (List.range k).any (fun j => (l[j]?).any p) = (l.take k).any p := by
  have e := any_range p (l.take k)
  rw [List.length_take, Nat.min_eq_left h] at e
  rw [← e]
  rw [Bool.eq_iff_iff]
  simp only [List.any_eq_true, List.mem_range]
  constructor
  · rintro ⟨j, hj, h⟩; exact ⟨j, hj, by rw [List.getElem?_take_of_lt hj]; exact h⟩
  · rintro ⟨j, hj, h⟩; exact ⟨j, hj, by rw [List.getElem?_take_of_lt hj] at h; exact h⟩
set_option maxHeartbeats 4000000 in
theorem f16 (n : Nat) (l : List Pt) (hp : Heap) (hl : l.length ≤ 100) (hn : 1101 < n) :
    evalCall Try.prog hints (n + 4) 16 [.sl .sh l.length (l.flatMap Pt.cells)] hp = some (.int .i64 (chkR [] l), hp, false) := by
  obtain ⟨E, hE⟩ : ∃ E, E = chkR [] l := ⟨_, rfl⟩
  rw [← hE]
  rw [evalCall_at _ _ _ hh16 rfl Try.func16 rfl (Nat.le_of_ble_eq_true rfl) rfl]
  have lX := flat_len Pt.len l
  have rr := fun k h => flat_row Pt.len l k h
  have g0 := fun k h => flat_get Pt.len l k h 0 (by omega)
  have g1 := fun k h => flat_get Pt.len l k h 1 (by omega)
  have g2 := fun k h => flat_get Pt.len l k h 2 (by omega)
  generalize l.flatMap Pt.cells = X at *
  simp
  generalize hit : iter _ _ _ = R
  refine iter_elim hit (fun k : Nat => { fr := [(0, .sl .sh l.length X), (3, .int .i64 k)], hp := hp, base := hp.length, dirty := false }) (fun k => k ≤ l.length ∧ (∀ q ∈ l.take k, okP q = true) ∧ chkR (l.take k) (l.drop k) = E) (fun k => l.length - k)
    (fun x : Bool => if x then (.exit 0, { fr := [(0, .sl .sh l.length X), (3, .int .i64 l.length), (10, .bool false)], hp := hp, base := hp.length, dirty := false })
      else (.ret, { fr := [(2, .int .i64 E)], hp := hp, base := hp.length, dirty := false }))
    (fun x => x = true → E = 0) 0 (by simp) ⟨by omega, by simp, by simp [hE]⟩ (by omega) ?_ ?_
  · rintro k ⟨h1, h5, h6⟩
    by_cases hk : k < l.length
    · rw [chk_step hk] at h6
      have r := rr k hk
      have z : k * 3 + 3 ≤ l.length * 3 := by omega
      have w := wrap_id (x := (k : Int) + 1) (by omega)
      by_cases c1 : okP l[k] = false
      · rw [if_pos c1] at h6
        right
        refine ⟨false, ?_, by simp, by simp⟩
        generalize l[k] = p at *
        obtain ⟨o, f, c⟩ := p
        simp only [Pt.cells] at *
        unfold okP at c1
        simp only [decide_eq_false_iff_not] at c1
        by_cases d1 : o < 1
        · simp [hk, lX, r, z, d1, h6]
        by_cases d2 : 8 < o
        · simp [hk, lX, r, z, d1, d2, h6]
        by_cases d3 : c < 0
        · simp [hk, lX, r, z, d1, d2, d3, h6]
        by_cases d4 : 64 < c
        · simp [hk, lX, r, z, d1, d2, d3, d4, h6]
        by_cases d5 : f < 0
        · simp [hk, lX, r, z, d1, d2, d3, d4, d5, h6]
        have w3 := wrap_id (x := 512 - c) (by omega)
        by_cases d6 : 512 - c < f
        · simp [hk, lX, r, z, d1, d2, d3, d4, d5, d6, w3, h6]
        exact (c1 (by omega)).elim
      rw [if_neg c1] at h6
      have c1' : okP l[k] = true := by simpa using c1
      have hok := c1'
      unfold okP at hok; simp only [decide_eq_true_eq] at hok
      have d1 : ¬ l[k].o < 1 := by omega
      have d2 : ¬ 8 < l[k].o := by omega
      have d3 : ¬ l[k].c < 0 := by omega
      have d4 : ¬ 64 < l[k].c := by omega
      have d5 : ¬ l[k].f < 0 := by omega
      have w3 := wrap_id (x := 512 - l[k].c) (by omega)
      have d6 : ¬ 512 - l[k].c < l[k].f := by omega
      have h5' : ∀ j (h : j < l.length), j < k → okP l[j] = true := fun j h hj => h5 _ (List.mem_take_iff_getElem.2 ⟨j, by omega, rfl⟩)
      rw [← any_take _ l k h1] at h6
      rw [← any_take _ l k h1] at h6
      generalize hp1 : l[k] = p at *
      obtain ⟨o, f, c⟩ := p
      simp only [Pt.cells] at *
      generalize hB1 : (List.range k).any (fun j => (l[j]?).any fun q => decide (q.o = o)) = B1 at *
      generalize hB2 : (List.range k).any (fun j => (l[j]?).any (meetP ⟨o, f, c⟩)) = B2 at *
      have L1 : ∀ (nn : Nat) (cf : CallF), True := fun _ _ => trivial
      by_cases c2 : B1 = true
      · rw [if_pos c2] at h6
        right
        refine ⟨false, ?_, by simp, by simp⟩
        simp [hk, lX, r, z, d1, d2, d3, d4, d5, d6, w3]
        rw [iter_find' (fun j => { fr := [(0, .sl .sh l.length X), (3, .int .i64 k), (4, .box [.int .i64 o, .int .i64 f, .int .i64 c]), (5, .int .i64 j)], hp := hp, base := hp.length, dirty := false }) (fun j => (l[j]?).any fun q : Pt => decide (q.o = o)) (.ret, { fr := [(2, .int .i64 15)], hp := hp, base := hp.length, dirty := false }) (.exit 2, { fr := [(0, .sl .sh l.length X), (3, .int .i64 k), (4, .box [.int .i64 o, .int .i64 f, .int .i64 c]), (5, .int .i64 k), (50, .bool false)], hp := hp, base := hp.length, dirty := false }) k]
        rotate_left
        · simp
        · omega
        · intro j hj
          have jl : j < l.length := by omega
          have q0 := g0 j jl
          have wj := wrap_id (x := (j : Int) + 1) (by omega)
          have zj : j * 3 + 3 ≤ l.length * 3 := by omega
          rw [List.getElem?_eq_getElem jl]
          simp only [Option.any_some]
          generalize l[j] = q at q0 ⊢
          obtain ⟨o', f', c'⟩ := q
          simp only [Nat.add_zero, List.getElem?_cons_zero] at q0 ⊢
          by_cases e : o' = o
          · subst e
            simp [-getElem?_pos, List.getElem?_cons_zero, hj, jl, lX, q0]
          · have e' : (o' == o) = false := by simp [e]
            simp [-getElem?_pos, List.getElem?_cons_zero, hj, jl, lX, q0, e, e', wj]
        · simp
        · simp
        · simp
        rw [hB1]
        rw [c2]
        simp [h6]
      rw [if_neg c2] at h6
      have c2' : B1 = false := by simpa using c2
      by_cases c3 : B2 = true
      · rw [if_pos c3] at h6
        right
        refine ⟨false, ?_, by simp, by simp⟩
        simp [hk, lX, r, z, d1, d2, d3, d4, d5, d6, w3]
        rw [iter_find' (fun j => { fr := [(0, .sl .sh l.length X), (3, .int .i64 k), (4, .box [.int .i64 o, .int .i64 f, .int .i64 c]), (5, .int .i64 j)], hp := hp, base := hp.length, dirty := false }) (fun j => (l[j]?).any fun q : Pt => decide (q.o = o)) (.ret, { fr := [(2, .int .i64 15)], hp := hp, base := hp.length, dirty := false }) (.exit 2, { fr := [(0, .sl .sh l.length X), (3, .int .i64 k), (4, .box [.int .i64 o, .int .i64 f, .int .i64 c]), (5, .int .i64 k), (50, .bool false)], hp := hp, base := hp.length, dirty := false }) k]
        rotate_left
        · simp
        · omega
        · intro j hj
          have jl : j < l.length := by omega
          have q0 := g0 j jl
          have wj := wrap_id (x := (j : Int) + 1) (by omega)
          have zj : j * 3 + 3 ≤ l.length * 3 := by omega
          rw [List.getElem?_eq_getElem jl]
          simp only [Option.any_some]
          generalize l[j] = q at q0 ⊢
          obtain ⟨o', f', c'⟩ := q
          simp only [Nat.add_zero, List.getElem?_cons_zero] at q0 ⊢
          by_cases e : o' = o
          · subst e
            simp [-getElem?_pos, List.getElem?_cons_zero, hj, jl, lX, q0]
          · have e' : (o' == o) = false := by simp [e]
            simp [-getElem?_pos, List.getElem?_cons_zero, hj, jl, lX, q0, e, e', wj]
        · simp
        · simp
        · simp
        rw [hB1]
        rw [c2']
        simp
        rw [iter_find' (fun j => { fr := [(0, .sl .sh l.length X), (3, .int .i64 k), (4, .box [.int .i64 o, .int .i64 f, .int .i64 c]), (6, .int .i64 j)], hp := hp, base := hp.length, dirty := false }) (fun j => (l[j]?).any (meetP ⟨o, f, c⟩)) (.ret, { fr := [(2, .int .i64 11)], hp := hp, base := hp.length, dirty := false }) (.exit 4, { fr := [(0, .sl .sh l.length X), (3, .int .i64 k), (4, .box [.int .i64 o, .int .i64 f, .int .i64 c]), (6, .int .i64 k), (63, .bool false)], hp := hp, base := hp.length, dirty := false }) k]
        rotate_left
        · simp
        · omega
        · intro j hj
          have jl : j < l.length := by omega
          have q1 := g1 j jl
          have q2 := g2 j jl
          have wj := wrap_id (x := (j : Int) + 1) (by omega)
          have oj := h5' j jl hj
          rw [List.getElem?_eq_getElem jl]
          simp only [Option.any_some]
          generalize l[j] = q at q1 q2 oj ⊢
          obtain ⟨o', f', c'⟩ := q
          simp only [List.getElem?_cons_zero, List.getElem?_cons_succ] at q1 q2 ⊢
          unfold okP at oj; simp only [decide_eq_true_eq] at oj
          have wa := wrap_id (x := f' + c') (by omega)
          have wb := wrap_id (x := f + c) (by omega)
          have e := f34 n f' (f' + c') f (f + c) hp
          have em : meetP ⟨o, f, c⟩ ⟨o', f', c'⟩ = meets f' (f' + c') f (f + c) := meets_comm _ _ _ _
          rw [em]
          generalize meets _ _ _ _ = m at *
          cases m <;> simp [-getElem?_pos, List.getElem?_cons_zero, hj, jl, lX, q1, q2, wa, wb, wj, e]
        · simp
        · simp
        · simp
        rw [hB2]
        rw [c3]
        simp [h6]
      · rw [if_neg c3] at h6
        have c3' : B2 = false := by simpa using c3
        left
        refine ⟨k + 1, ?_, ⟨by omega, fun q hq => ?_, h6⟩, by omega⟩
        rotate_left
        · rw [List.take_succ_eq_append_getElem hk, hp1] at hq
          rcases List.mem_append.1 hq with hq | hq
          · exact h5 q hq
          · simp only [List.mem_singleton] at hq
            rw [hq]; exact c1'
        simp [hk, lX, r, z, d1, d2, d3, d4, d5, d6, w3]
        rw [iter_find' (fun j => { fr := [(0, .sl .sh l.length X), (3, .int .i64 k), (4, .box [.int .i64 o, .int .i64 f, .int .i64 c]), (5, .int .i64 j)], hp := hp, base := hp.length, dirty := false }) (fun j => (l[j]?).any fun q : Pt => decide (q.o = o)) (.ret, { fr := [(2, .int .i64 15)], hp := hp, base := hp.length, dirty := false }) (.exit 2, { fr := [(0, .sl .sh l.length X), (3, .int .i64 k), (4, .box [.int .i64 o, .int .i64 f, .int .i64 c]), (5, .int .i64 k), (50, .bool false)], hp := hp, base := hp.length, dirty := false }) k]
        rotate_left
        · simp
        · omega
        · intro j hj
          have jl : j < l.length := by omega
          have q0 := g0 j jl
          have wj := wrap_id (x := (j : Int) + 1) (by omega)
          have zj : j * 3 + 3 ≤ l.length * 3 := by omega
          rw [List.getElem?_eq_getElem jl]
          simp only [Option.any_some]
          generalize l[j] = q at q0 ⊢
          obtain ⟨o', f', c'⟩ := q
          simp only [Nat.add_zero, List.getElem?_cons_zero] at q0 ⊢
          by_cases e : o' = o
          · subst e
            simp [-getElem?_pos, List.getElem?_cons_zero, hj, jl, lX, q0]
          · have e' : (o' == o) = false := by simp [e]
            simp [-getElem?_pos, List.getElem?_cons_zero, hj, jl, lX, q0, e, e', wj]
        · simp
        · simp
        · simp
        rw [hB1]
        rw [c2']
        simp
        rw [iter_find' (fun j => { fr := [(0, .sl .sh l.length X), (3, .int .i64 k), (4, .box [.int .i64 o, .int .i64 f, .int .i64 c]), (6, .int .i64 j)], hp := hp, base := hp.length, dirty := false }) (fun j => (l[j]?).any (meetP ⟨o, f, c⟩)) (.ret, { fr := [(2, .int .i64 11)], hp := hp, base := hp.length, dirty := false }) (.exit 4, { fr := [(0, .sl .sh l.length X), (3, .int .i64 k), (4, .box [.int .i64 o, .int .i64 f, .int .i64 c]), (6, .int .i64 k), (63, .bool false)], hp := hp, base := hp.length, dirty := false }) k]
        rotate_left
        · simp
        · omega
        · intro j hj
          have jl : j < l.length := by omega
          have q1 := g1 j jl
          have q2 := g2 j jl
          have wj := wrap_id (x := (j : Int) + 1) (by omega)
          have oj := h5' j jl hj
          rw [List.getElem?_eq_getElem jl]
          simp only [Option.any_some]
          generalize l[j] = q at q1 q2 oj ⊢
          obtain ⟨o', f', c'⟩ := q
          simp only [List.getElem?_cons_zero, List.getElem?_cons_succ] at q1 q2 ⊢
          unfold okP at oj; simp only [decide_eq_true_eq] at oj
          have wa := wrap_id (x := f' + c') (by omega)
          have wb := wrap_id (x := f + c) (by omega)
          have e := f34 n f' (f' + c') f (f + c) hp
          have em : meetP ⟨o, f, c⟩ ⟨o', f', c'⟩ = meets f' (f' + c') f (f + c) := meets_comm _ _ _ _
          rw [em]
          generalize meets _ _ _ _ = m at *
          cases m <;> simp [-getElem?_pos, List.getElem?_cons_zero, hj, jl, lX, q1, q2, wa, wb, wj, e]
        · simp
        · simp
        · simp
        rw [hB2]
        rw [c3']
        simp [w]
    · right
      have : k = l.length := by omega
      subst this
      refine ⟨true, ?_, by simp, fun _ => ?_⟩
      · simp
      · rw [List.drop_length, chkR] at h6
        exact h6.symm
  · rintro b rfl h
    cases b with
    | true => simp [h rfl]
    | false => simp
end Go.Proofs.Ytolhandckojljaa
end

section
namespace Go.Proofs.Ytolhandckojljaa
open Go Go.PS
set_option maxHeartbeats 1000000 in
theorem f14 (n : Nat) (l : List Pt) (hp : Heap) (hn : 100 < n) :
    evalCall Try.prog hints (n + 1) 14 [.sl .sh l.length (l.flatMap Pt.cells)] hp = some (.tup [.sl .sh (l.take 8).length ((l.take 8).flatMap Pt.cells), .sl .sh (l.take 8).length ((l.take 8).flatMap Pt.cells)], hp, false) := by
  rw [evalCall_at _ _ _ hh14 rfl Try.func14 rfl (Nat.le_of_ble_eq_true rfl) rfl]
  have lX := flat_len Pt.len l
  have hm : (l.take 8).length ≤ 8 := by rw [List.length_take]; omega
  have tk : (l.flatMap Pt.cells).take ((l.take 8).length * 3) = (l.take 8).flatMap Pt.cells := by
    rw [flat_take Pt.len, List.length_take]
    by_cases h : 8 ≤ l.length
    · rw [Nat.min_eq_left h]
    · rw [Nat.min_eq_right (by omega), List.take_of_length_le (Nat.le_refl _), List.take_of_length_le (by omega)]
  have hc : (if (8 : Int) < (l.length : Int) then (8 : Int) else l.length) = ((l.take 8).length : Int) := by
    rw [List.length_take]; split <;> omega
  have hle : ((l.take 8).length : Int) ≤ l.length := by rw [List.length_take]; omega
  generalize l.flatMap Pt.cells = X at *
  generalize l.take 8 = m at *
  have lM := flat_len Pt.len m
  have rM := fun k h => flat_row Pt.len m k h
  have g0 := fun k h => flat_get Pt.len m k h 0 (by omega)
  have g1 := fun k h => flat_get Pt.len m k h 1 (by omega)
  have g2 := fun k h => flat_get Pt.len m k h 2 (by omega)
  simp [hc, hle, lX, tk]
  rw [iter_count (fun k => { fr := [(0, .sl .sh m.length (m.flatMap Pt.cells)), (4, .sl (.mu 3) (m.take k).length ((m.take k).flatMap Pt.cells)), (5, .int .i64 k)], hp := hp, base := hp.length, dirty := false })
    (.exit 0, { fr := [(0, .sl .sh m.length (m.flatMap Pt.cells)), (4, .sl (.mu 3) m.length (m.flatMap Pt.cells)), (5, .int .i64 m.length), (15, .bool false)], hp := hp, base := hp.length, dirty := false }) m.length]
  · generalize m.flatMap _ = Y
    simp
  · rfl
  · omega
  · intro k hk
    have hT : (m.take k).length = k := by rw [List.length_take]; omega
    have hT1 : (m.take (k + 1)).length = k + 1 := by rw [List.length_take]; omega
    have sn : (m.take (k + 1)).flatMap Pt.cells = (m.take k).flatMap Pt.cells ++ m[k].cells := by rw [List.take_succ_eq_append_getElem hk, List.flatMap_append]; simp
    have lK := flat_len Pt.len (m.take k)
    have q0 := g0 k hk
    have q1 := g1 k hk
    have q2 := g2 k hk
    have w := wrap_id (x := (k : Int) + 1) (by omega)
    have a1 : k * 3 + 3 = (k + 1) * 3 := by omega
    have m1 : (k + 1) * 24 ≤ 140737488355328 := by omega
    rw [hT] at lK
    rw [hT, hT1, sn]
    generalize m.flatMap _ = Y at *
    generalize (m.take k).flatMap _ = Z at *
    generalize m[k] = x at *
    obtain ⟨o, f, c⟩ := x
    simp only [Pt.cells, Nat.add_zero, List.getElem?_cons_zero, List.getElem?_cons_succ] at *
    simp [-getElem?_pos, List.getElem?_cons_zero, hk, lM, lK, q0, q1, q2, w, a1, m1]
  · rw [List.take_length]
    generalize m.flatMap _ = Y at *
    simp
  · simp
theorem f24nil (n : Nat) (hp : Heap) : evalCall Try.prog hints (n + 1) 24 [.nilp] hp = some (.bool false, hp, false) := by
  rw [evalCall_at _ _ _ hh24 rfl Try.func24 rfl (Nat.le_of_ble_eq_true rfl) rfl]
  simp
structure Jb where
  o : Int
  s : Int
  n : Int
  w : Bool
  d : List UInt8
def Jb.cells (j : Jb) : List PV := [.int .i64 j.o, .int .i64 j.s, .int .i64 j.n, .bool j.w, .str j.d]
def Jb.size (j : Jb) : Int := if j.w = true then j.d.length else j.n
theorem f44 (n : Nat) (j : Jb) (hp : Heap) : evalCall Try.prog hints (n + 1) 44 [.agg j.cells] hp = some (.int .i64 j.size, hp, false) := by
  rw [evalCall_at _ _ _ hh44 rfl Try.func44 rfl (Nat.le_of_ble_eq_true rfl) rfl]
  obtain ⟨o, s, n, w, d⟩ := j
  unfold Jb.size
  simp only [Jb.cells]
  cases w <;> simp
theorem f41 (n : Nat) (j : Jb) (hp : Heap) : evalCall Try.prog hints (n + 1) 41 [.agg j.cells] hp = some (.agg j.cells, hp, false) := by
  rw [evalCall_at _ _ _ hh41 rfl Try.func41 rfl (Nat.le_of_ble_eq_true rfl) rfl]
  obtain ⟨o, s, n, w, d⟩ := j
  simp only [Jb.cells]
  simp
def bcell (b : List PV) : PV := .sl .sh b.length b
structure Rx where
  parts : List Pt
  bytes : List (List PV)
  busy : Bool
  job : Jb
  from_ : Int
  a1 : Nat
def Rx.cells (x : Rx) : List PV := [.sl .sh x.parts.length (x.parts.flatMap Pt.cells), .sl (.mu x.a1) x.bytes.length (x.bytes.map bcell), .bool x.busy, .int .i64 x.job.o, .int .i64 x.job.s, .int .i64 x.job.n, .bool x.job.w, .str x.job.d, .int .i64 x.from_]
def Jb.zero : Jb := ⟨0, 0, 0, false, []⟩
set_option maxHeartbeats 1000000 in
theorem f64 (n i : Nat) (o : Int) (x : Rx) (hp : Heap) (hi : hp[i]? = some x.cells) (hl : x.parts.length ≤ 1000) (hn : 1001 < n) : evalCall Try.prog hints (n + 1) 64 [.ptr (.heap i) none 0, .int .i64 o] hp = some (.int .i64 (idxI (idx (fun p : Pt => decide (p.o = o)) x.parts)), hp, false) := by
  rw [evalCall_at _ _ _ hh64 rfl Try.func64 rfl (Nat.le_of_ble_eq_true rfl) rfl]
  obtain ⟨l, bs, busy, job, fr, a1⟩ := x
  simp only at hl ⊢
  rw [← idx_range]
  have lX := flat_len Pt.len l
  have gg := fun k h => flat_get Pt.len l k h 0 (by omega)
  simp only [Rx.cells] at hi
  generalize l.flatMap Pt.cells = X at *
  generalize bs.map bcell = Y at *
  simp [hi]
  rw [iter_idx (fun k => { fr := [(0, .ptr (.heap i) none 0), (1, .int .i64 o), (5, .int .i64 k)], hp := hp, base := hp.length, dirty := false }) (fun k => (l[k]?).any fun p : Pt => decide (p.o = o)) (fun k => (.ret, { fr := [(4, .int .i64 k)], hp := hp, base := hp.length, dirty := false })) (.exit 0, { fr := [(0, .ptr (.heap i) none 0), (1, .int .i64 o), (5, .int .i64 l.length), (12, .bool false)], hp := hp, base := hp.length, dirty := false }) l.length]
  · cases (List.range l.length).find? _ <;> simp [idxI]
  · simp
  · omega
  · intro k hk
    have g := gg k hk
    have z : k * 3 + 3 ≤ l.length * 3 := by omega
    have w := wrap_id (x := (k : Int) + 1) (by omega)
    rw [List.getElem?_eq_getElem hk]
    simp only [Option.any_some]
    generalize l[k] = x at *
    obtain ⟨o', f, c⟩ := x
    simp only [Pt.cells, Nat.add_zero, List.getElem?_cons_zero] at *
    by_cases e : o' = o
    · subst e
      simp [-getElem?_pos, List.getElem?_cons_zero, hi, hk, lX, g]
    · have e' : (o' == o) = false := by simp [e]
      simp [-getElem?_pos, List.getElem?_cons_zero, hi, hk, lX, g, w, e, e']
  · simp [hi]
  · simp
  · simp
def askS (l : List Pt) (j : Jb) : Int :=
  if (find l j.o).2 ≠ 0 then 7 else if j.size < 1 ∨ j.size % 16 ≠ 0 then 3 else if 32 < j.size then 4 else if j.s < 0 ∨ (find l j.o).1.c - j.size / 16 < j.s then 6 else 0
theorem find_le {l : List Pt} {o : Int} (h : (find l o).2 = 0) (ho : ∀ q ∈ l, okP q = true) : okP (find l o).1 = true := by
  unfold find at h ⊢
  cases hx : idx (fun p : Pt => decide (p.o = o)) l with
  | none => rw [hx] at h; cases h
  | some k =>
    obtain ⟨h1, h2⟩ := idx_lt hx
    simp only
    rw [List.getD_eq_getElem?_getD, List.getElem?_eq_getElem h1]
    exact ho _ (List.getElem_mem h1)
theorem find_e (l : List Pt) (o : Int) : (find l o).2 = 0 ∨ (find l o).2 = 7 := by
  unfold find; split <;> simp
set_option maxHeartbeats 1000000 in
theorem f27 (n i : Nat) (j : Jb) (d : Dv) (hp : Heap) (hi : hp[i]? = some d.cells) (hl : d.parts.length ≤ 1000) (hn : 1001 < n) (ho : ∀ q ∈ d.parts, okP q = true) :
    evalCall Try.prog hints (n + 4) 27 [.ptr (.heap i) none 0, .agg j.cells] hp = some (.int .i64 (askS d.parts j), hp, false) := by
  have e36 := f36 n i j.o d hp hi hl hn
  have e44 := fun hp => f44 (n + 2) j hp
  rw [evalCall_at _ _ _ hh27 rfl Try.func27 rfl (Nat.le_of_ble_eq_true rfl) rfl]
  unfold askS
  have fl := fun h => @find_le d.parts j.o h ho
  have fe := find_e d.parts j.o
  generalize find d.parts j.o = F at *
  generalize j.size = z at *
  obtain ⟨o, s, nn, w, dd⟩ := j
  obtain ⟨⟨fo, f1, fc⟩, e⟩ := F
  simp only [Jb.cells, Pt.cells] at *
  rcases fe with rfl | rfl
  · have fl := fl rfl
    unfold okP at fl; simp only [decide_eq_true_eq] at fl
    simp only [ne_eq, not_true_eq_false, if_false]
    by_cases c1 : z < 1
    · simp [e36, e44, c1]
    have q1 := tm (a := z) 16 (by omega)
    have q2 := td (a := z) 16 (by omega)
    by_cases c2 : z % 16 = 0
    · have c2' : (z % 16 != 0) = false := by simp [c2]
      by_cases c3 : 32 < z
      · simp [e36, e44, c1, c2, c3, q1]
      · have w2 := wrap_id (x := z / 16) (by omega)
        by_cases c4 : s < 0
        · simp [e36, e44, c1, c2, c3, c4, q1]
        by_cases c5 : fc < s
        · have c6 : fc - z / 16 < s := by omega
          simp [e36, e44, c1, c2, c3, c4, c5, c6, q1]
        have w1 := wrap_id (x := fc - s) (by omega)
        by_cases c6 : fc - s < z / 16
        · have c7 : fc - z / 16 < s := by omega
          simp [e36, e44, c1, c2, c3, c4, c5, c6, c7, q1, q2, w1, w2]
        · have c7 : ¬ fc - z / 16 < s := by omega
          simp [e36, e44, c1, c2, c3, c4, c5, c6, c7, q1, q2, w1, w2]
    · have c2' : (z % 16 != 0) = true := by simp [c2]
      simp [e36, e44, c1, c2, c2', q1]
  · simp [e36, e44]
end Go.Proofs.Ytolhandckojljaa
end

section
namespace Go.Proofs.Ytolhandckojljaa
open Go Go.PS
set_option maxHeartbeats 1000000 in
theorem f40 (n i : Nat) (j : Jb) (x : Rx) (hp : Heap) (hi : hp[i]? = some x.cells) (hl : x.parts.length ≤ 1000) (hn : 1001 < n) (ho : ∀ q ∈ x.parts, okP q = true) :
    evalCall Try.prog hints (n + 2) 40 [.ptr (.heap i) none 0, .agg j.cells] hp = some (.int .i64 (askS x.parts j), hp, false) := by
  have e64 := f64 n i j.o x hp hi hl hn
  rw [evalCall_at _ _ _ hh40 rfl Try.func40 rfl (Nat.le_of_ble_eq_true rfl) rfl]
  unfold askS find Jb.size
  have lX := flat_len Pt.len x.parts
  have g2 := fun k h => flat_get Pt.len x.parts k h 2 (by omega)
  have hx := fun k => @idx_lt Pt (fun p : Pt => decide (p.o = j.o)) x.parts k
  generalize idx _ x.parts = ix at *
  obtain ⟨l, bs, busy, job, fr, a1⟩ := x
  simp only [Rx.cells] at *
  generalize l.flatMap Pt.cells = X at *
  generalize bs.map bcell = Y at *
  obtain ⟨o, s, nn, w, dd⟩ := j
  simp only [Jb.cells] at *
  cases ix with
  | none =>
    simp only [idxI] at e64
    simp [e64]
  | some k =>
    simp only [idxI] at e64
    obtain ⟨hk, -⟩ := hx k rfl
    have g2 := g2 k hk
    have fl := ho l[k] (List.getElem_mem hk)
    have hD : l.getD k Pt.zero = l[k] := by rw [List.getD_eq_getElem?_getD, List.getElem?_eq_getElem hk]; rfl
    simp only [hD]
    generalize l[k] = p at *
    obtain ⟨fo, f1, fc⟩ := p
    unfold okP at fl; simp only [decide_eq_true_eq] at fl
    simp only [Pt.cells, List.getElem?_cons_zero, List.getElem?_cons_succ] at *
    have hk0 : ¬ ((k : Int) < 0) := by omega
    have lD : ((dd.length : Nat) : Int) = (dd.length : Int) := rfl
    have key : ∀ z : Int, (if w = true then (dd.length : Int) else nn) = z → fin Try.prog [.tmp 4] (some (.normal, ⟨[], [], 0, false⟩)) = fin Try.prog [.tmp 4] (some (.normal, ⟨[], [], 0, false⟩)) := fun _ _ => rfl
    cases w with
    | true =>
      simp only [if_true]
      generalize hz : (dd.length : Int) = z at *
      by_cases c1 : z < 1
      · have c1' : z ≤ 0 := by omega
        simp [e64, hk0, hz, c1, c1']
      have c1' : ¬ z ≤ 0 := by omega
      have q1 := tm (a := z) 16 (by omega)
      have q2 := td (a := z) 16 (by omega)
      by_cases c2 : z % 16 = 0
      · by_cases c3 : 32 < z
        · simp [e64, hk0, hz, c1, c1', c2, c3, q1]
        · have w2 := wrap_id (x := z / 16) (by omega)
          have w1 := wrap_id (x := fc - z / 16) (by omega)
          by_cases c4 : s < 0
          · simp [e64, hk0, hz, c1, c1', c2, c3, c4, q1]
          by_cases c5 : fc - z / 16 < s
          · simp [-getElem?_pos, List.getElem?_cons_zero, hi, hk, lX, g2, e64, hk0, hz, c1, c1', c2, c3, c4, c5, q1, q2, w1, w2]
          · simp [-getElem?_pos, List.getElem?_cons_zero, hi, hk, lX, g2, e64, hk0, hz, c1, c1', c2, c3, c4, c5, q1, q2, w1, w2]
      · have c2' : (z % 16 != 0) = true := by simp [c2]
        simp [e64, hk0, hz, c1, c1', c2, c2', q1]
    | false =>
      simp only [Bool.false_eq_true, if_false]
      by_cases c1 : nn < 1
      · have c1' : nn ≤ 0 := by omega
        simp [e64, hk0, c1, c1']
      have c1' : ¬ nn ≤ 0 := by omega
      have q1 := tm (a := nn) 16 (by omega)
      have q2 := td (a := nn) 16 (by omega)
      by_cases c2 : nn % 16 = 0
      · by_cases c3 : 32 < nn
        · simp [e64, hk0, c1, c1', c2, c3, q1]
        · have w2 := wrap_id (x := nn / 16) (by omega)
          have w1 := wrap_id (x := fc - nn / 16) (by omega)
          by_cases c4 : s < 0
          · simp [e64, hk0, c1, c1', c2, c3, c4, q1]
          by_cases c5 : fc - nn / 16 < s
          · simp [-getElem?_pos, List.getElem?_cons_zero, hi, hk, lX, g2, e64, hk0, c1, c1', c2, c3, c4, c5, q1, q2, w1, w2]
          · simp [-getElem?_pos, List.getElem?_cons_zero, hi, hk, lX, g2, e64, hk0, c1, c1', c2, c3, c4, c5, q1, q2, w1, w2]
      · have c2' : (nn % 16 != 0) = true := by simp [c2]
        simp [e64, hk0, c1, c1', c2, c2', q1]
section
variable (d : Dv) (h : d.sec.length = 8192)
theorem Dv.len : d.sec.length = 8192 → d.cells.length = 8196 := fun h => by simp [Dv.cells, h]
theorem Dv.g0 : d.cells[0]? = some (.sl (tg d.w3 d.a3) d.parts.length (d.parts.flatMap Pt.cells)) := rfl
theorem Dv.gj : d.sec.length = 8192 → d.cells[8193]? = some (jobP d.job) := fun h => by
  unfold Dv.cells; rw [List.getElem?_cons_succ, List.getElem?_append_right (by omega), h]; rfl
theorem Dv.gf : d.sec.length = 8192 → d.cells[8194]? = some (.int .i64 d.from_) := fun h => by
  unfold Dv.cells; rw [List.getElem?_cons_succ, List.getElem?_append_right (by omega), h]; rfl
theorem Dv.gl : d.sec.length = 8192 → d.cells[8195]? = some (.sl (tg d.w4 d.a4) d.nlog d.log) := fun h => by
  unfold Dv.cells; rw [List.getElem?_cons_succ, List.getElem?_append_right (by omega), h]; rfl
theorem Dv.sj (j : Option Nat) : d.sec.length = 8192 → d.cells.set 8193 (jobP j) = { d with job := j }.cells := fun h => by
  unfold Dv.cells; rw [List.set_cons_succ, List.set_append_right _ _ (by omega), h]; rfl
theorem Dv.sf (j : Int) : d.sec.length = 8192 → d.cells.set 8194 (.int .i64 j) = { d with from_ := j }.cells := fun h => by
  unfold Dv.cells; rw [List.set_cons_succ, List.set_append_right _ _ (by omega), h]; rfl
end
theorem f24 (n i : Nat) (d : Dv) (hp : Heap) (hi : hp[i]? = some d.cells) (h : d.sec.length = 8192) : evalCall Try.prog hints (n + 1) 24 [.ptr (.heap i) none 0] hp = some (.bool d.job.isSome, hp, false) := by
  rw [evalCall_at _ _ _ hh24 rfl Try.func24 rfl (Nat.le_of_ble_eq_true rfl) rfl]
  have gj := d.gj h
  cases hj : d.job with
  | none =>
    rw [hj] at gj
    simp only [jobP] at gj
    generalize d.cells = C at *
    simp [-getElem?_pos, List.getElem?_cons_zero, hi, gj]
  | some k =>
    rw [hj] at gj
    simp only [jobP] at gj
    generalize d.cells = C at *
    simp [-getElem?_pos, List.getElem?_cons_zero, hi, gj]
end Go.Proofs.Ytolhandckojljaa
end
