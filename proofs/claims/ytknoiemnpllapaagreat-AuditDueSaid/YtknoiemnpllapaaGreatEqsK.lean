/-
  What functions of this program compute, as equations about the evaluator. No condition but those stated.
-/
import Derived.Test.YtknoiemnpllapaaGreatEqsJ

set_option linter.all false
section
namespace Go.Proofs.YtknoiemnpllapaaGreat
open Go Go.PS
theorem any_idxI {α : Type} (q : α → Bool) (l : List α) : l.any q = decide (0 ≤ idxI (idx q l)) := by
  cases hi : idx q l with
  | none => rw [idx_none.1 hi]; simp [idxI]
  | some k =>
    obtain ⟨h1, h2⟩ := idx_lt hi
    rw [List.any_eq_true.2 ⟨_, List.getElem_mem h1, h2⟩]
    simp [idxI]
set_option maxHeartbeats 1000000 in
theorem f156 (n g : Nat) (cap : List PV) (q : R3 → Bool) (l : List R3) (hp : Heap) (hl : l.length ≤ 40) (hn : 60 < n) (ho : (hints g).own = none) (hg : ∀ x ∈ l, ∃ H, evalCall Tryz.prog hints n g (.agg x.cells :: cap) hp = some (.bool (q x), H, false)) :
    evalCall Tryz.prog hints (n + 1) 156 [.sl .sh l.length (l.flatMap R3.cells), .fn g cap] hp = some (.int .i64 (idxI (idx q l)), hp, false) := by
  rw [evalCall_at _ _ _ hh156 rfl Tryz.func156 rfl (Nat.le_of_ble_eq_true rfl) rfl]
  have lX := flat_len R3.len l
  have rr := fun k h => flat_row R3.len l k h
  rw [← idx_range]
  generalize l.flatMap R3.cells = X at *
  simp
  rw [iter_idx (fun k => { fr := [(0, .sl .sh l.length X), (1, .fn g cap), (7, .int .i64 l.length), (8, .int .i64 k)], hp := hp, base := hp.length, dirty := false }) (fun k => (l[k]?).any q) (fun k => (.ret, { fr := [(4, .int .i64 k)], hp := hp, base := hp.length, dirty := false })) (.exit 0, { fr := [(0, .sl .sh l.length X), (1, .fn g cap), (7, .int .i64 l.length), (8, .int .i64 l.length), (9, .bool false)], hp := hp, base := hp.length, dirty := false }) l.length]
  · cases (List.range l.length).find? _ <;> simp [idxI]
  · simp
  · omega
  · intro k hk
    have r := rr k hk
    obtain ⟨H, e⟩ := hg l[k] (List.getElem_mem hk)
    have z : k * 3 + 3 ≤ l.length * 3 := by omega
    have w := wrap_id (x := (k : Int) + 1) (by omega)
    rw [List.getElem?_eq_getElem hk]
    simp only [Option.any_some]
    generalize q l[k] = b at *
    generalize l[k] = x at *
    obtain ⟨o, f, c⟩ := x
    simp only [R3.cells] at *
    cases b <;> simp [hk, lX, r, e, z, w, ho]
  · simp
  · simp
  · simp
theorem f153 (n g : Nat) (cap : List PV) (q : R3 → Bool) (l : List R3) (hp : Heap) (hl : l.length ≤ 40) (hn : 60 < n) (ho : (hints g).own = none) (hg : ∀ x ∈ l, ∃ H, evalCall Tryz.prog hints n g (.agg x.cells :: cap) hp = some (.bool (q x), H, false)) :
    evalCall Tryz.prog hints (n + 2) 153 [.sl .sh l.length (l.flatMap R3.cells), .fn g cap] hp = some (.bool (l.any q), hp, false) := by
  have e := f156 n g cap q l hp hl hn ho hg
  rw [evalCall_at _ _ _ hh153 rfl Tryz.func153 rfl (Nat.le_of_ble_eq_true rfl) rfl]
  generalize l.flatMap R3.cells = X at *
  rw [any_idxI]
  generalize idxI (idx q l) = i at *
  simp [e, ho]
set_option maxHeartbeats 1000000 in
theorem f104 (n g : Nat) (cap : List PV) (q : R3 → Bool) (l : List R3) (hp : Heap) (hl : l.length ≤ 40) (hn : 60 < n) (ho : (hints g).own = none) (hg : ∀ x ∈ l, ∃ H, evalCall Tryz.prog hints n g (.agg x.cells :: cap) hp = some (.bool (q x), H, false)) :
    evalCall Tryz.prog hints (n + 1) 104 [.sl .sh l.length (l.flatMap R3.cells), .fn g cap] hp = some (.int .i64 (idxI (idx q l)), hp, false) := by
  rw [evalCall_at _ _ _ hh104 rfl Tryz.func104 rfl (Nat.le_of_ble_eq_true rfl) rfl]
  have lX := flat_len R3.len l
  have rr := fun k h => flat_row R3.len l k h
  rw [← idx_range]
  generalize l.flatMap R3.cells = X at *
  simp
  rw [iter_idx (fun k => { fr := [(0, .sl .sh l.length X), (1, .fn g cap), (7, .int .i64 l.length), (8, .int .i64 k)], hp := hp, base := hp.length, dirty := false }) (fun k => (l[k]?).any q) (fun k => (.ret, { fr := [(4, .int .i64 k)], hp := hp, base := hp.length, dirty := false })) (.exit 0, { fr := [(0, .sl .sh l.length X), (1, .fn g cap), (7, .int .i64 l.length), (8, .int .i64 l.length), (9, .bool false)], hp := hp, base := hp.length, dirty := false }) l.length]
  · cases (List.range l.length).find? _ <;> simp [idxI]
  · simp
  · omega
  · intro k hk
    have r := rr k hk
    obtain ⟨H, e⟩ := hg l[k] (List.getElem_mem hk)
    have z : k * 3 + 3 ≤ l.length * 3 := by omega
    have w := wrap_id (x := (k : Int) + 1) (by omega)
    rw [List.getElem?_eq_getElem hk]
    simp only [Option.any_some]
    generalize q l[k] = b at *
    generalize l[k] = x at *
    obtain ⟨o, f, c⟩ := x
    simp only [R3.cells] at *
    cases b <;> simp [hk, lX, r, e, z, w, ho]
  · simp
  · simp
  · simp
theorem f52 (n g : Nat) (cap : List PV) (q : R3 → Bool) (l : List R3) (hp : Heap) (hl : l.length ≤ 40) (hn : 60 < n) (ho : (hints g).own = none) (hg : ∀ x ∈ l, ∃ H, evalCall Tryz.prog hints n g (.agg x.cells :: cap) hp = some (.bool (q x), H, false)) :
    evalCall Tryz.prog hints (n + 2) 52 [.sl .sh l.length (l.flatMap R3.cells), .fn g cap] hp = some (.bool (l.any q), hp, false) := by
  have e := f104 n g cap q l hp hl hn ho hg
  rw [evalCall_at _ _ _ hh52 rfl Tryz.func52 rfl (Nat.le_of_ble_eq_true rfl) rfl]
  generalize l.flatMap R3.cells = X at *
  rw [any_idxI]
  generalize idxI (idx q l) = i at *
  simp [e, ho]
set_option maxHeartbeats 1000000 in
theorem f209 (n g : Nat) (cap : List PV) (q : Cl → Bool) (l : List Cl) (hp : Heap) (hl : l.length ≤ 40) (hn : 60 < n) (ho : (hints g).own = none) (hg : ∀ x ∈ l, ∃ H, evalCall Tryz.prog hints n g (.agg x.cells :: cap) hp = some (.bool (q x), H, false)) :
    evalCall Tryz.prog hints (n + 1) 209 [.sl .sh l.length (l.flatMap Cl.cells), .fn g cap] hp = some (.int .i64 (idxI (idx q l)), hp, false) := by
  rw [evalCall_at _ _ _ hh209 rfl Tryz.func209 rfl (Nat.le_of_ble_eq_true rfl) rfl]
  have lX := flat_len Cl.len l
  have rr := fun k h => flat_row Cl.len l k h
  rw [← idx_range]
  generalize l.flatMap Cl.cells = X at *
  simp
  rw [iter_idx (fun k => { fr := [(0, .sl .sh l.length X), (1, .fn g cap), (7, .int .i64 l.length), (8, .int .i64 k)], hp := hp, base := hp.length, dirty := false }) (fun k => (l[k]?).any q) (fun k => (.ret, { fr := [(4, .int .i64 k)], hp := hp, base := hp.length, dirty := false })) (.exit 0, { fr := [(0, .sl .sh l.length X), (1, .fn g cap), (7, .int .i64 l.length), (8, .int .i64 l.length), (9, .bool false)], hp := hp, base := hp.length, dirty := false }) l.length]
  · cases (List.range l.length).find? _ <;> simp [idxI]
  · simp
  · omega
  · intro k hk
    have r := rr k hk
    obtain ⟨H, e⟩ := hg l[k] (List.getElem_mem hk)
    have z : k * 10 + 10 ≤ l.length * 10 := by omega
    have w := wrap_id (x := (k : Int) + 1) (by omega)
    rw [List.getElem?_eq_getElem hk]
    simp only [Option.any_some]
    generalize q l[k] = b at *
    generalize l[k] = x at *
    obtain ⟨x1, x2, x3, x4, x5, x6, x7, x8, x9, x10⟩ := x
    simp only [Cl.cells] at *
    cases b <;> simp [hk, lX, r, e, z, w, ho]
  · simp
  · simp
  · simp
theorem f161 (n g : Nat) (cap : List PV) (q : Cl → Bool) (l : List Cl) (hp : Heap) (hl : l.length ≤ 40) (hn : 60 < n) (ho : (hints g).own = none) (hg : ∀ x ∈ l, ∃ H, evalCall Tryz.prog hints n g (.agg x.cells :: cap) hp = some (.bool (q x), H, false)) :
    evalCall Tryz.prog hints (n + 2) 161 [.sl .sh l.length (l.flatMap Cl.cells), .fn g cap] hp = some (.bool (l.any q), hp, false) := by
  have e := f209 n g cap q l hp hl hn ho hg
  rw [evalCall_at _ _ _ hh161 rfl Tryz.func161 rfl (Nat.le_of_ble_eq_true rfl) rfl]
  generalize l.flatMap Cl.cells = X at *
  rw [any_idxI]
  generalize idxI (idx q l) = i at *
  simp [e, ho]
end Go.Proofs.YtknoiemnpllapaaGreat
end

section
namespace Go.Proofs.YtknoiemnpllapaaGreat
open Go Go.PS
set_option maxHeartbeats 1000000 in
theorem f102 (n : Nat) (t : Tab) (r : Int) (hp : Heap) (hf : frameB t = true) (hn : 40 < n) : evalCall Tryz.prog hints (n + 4) 102 [.agg t.cells, .int .i64 r] hp = some (.int .i64 (units t r t.S), hp, false) := by
  have e68 := f96 (n + 1) t hp
  rw [hf] at e68
  have hf' := hf
  unfold frameB at hf'; simp only [decide_eq_true_eq] at hf'
  have e69 := fun w => f147 n t w hp hf'.2.1
  rw [evalCall_at _ _ _ hh102 rfl Tryz.func102 rfl (Nat.le_of_ble_eq_true rfl) rfl]
  have lS := flat_len R3.len t.S
  have uB := units_b t r hf'.2.1
  have u1 := unit1_b t r
  have hc : t.cells = [.int .i64 t.f, .sl .sh t.W.length (t.W.flatMap R3.cells), .sl .sh t.S.length (t.S.flatMap R3.cells), .sl .sh t.C.length (t.C.flatMap Cl.cells)] := rfl
  have rr := fun k h => flat_row R3.len t.S k h
  rw [hc] at e68 e69 ⊢
  have g0 := fun k h => flat_get R3.len t.S k h 0 (by omega)
  have g1 := fun k h => flat_get R3.len t.S k h 1 (by omega)
  have g2 := fun k h => flat_get R3.len t.S k h 2 (by omega)
  generalize t.S.flatMap R3.cells = Y at *
  generalize t.W.flatMap R3.cells = X at *
  generalize t.C.flatMap Cl.cells = Z at *
  simp [e68]
  rw [iter_count (fun k => { fr := [(1, .int .i64 r), (2, .box [.int .i64 t.f, .sl .sh t.W.length X, .sl .sh t.S.length Y, .sl .sh t.C.length Z]), (5, .int .i64 (units t r (t.S.take k))), (11, .sl .sh t.S.length Y), (12, .int .i64 t.S.length), (13, .int .i64 k)], hp := hp, base := hp.length, dirty := false }) (.exit 0, { fr := [(1, .int .i64 r), (2, .box [.int .i64 t.f, .sl .sh t.W.length X, .sl .sh t.S.length Y, .sl .sh t.C.length Z]), (5, .int .i64 (units t r t.S)), (11, .sl .sh t.S.length Y), (12, .int .i64 t.S.length), (13, .int .i64 t.S.length), (14, .bool false)], hp := hp, base := hp.length, dirty := false }) t.S.length]
  · simp
  · simp [units]
  · omega
  · intro k hk
    have uk := units_take t r t.S k hk
    have ub := uB (t.S.take k)
    have ul : (t.S.take k).length ≤ 32 := by rw [List.length_take]; omega
    have hr := rr k hk
    have g1 := g1 k hk
    have g2 := g2 k hk
    have g0 := g0 k hk
    have e := e69 t.S[k]
    have b1 := u1 t.S[k] hf'.2.1
    have z : k * 3 + 3 ≤ t.S.length * 3 := by omega
    generalize units t r (t.S.take k) = u at *
    rw [uk]
    unfold unit1 at b1 ⊢
    generalize t.S[k] = w at *
    obtain ⟨o, a, b⟩ := w
    simp only [R3.cells] at *
    simp only [Nat.add_zero, List.getElem?_cons_zero, List.getElem?_cons_succ] at g0 g1 g2
    generalize okS t ⟨o, a, b⟩ = ok at *
    have w0 := wrap_id (x := (k : Int) + 1) (by omega)
    by_cases c1 : o = r
    · subst c1
      cases hok : ok with
      | true =>
        subst hok
        rw [if_pos ⟨rfl, rfl⟩] at b1
        have q := td (a := b - a) 4 (by omega)
        have w1 := wrap_id (x := b - a) (by omega)
        have w2 := wrap_id (x := (b - a) / 4) (by omega)
        have w3 := wrap_id (x := u + (b - a) / 4) (by omega)
        simp [-getElem?_pos, List.getElem?_cons_zero, hk, e68, e, lS, hr, g0, g1, g2, z, q, w0, w1, w2, w3]
      | false =>
        subst hok
        simp [-getElem?_pos, List.getElem?_cons_zero, hk, e68, e, lS, hr, g0, g1, g2, z, w0]
    · have c1' : (o == r) = false := by simp [c1]
      simp [-getElem?_pos, List.getElem?_cons_zero, hk, e68, c1, c1', lS, hr, g0, g1, g2, z, w0]
  · rw [List.take_length]
    simp
  · simp
/-- The rows, from 1 on, of which something is so. -/
def rowsQ (why : Int) (q : Nat → Bool) : Nat → List F2
  | 0 => []
  | k + 1 => rowsQ why q k ++ if q k = true then [⟨(k : Int) + 1, why⟩] else []
theorem rowsQ_len (why : Int) (q : Nat → Bool) : ∀ k, (rowsQ why q k).length ≤ k
  | 0 => Nat.le_refl 0
  | k + 1 => by
    have := rowsQ_len why q k
    rw [rowsQ]; split <;> simp <;> omega
set_option maxHeartbeats 1000000 in
theorem f100 (n g : Nat) (cap : List PV) (why : Int) (q : Nat → Bool) (N : Nat) (L : List F2) (hp : Heap) (hN : N ≤ 40) (hL : L.length ≤ 1000) (hn : 60 < n) (ho : (hints g).own = none) (hg : ∀ k, k < N → ∃ H, evalCall Tryz.prog hints n g (.int .i64 k :: cap) hp = some (.bool (q k), H, false)) :
    evalCall Tryz.prog hints (n + 1) 100 [.sl (.mu 2) L.length (L.flatMap F2.cells), .int .i64 why, .int .i64 N, .fn g cap] hp = some (.sl (.mu 2) (L ++ rowsQ why q N).length ((L ++ rowsQ why q N).flatMap F2.cells), hp, false) := by
  rw [evalCall_at _ _ _ hh100 rfl Tryz.func100 rfl (Nat.le_of_ble_eq_true rfl) rfl]
  have lX := fun k => flat_len F2.len (L ++ rowsQ why q k)
  have aX := fun k => flat_all (f := F2.cells) (fun _ => rfl) (L ++ rowsQ why q k)
  obtain ⟨YN, hYN⟩ : ∃ YN, YN = (L ++ rowsQ why q N).flatMap F2.cells := ⟨_, rfl⟩
  obtain ⟨yN, hyN⟩ : ∃ yN, yN = (L ++ rowsQ why q N).length := ⟨_, rfl⟩
  rw [← hYN, ← hyN]
  simp
  rw [iter_count (fun k => { fr := [(0, .sl (.mu 2) (L ++ rowsQ why q k).length ((L ++ rowsQ why q k).flatMap F2.cells)), (1, .int .i64 why), (3, .fn g cap), (10, .int .i64 N), (11, .int .i64 k)], hp := hp, base := hp.length, dirty := false }) (.exit 0, { fr := [(0, .sl (.mu 2) yN YN), (1, .int .i64 why), (3, .fn g cap), (10, .int .i64 N), (11, .int .i64 N), (12, .bool false)], hp := hp, base := hp.length, dirty := false }) N]
  · simp
  · simp [rowsQ]
  · omega
  · intro k hk
    obtain ⟨H, e⟩ := hg k hk
    have w := wrap_id (x := (k : Int) + 1) (by omega)
    have ln := rowsQ_len why q k
    have m1 : (L.length + (rowsQ why q k).length + 1) * 16 ≤ 140737488355328 := by omega
    have lXk := lX k
    have aXk := aX k
    rw [rowsQ, ← List.append_assoc]
    generalize hM : L ++ rowsQ why q k = M at *
    have hMl : M.length = L.length + (rowsQ why q k).length := by rw [← hM, List.length_append]
    rw [← hMl] at m1
    cases hq : q k with
    | true =>
      rw [hq] at e
      rw [List.flatMap_append, List.length_append]
      generalize M.flatMap F2.cells = Y at *
      generalize M.length = y at *
      simp [hk, e, w, ho, lXk, m1, F2.cells]
    | false =>
      rw [hq] at e
      rw [if_neg (by simp), List.append_nil]
      generalize M.flatMap F2.cells = Y at *
      generalize M.length = y at *
      simp [hk, e, w, ho]
  · rw [← hYN, ← hyN]
    simp
  · simp
/-- The size that an own slice's tag tells. -/
def tz (L : List F2) : Nat := match L with
  | [] => 0
  | _ :: _ => 2
theorem tz_ok (L : List F2) : tz L = 2 ∨ tz L = 0 ∧ L.length = 0 := by cases L <;> simp [tz]
theorem tz_snoc (L : List F2) (x : F2) : tz (L ++ [x]) = 2 := by cases L <;> simp [tz]
set_option maxHeartbeats 1000000 in
theorem f100n (n g : Nat) (cap : List PV) (why : Int) (q : Nat → Bool) (N : Nat) (hp : Heap) (hN : N ≤ 40) (hn : 60 < n) (ho : (hints g).own = none) (hg : ∀ k, k < N → ∃ H, evalCall Tryz.prog hints n g (.int .i64 k :: cap) hp = some (.bool (q k), H, false)) :
    evalCall Tryz.prog hints (n + 1) 100 [.sl (.mu 0) 0 [], .int .i64 why, .int .i64 N, .fn g cap] hp = some (.sl (.mu 2) (rowsQ why q N).length ((rowsQ why q N).flatMap F2.cells), hp, false) := by
  rw [evalCall_at _ _ _ hh100 rfl Tryz.func100 rfl (Nat.le_of_ble_eq_true rfl) rfl]
  have lX := fun k => flat_len F2.len (rowsQ why q k)
  have aX := fun k => flat_all (f := F2.cells) (fun _ => rfl) (rowsQ why q k)
  obtain ⟨YN, hYN⟩ : ∃ YN, YN = (rowsQ why q N).flatMap F2.cells := ⟨_, rfl⟩
  obtain ⟨yN, hyN⟩ : ∃ yN, yN = (rowsQ why q N).length := ⟨_, rfl⟩
  obtain ⟨zN, hzN⟩ : ∃ zN, zN = tz (rowsQ why q N) := ⟨_, rfl⟩
  rw [← hYN, ← hyN]
  simp
  rw [iter_count (fun k => { fr := [(0, .sl (.mu (tz (rowsQ why q k))) (rowsQ why q k).length ((rowsQ why q k).flatMap F2.cells)), (1, .int .i64 why), (3, .fn g cap), (10, .int .i64 N), (11, .int .i64 k)], hp := hp, base := hp.length, dirty := false }) (.exit 0, { fr := [(0, .sl (.mu zN) yN YN), (1, .int .i64 why), (3, .fn g cap), (10, .int .i64 N), (11, .int .i64 N), (12, .bool false)], hp := hp, base := hp.length, dirty := false }) N]
  · have hz : zN = 2 ∨ zN = 0 ∧ yN = 0 ∧ YN = [] := by
      rw [hzN, hyN, hYN]
      cases rowsQ why q N <;> simp [tz]
    rcases hz with h | ⟨h, h', h''⟩
    · rw [h]; simp
    · rw [h, h', h'']; simp
  · simp [rowsQ, tz]
  · omega
  · intro k hk
    obtain ⟨H, e⟩ := hg k hk
    have w := wrap_id (x := (k : Int) + 1) (by omega)
    have ln := rowsQ_len why q k
    have m1 : ((rowsQ why q k).length + 1) * 16 ≤ 140737488355328 := by omega
    have lXk := lX k
    have aXk := aX k
    rw [rowsQ]
    generalize hM : rowsQ why q k = M at *
    have t1 := tz_ok M
    have t2 := tz_snoc M
    cases hq : q k with
    | true =>
      rw [hq] at e
      rw [if_pos rfl, t2, List.flatMap_append, List.length_append]
      generalize M.flatMap F2.cells = Y at *
      generalize tz M = z at *
      generalize M.length = y at *
      simp [hk, e, w, ho, lXk, m1, t1, F2.cells]
    | false =>
      rw [hq] at e
      rw [if_neg (by simp), List.append_nil]
      generalize M.flatMap F2.cells = Y at *
      generalize tz M = z at *
      generalize M.length = y at *
      simp [hk, e, w, ho]
  · rw [← hYN, ← hyN, ← hzN]
    simp
  · simp
end Go.Proofs.YtknoiemnpllapaaGreat
end

section
namespace Go.Proofs.YtknoiemnpllapaaGreat
open Go Go.PS
theorem Tab.cells_eq (t : Tab) : t.cells = [.int .i64 t.f, .sl .sh t.W.length (t.W.flatMap R3.cells), .sl .sh t.S.length (t.S.flatMap R3.cells), .sl .sh t.C.length (t.C.flatMap Cl.cells)] := rfl
theorem f158 (n j k : Nat) (t : Tab) (hp : Heap) (hj : hp[j]? = some (.cells t.cells)) (hk : k < t.C.length) : evalCall Tryz.prog hints (n + 3) 158 [.int .i64 k, .ptr (.heap j) none 0] hp = some (.bool (!decide t.C[k].ok), hp, false) := by
  have e := f159 n t.C[k] hp
  have lX := flat_len Cl.len t.C
  have r := flat_row Cl.len t.C k hk
  rw [evalCall_at _ _ _ hh158 rfl Tryz.func158 rfl (Nat.le_of_ble_eq_true rfl) rfl]
  rw [Tab.cells_eq] at hj
  have z : k * 10 + 10 ≤ t.C.length * 10 := by omega
  generalize decide t.C[k].ok = b at *
  generalize t.C[k] = x at *
  generalize t.W.flatMap R3.cells = X at *
  generalize t.S.flatMap R3.cells = Y at *
  generalize t.C.flatMap Cl.cells = Z at *
  obtain ⟨x1, x2, x3, x4, x5, x6, x7, x8, x9, x10⟩ := x
  simp only [Cl.cells] at *
  simp [-getElem?_pos, List.getElem?_cons_zero, hj, hk, lX, r, z, e]
theorem f162 (n j : Nat) (x y : Cl) (hp : Heap) (hj : hp[j]? = some (.cells x.cells)) (hx : x.ok) : evalCall Tryz.prog hints (n + 4) 162 [.agg y.cells, .ptr (.heap j) none 0] hp = some (.bool (decide y.ok && shareC x y), hp, false) := by
  have e1 := fun hp => f159 (n + 1) y hp
  have e2 := fun h hp => f163 n x y hp hx h
  rw [evalCall_at _ _ _ hh162 rfl Tryz.func162 rfl (Nat.le_of_ble_eq_true rfl) rfl]
  by_cases hy : y.ok
  · have e2 := e2 hy
    rw [decide_eq_true hy] at e1 ⊢
    generalize shareC x y = b at *
    clear hy hx
    obtain ⟨x1, x2, x3, x4, x5, x6, x7, x8, x9, x10⟩ := x
    obtain ⟨y1, y2, y3, y4, y5, y6, y7, y8, y9, y10⟩ := y
    simp only [Cl.cells] at *
    simp [-getElem?_pos, List.getElem?_cons_zero, hj, e1, e2]
  · rw [decide_eq_false hy] at e1 ⊢
    generalize shareC x y = b at *
    clear hy hx e2
    obtain ⟨x1, x2, x3, x4, x5, x6, x7, x8, x9, x10⟩ := x
    obtain ⟨y1, y2, y3, y4, y5, y6, y7, y8, y9, y10⟩ := y
    simp only [Cl.cells] at *
    simp [-getElem?_pos, List.getElem?_cons_zero, hj, e1]
theorem f149 (n j : Nat) (x y : R3) (hp : Heap) (hj : hp[j]? = some (.cells x.cells)) : evalCall Tryz.prog hints (n + 3) 149 [.agg y.cells, .ptr (.heap j) none 0] hp = some (.bool (pairS x y), hp, false) := by
  have e := fun hp => f54 n x.a x.b y.a y.b hp
  rw [evalCall_at _ _ _ hh149 rfl Tryz.func149 rfl (Nat.le_of_ble_eq_true rfl) rfl]
  unfold pairS
  obtain ⟨o, a, b⟩ := x
  obtain ⟨o', a', b'⟩ := y
  simp only [R3.cells] at *
  generalize both a b a' b' = B at *
  generalize meets a b a' b' = m at *
  simp [-getElem?_pos, List.getElem?_cons_zero, hj, e]
theorem f154 (n j : Nat) (x y : R3) (hp : Heap) (hj : hp[j]? = some (.cells x.cells)) : evalCall Tryz.prog hints (n + 3) 154 [.agg y.cells, .ptr (.heap j) none 0] hp = some (.bool (pairW x y), hp, false) := by
  have e := fun hp => f54 n x.a x.b y.a y.b hp
  rw [evalCall_at _ _ _ hh154 rfl Tryz.func154 rfl (Nat.le_of_ble_eq_true rfl) rfl]
  unfold pairW
  obtain ⟨o, a, b⟩ := x
  obtain ⟨o', a', b'⟩ := y
  simp only [R3.cells] at *
  generalize both a b a' b' = B at *
  generalize meets a b a' b' = m at *
  cases m
  · by_cases c : o = o'
    · have c' : (o == o') = true := by simp [c]
      simp [-getElem?_pos, List.getElem?_cons_zero, hj, e, c']
      simp [c]
    · have c' : (o == o') = false := by simp [c]
      simp [-getElem?_pos, List.getElem?_cons_zero, hj, e, c']
      simp [c]
  · simp [-getElem?_pos, List.getElem?_cons_zero, hj, e]
theorem f155 (n j : Nat) (r : Int) (y : R3) (hp : Heap) (hj : hp[j]? = some (.cells [.int .i64 r])) : evalCall Tryz.prog hints (n + 1) 155 [.agg y.cells, .ptr (.heap j) none 0] hp = some (.bool (decide (y.o = r)), hp, false) := by
  rw [evalCall_at _ _ _ hh155 rfl Tryz.func155 rfl (Nat.le_of_ble_eq_true rfl) rfl]
  obtain ⟨o', a', b'⟩ := y
  simp only [R3.cells] at *
  by_cases c : o' = r
  · have c' : (o' == r) = true := by simp [c]
    simp [-getElem?_pos, List.getElem?_cons_zero, hj, c']
    simp [c]
  · have c' : (o' == r) = false := by simp [c]
    simp [-getElem?_pos, List.getElem?_cons_zero, hj, c']
    simp [c]
theorem f157 (n : Nat) (y : R3) (hp : Heap) : evalCall Tryz.prog hints (n + 1) 157 [.agg y.cells] hp = some (.bool (decide (y.o = 0)), hp, false) := by
  rw [evalCall_at _ _ _ hh157 rfl Tryz.func157 rfl (Nat.le_of_ble_eq_true rfl) rfl]
  obtain ⟨o', a', b'⟩ := y
  simp only [R3.cells] at *
  by_cases c : o' = 0
  · have c' : (o' == 0) = true := by simp [c]
    simp [c']
    simp [c]
  · have c' : (o' == 0) = false := by simp [c]
    simp [c']
    simp [c]
end Go.Proofs.YtknoiemnpllapaaGreat
end

section
namespace Go.Proofs.YtknoiemnpllapaaGreat
open Go Go.PS
theorem f146 (n j k : Nat) (t : Tab) (hp : Heap) (hj : hp[j]? = some (.cells t.cells)) (hk : k < t.S.length) (hf : t.f ≤ 4096) : evalCall Tryz.prog hints (n + 4) 146 [.int .i64 k, .ptr (.heap j) none 0] hp = some (.bool (!okS t t.S[k]), hp, false) := by
  have e := fun hp => f147 n t t.S[k] hp hf
  have lX := flat_len R3.len t.S
  have r := flat_row R3.len t.S k hk
  rw [evalCall_at _ _ _ hh146 rfl Tryz.func146 rfl (Nat.le_of_ble_eq_true rfl) rfl]
  rw [Tab.cells_eq] at hj e
  have z : k * 3 + 3 ≤ t.S.length * 3 := by omega
  generalize okS t t.S[k] = b at *
  generalize t.S[k] = x at *
  generalize t.W.flatMap R3.cells = X at *
  generalize t.S.flatMap R3.cells = Y at *
  generalize t.C.flatMap Cl.cells = Z at *
  obtain ⟨x1, x2, x3⟩ := x
  simp only [R3.cells] at *
  simp [-getElem?_pos, List.getElem?_cons_zero, hj, hk, lX, r, z, e]
theorem f150 (n j k : Nat) (t : Tab) (hp : Heap) (hj : hp[j]? = some (.cells t.cells)) (hk : k < t.W.length) : evalCall Tryz.prog hints (n + 4) 150 [.int .i64 k, .ptr (.heap j) none 0] hp = some (.bool (!okW t t.W[k]), hp, false) := by
  have e := fun hp => f151 n t t.W[k] hp
  have lX := flat_len R3.len t.W
  have r := flat_row R3.len t.W k hk
  rw [evalCall_at _ _ _ hh150 rfl Tryz.func150 rfl (Nat.le_of_ble_eq_true rfl) rfl]
  rw [Tab.cells_eq] at hj e
  have z : k * 3 + 3 ≤ t.W.length * 3 := by omega
  generalize okW t t.W[k] = b at *
  generalize t.W[k] = x at *
  generalize t.W.flatMap R3.cells = X at *
  generalize t.S.flatMap R3.cells = Y at *
  generalize t.C.flatMap Cl.cells = Z at *
  obtain ⟨x1, x2, x3⟩ := x
  simp only [R3.cells] at *
  simp [-getElem?_pos, List.getElem?_cons_zero, hj, hk, lX, r, z, e]
theorem f101 (n j k : Nat) (t : Tab) (hp : Heap) (hj : hp[j]? = some (.cells t.cells)) (hk : k < t.C.length) (hf : frameB t = true) (hn : 40 < n) : evalCall Tryz.prog hints (n + 5) 101 [.int .i64 k, .ptr (.heap j) none 0] hp = some (.bool (overU t ((k : Int) + 1) t.C[k]), hp, false) := by
  have e := fun hp => f102 n t ((k : Int) + 1) hp hf hn
  have hf' := hf
  unfold frameB at hf'; simp only [decide_eq_true_eq] at hf'
  have lX := flat_len Cl.len t.C
  have g := flat_get Cl.len t.C k hk 4 (by omega)
  rw [evalCall_at _ _ _ hh101 rfl Tryz.func101 rfl (Nat.le_of_ble_eq_true rfl) rfl]
  unfold overU
  rw [Tab.cells_eq] at hj e
  have w := wrap_id (x := (k : Int) + 1) (by omega)
  generalize units t ((k : Int) + 1) t.S = u at *
  generalize t.C[k] = x at *
  generalize t.W.flatMap R3.cells = X at *
  generalize t.S.flatMap R3.cells = Y at *
  generalize t.C.flatMap Cl.cells = Z at *
  obtain ⟨x1, x2, x3, x4, x5, x6, x7, x8, x9, x10⟩ := x
  simp only [Cl.cells, List.getElem?_cons_zero, List.getElem?_cons_succ] at *
  simp [-getElem?_pos, List.getElem?_cons_zero, hj, hk, lX, g, w, e]
theorem f160 (n j k : Nat) (t : Tab) (hp : Heap) (hj : hp[j]? = some (.cells t.cells)) (hk : k < t.C.length) (hC : t.C.length ≤ 8) (hn : 60 < n) : ∃ H, evalCall Tryz.prog hints (n + 7) 160 [.int .i64 k, .ptr (.heap j) none 0] hp = some (.bool (decide t.C[k].ok && (t.C.take k).any fun y => decide y.ok && shareC t.C[k] y), H, false) := by
  have hlt : j < hp.length := (List.getElem?_eq_some_iff.1 hj).1
  have hl : (t.C.take k).length = k := by rw [List.length_take]; omega
  have hj1 : ∀ c, (hp ++ [c])[j]? = some (.cells t.cells) := fun c => by rw [List.getElem?_append_left hlt]; exact hj
  have hlast : ∀ c : PS.Node, (hp ++ [c])[hp.length]? = some c := fun c => by simp
  have e1 := fun hp => f159 (n + 4) t.C[k] hp
  have e2 := fun (hx : t.C[k].ok) => f161 (n + 4) 162 [.ptr (.heap hp.length) none 0] (fun y => decide y.ok && shareC t.C[k] y) (t.C.take k) (hp ++ [.cells t.C[k].cells]) (by omega) (by omega) rfl (fun y _ => ⟨_, f162 n hp.length t.C[k] y _ (hlast _) hx⟩)
  rw [hl] at e2
  have ft := flat_take Cl.len t.C k
  have lX := flat_len Cl.len t.C
  have r := flat_row Cl.len t.C k hk
  rw [← ft] at e2
  rw [evalCall_at _ _ _ hh160 rfl Tryz.func160 rfl (Nat.le_of_ble_eq_true rfl) rfl]
  rw [Tab.cells_eq] at hj hj1
  have z : k * 10 + 10 ≤ t.C.length * 10 := by omega
  have k1 : (k : Int) ≤ t.C.length := by omega
  generalize (t.C.take k).any _ = b at *
  by_cases hx : t.C[k].ok
  · have e2 := e2 hx
    rw [decide_eq_true hx] at e1 ⊢
    clear hx ft
    generalize t.C[k] = x at *
    generalize t.W.flatMap R3.cells = X at *
    generalize t.S.flatMap R3.cells = Y at *
    generalize t.C.flatMap Cl.cells = Z at *
    obtain ⟨x1, x2, x3, x4, x5, x6, x7, x8, x9, x10⟩ := x
    simp only [Cl.cells] at *
    exact ⟨_, by simp [-getElem?_pos, List.getElem?_cons_zero, hj, hj1, hlast, hk, k1, lX, r, z, e1, e2]; rfl⟩
  · rw [decide_eq_false hx] at e1 ⊢
    clear hx ft e2
    generalize t.C[k] = x at *
    generalize t.W.flatMap R3.cells = X at *
    generalize t.S.flatMap R3.cells = Y at *
    generalize t.C.flatMap Cl.cells = Z at *
    obtain ⟨x1, x2, x3, x4, x5, x6, x7, x8, x9, x10⟩ := x
    simp only [Cl.cells] at *
    exact ⟨_, by simp [-getElem?_pos, List.getElem?_cons_zero, hj, hj1, hlast, hk, k1, lX, r, z, e1]; rfl⟩
theorem f148 (n j k : Nat) (t : Tab) (hp : Heap) (hj : hp[j]? = some (.cells t.cells)) (hk : k < t.S.length) (hC : t.S.length ≤ 32) (hn : 60 < n) : ∃ H, evalCall Tryz.prog hints (n + 6) 148 [.int .i64 k, .ptr (.heap j) none 0] hp = some (.bool ((t.S.take k).any fun y => pairS t.S[k] y), H, false) := by
  have hlt : j < hp.length := (List.getElem?_eq_some_iff.1 hj).1
  have hl : (t.S.take k).length = k := by rw [List.length_take]; omega
  have hj1 : ∀ c, (hp ++ [c])[j]? = some (.cells t.cells) := fun c => by rw [List.getElem?_append_left hlt]; exact hj
  have hlast : ∀ c : PS.Node, (hp ++ [c])[hp.length]? = some c := fun c => by simp
  have e2 := f52 (n + 3) 149 [.ptr (.heap hp.length) none 0] (fun y => pairS t.S[k] y) (t.S.take k) (hp ++ [.cells t.S[k].cells]) (by omega) (by omega) rfl (fun y _ => ⟨_, f149 n hp.length t.S[k] y _ (hlast _)⟩)
  rw [hl] at e2
  have ft := flat_take R3.len t.S k
  have lX := flat_len R3.len t.S
  have r := flat_row R3.len t.S k hk
  rw [← ft] at e2
  rw [evalCall_at _ _ _ hh148 rfl Tryz.func148 rfl (Nat.le_of_ble_eq_true rfl) rfl]
  rw [Tab.cells_eq] at hj hj1
  have z : k * 3 + 3 ≤ t.S.length * 3 := by omega
  have k1 : (k : Int) ≤ t.S.length := by omega
  generalize (t.S.take k).any _ = b at *
  clear ft
  generalize t.S[k] = x at *
  generalize t.W.flatMap R3.cells = X at *
  generalize t.S.flatMap R3.cells = Y at *
  generalize t.C.flatMap Cl.cells = Z at *
  obtain ⟨x1, x2, x3⟩ := x
  simp only [R3.cells] at *
  exact ⟨_, by simp [-getElem?_pos, List.getElem?_cons_zero, hj, hj1, hlast, hk, k1, lX, r, z, e2]; rfl⟩
theorem f152 (n j k : Nat) (t : Tab) (hp : Heap) (hj : hp[j]? = some (.cells t.cells)) (hk : k < t.W.length) (hC : t.W.length ≤ 32) (hn : 60 < n) : ∃ H, evalCall Tryz.prog hints (n + 6) 152 [.int .i64 k, .ptr (.heap j) none 0] hp = some (.bool ((t.W.take k).any fun y => pairW t.W[k] y), H, false) := by
  have hlt : j < hp.length := (List.getElem?_eq_some_iff.1 hj).1
  have hl : (t.W.take k).length = k := by rw [List.length_take]; omega
  have hj1 : ∀ c, (hp ++ [c])[j]? = some (.cells t.cells) := fun c => by rw [List.getElem?_append_left hlt]; exact hj
  have hlast : ∀ c : PS.Node, (hp ++ [c])[hp.length]? = some c := fun c => by simp
  have e2 := f153 (n + 3) 154 [.ptr (.heap hp.length) none 0] (fun y => pairW t.W[k] y) (t.W.take k) (hp ++ [.cells t.W[k].cells]) (by omega) (by omega) rfl (fun y _ => ⟨_, f154 n hp.length t.W[k] y _ (hlast _)⟩)
  rw [hl] at e2
  have ft := flat_take R3.len t.W k
  have lX := flat_len R3.len t.W
  have r := flat_row R3.len t.W k hk
  rw [← ft] at e2
  rw [evalCall_at _ _ _ hh152 rfl Tryz.func152 rfl (Nat.le_of_ble_eq_true rfl) rfl]
  rw [Tab.cells_eq] at hj hj1
  have z : k * 3 + 3 ≤ t.W.length * 3 := by omega
  have k1 : (k : Int) ≤ t.W.length := by omega
  generalize (t.W.take k).any _ = b at *
  clear ft
  generalize t.W[k] = x at *
  generalize t.W.flatMap R3.cells = X at *
  generalize t.S.flatMap R3.cells = Y at *
  generalize t.C.flatMap Cl.cells = Z at *
  obtain ⟨x1, x2, x3⟩ := x
  simp only [R3.cells] at *
  exact ⟨_, by simp [-getElem?_pos, List.getElem?_cons_zero, hj, hj1, hlast, hk, k1, lX, r, z, e2]; rfl⟩
end Go.Proofs.YtknoiemnpllapaaGreat
end

section
namespace Go.Proofs.YtknoiemnpllapaaGreat
open Go Go.PS
def qat {α : Type} (l : List α) (p : α → Bool) (k : Nat) : Bool := (l[k]?).any p
def qpre {α : Type} (l : List α) (p : α → α → Bool) (k : Nat) : Bool := (l[k]?).any fun x => (l.take k).any (p x)
theorem qat_lt {α : Type} {l : List α} {p : α → Bool} {k : Nat} (h : k < l.length) : qat l p k = p l[k] := by
  unfold qat; rw [List.getElem?_eq_getElem h]; rfl
theorem qpre_lt {α : Type} {l : List α} {p : α → α → Bool} {k : Nat} (h : k < l.length) : qpre l p k = (l.take k).any (p l[k]) := by
  unfold qpre; rw [List.getElem?_eq_getElem h]; rfl
theorem any_and {α : Type} (b : Bool) (p : α → Bool) (l : List α) : (b && l.any p) = l.any fun y => b && p y := by
  induction l with
  | nil => simp
  | cons a l ih => rw [List.any_cons, List.any_cons, ← ih]; cases b <;> simp
theorem pairC_eq (x y : Cl) : pairC x y = (decide x.ok && (decide y.ok && shareC x y)) := by
  unfold pairC shareC; rw [Bool.and_assoc]
def L94 (t : Tab) (L : List F2) : List F2 := L ++ rowsQ 2 (qat t.C fun c => !decide c.ok) t.C.length ++ rowsQ 3 (qpre t.C pairC) t.C.length
set_option maxHeartbeats 1000000 in
theorem f99 (n : Nat) (t : Tab) (hp : Heap) (hC : t.C.length ≤ 8) (hn : 60 < n) : ∃ H, evalCall Tryz.prog hints (n + 9) 99 [.sl (.mu 0) 0 [], .agg t.cells] hp = some (.sl (.mu 2) (L94 t []).length ((L94 t []).flatMap F2.cells), H, false) := by
  have hj : (hp ++ [PS.Node.cells t.cells])[hp.length]? = some (.cells t.cells) := by simp
  have e1 := f100n (n + 7) 158 [.ptr (.heap hp.length) none 0] 2 (qat t.C fun c => !decide c.ok) t.C.length _ (by omega) (by omega) rfl (fun k hk => ⟨_, by rw [qat_lt hk]; exact f158 (n + 4) hp.length k t _ hj hk⟩)
  have l1 := rowsQ_len 2 (qat t.C fun c => !decide c.ok) t.C.length
  have e2 := f100 (n + 7) 160 [.ptr (.heap hp.length) none 0] 3 (qpre t.C pairC) t.C.length (rowsQ 2 (qat t.C fun c => !decide c.ok) t.C.length) _ (by omega) (by omega) (by omega) rfl (fun k hk => by
    obtain ⟨H, e⟩ := f160 n hp.length k t _ hj hk hC hn
    refine ⟨H, ?_⟩
    rw [qpre_lt hk, e, any_and]
    rw [show (fun y => decide (t.C[k]).ok && (decide y.ok && shareC t.C[k] y)) = pairC t.C[k] from funext fun y => (pairC_eq _ _).symm])
  rw [show rowsQ 2 (qat t.C fun c => !decide c.ok) t.C.length ++ rowsQ 3 (qpre t.C pairC) t.C.length = L94 t [] from rfl] at e2
  rw [evalCall_at _ _ _ hh99 rfl Tryz.func99 rfl (Nat.le_of_ble_eq_true rfl) rfl]
  have px : ((L94 t []).flatMap F2.cells).all plain1 = true := by rw [List.all_flatMap]; simp [F2.cells, plain1]
  have px1 : ((rowsQ 2 (qat t.C fun c => !decide c.ok) t.C.length : List F2).flatMap F2.cells).all plain1 = true := by rw [List.all_flatMap]; simp [F2.cells, plain1]
  rw [Tab.cells_eq] at *
  generalize rowsQ 2 (qat t.C fun c => !decide c.ok) t.C.length = L1 at *
  generalize (L94 t []).flatMap F2.cells = A at *
  generalize (L94 t []).length = a at *
  generalize L1.flatMap F2.cells = A1 at *
  generalize L1.length = a1 at *
  generalize t.W.flatMap R3.cells = X at *
  generalize t.S.flatMap R3.cells = Y at *
  generalize t.C.flatMap Cl.cells = Z at *
  exact ⟨_, by simp [-getElem?_pos, -List.all_eq_true, List.getElem?_cons_zero, hj, e1, e2, px, px1]; rfl⟩
def L92 (t : Tab) (L : List F2) : List F2 := L ++ rowsQ 8 (qat t.S fun c => !okS t c) t.S.length ++ rowsQ 9 (qpre t.S pairS) t.S.length
set_option maxHeartbeats 1000000 in
theorem f97 (n : Nat) (t : Tab) (L : List F2) (hp : Heap) (hL : L.length ≤ 200) (hC : t.S.length ≤ 32) (hf : t.f ≤ 4096) (hn : 60 < n) : ∃ H, evalCall Tryz.prog hints (n + 9) 97 [.sl (.mu 2) L.length (L.flatMap F2.cells), .agg t.cells] hp = some (.sl (.mu 2) (L92 t L).length ((L92 t L).flatMap F2.cells), H, false) := by
  have hj : (hp ++ [PS.Node.cells t.cells])[hp.length]? = some (.cells t.cells) := by simp
  have e1 := f100 (n + 7) 146 [.ptr (.heap hp.length) none 0] 8 (qat t.S fun c => !okS t c) t.S.length L _ (by omega) (by omega) (by omega) rfl (fun k hk => ⟨_, by rw [qat_lt hk]; exact f146 (n + 3) hp.length k t _ hj hk hf⟩)
  have l1 := rowsQ_len 8 (qat t.S fun c => !okS t c) t.S.length
  have e2 := f100 (n + 7) 148 [.ptr (.heap hp.length) none 0] 9 (qpre t.S pairS) t.S.length (L ++ rowsQ 8 (qat t.S fun c => !okS t c) t.S.length) _ (by omega) (by simp; omega) (by omega) rfl (fun k hk => by
    rw [qpre_lt hk]
    exact f148 (n + 1) hp.length k t _ hj hk hC (by omega))
  rw [show L ++ rowsQ 8 (qat t.S fun c => !okS t c) t.S.length ++ rowsQ 9 (qpre t.S pairS) t.S.length = L92 t L from rfl] at e2
  rw [evalCall_at _ _ _ hh97 rfl Tryz.func97 rfl (Nat.le_of_ble_eq_true rfl) rfl]
  have px : ((L92 t L).flatMap F2.cells).all plain1 = true := by rw [List.all_flatMap]; simp [F2.cells, plain1]
  have px1 : ((L ++ rowsQ 8 (qat t.S fun c => !okS t c) t.S.length : List F2).flatMap F2.cells).all plain1 = true := by rw [List.all_flatMap]; simp [F2.cells, plain1]
  rw [Tab.cells_eq] at *
  generalize L ++ rowsQ 8 (qat t.S fun c => !okS t c) t.S.length = L1 at *
  generalize (L92 t L).flatMap F2.cells = A at *
  generalize (L92 t L).length = a at *
  generalize L1.flatMap F2.cells = A1 at *
  generalize L1.length = a1 at *
  generalize L.flatMap F2.cells = A2 at *
  generalize L.length = a2 at *
  generalize t.W.flatMap R3.cells = X at *
  generalize t.S.flatMap R3.cells = Y at *
  generalize t.C.flatMap Cl.cells = Z at *
  exact ⟨_, by simp [-getElem?_pos, -List.all_eq_true, List.getElem?_cons_zero, hj, e1, e2, px, px1]; rfl⟩
end Go.Proofs.YtknoiemnpllapaaGreat
end

section
namespace Go.Proofs.YtknoiemnpllapaaGreat
open Go Go.PS
theorem ioW_none (t : Tab) : ∀ l : List R3, idx (fun w : R3 => decide (w.o = 0)) l = none → ioW t 0 l = false
  | [], _ => rfl
  | w :: l, h => by
    have h' := h
    rw [idx_none, List.any_cons, Bool.or_eq_false_iff] at h
    rw [ioW, if_pos rfl, if_neg (of_decide_eq_false h.1)]
    exact ioW_none t l (idx_none.2 h.2)
theorem ioW_some (t : Tab) : ∀ (l : List R3) (i : Nat) (hi : i < l.length), idx (fun w : R3 => decide (w.o = 0)) l = some i → ioW t 0 l = (okW t l[i] && decide (l[i].b - l[i].a < 2 * (t.C.length : Int)))
  | [], i, hi, _ => by simp at hi
  | w :: l, i, hi, h => by
    rw [idx] at h
    rw [ioW, if_pos rfl]
    by_cases c : w.o = 0
    · rw [if_pos (decide_eq_true c)] at h
      cases h
      rw [if_pos c]; try rfl
    · rw [if_neg (by simp [c])] at h
      rw [if_neg c]
      cases hx : idx (fun w : R3 => decide (w.o = 0)) l with
      | none => rw [hx] at h; cases h
      | some j =>
        rw [hx] at h
        cases h
        have hj : j < l.length := by simpa using hi
        rw [ioW_some t l j hj hx]; rfl
def L93a (t : Tab) (L : List F2) : List F2 := L ++ rowsQ 4 (qat t.W fun w => !okW t w) t.W.length ++ rowsQ 5 (qpre t.W pairW) t.W.length
def L93 (t : Tab) (L : List F2) : List F2 := L93a t L ++ rowsF t 6 (t.C.length + 1) ++ if ioW t 0 t.W = true then [⟨0, 7⟩] else []
def hp93 (t : Tab) (hp : Heap) (k : Nat) : Heap := hp ++ [PS.Node.cells t.cells] ++ (List.range k).map fun i : Nat => PS.Node.cells [.int .i64 (i : Int)]
theorem hp93_succ (t : Tab) (hp : Heap) (k : Nat) : hp93 t hp (k + 1) = hp93 t hp k ++ [PS.Node.cells [.int .i64 k]] := by
  unfold hp93; rw [List.range_succ, List.map_append, ← List.append_assoc]; rfl
theorem hp93_c (t : Tab) (hp : Heap) (k : Nat) : (hp93 t hp k)[hp.length]? = some (.cells t.cells) := by
  unfold hp93
  rw [List.getElem?_append_left (by simp)]
  simp
set_option maxHeartbeats 2000000 in
theorem f98 (n : Nat) (t : Tab) (L : List F2) (hp : Heap) (hL : L.length ≤ 100) (hf : frameB t = true) (hn : 60 < n) : ∃ H, evalCall Tryz.prog hints (n + 9) 98 [.sl (.mu 2) L.length (L.flatMap F2.cells), .agg t.cells] hp = some (.sl (.mu 2) (L93 t L).length ((L93 t L).flatMap F2.cells), H, false) := by
  unfold frameB at hf; simp only [decide_eq_true_eq] at hf
  obtain ⟨HP, hHP⟩ : ∃ HP : Nat → Heap, HP = hp93 t hp := ⟨_, rfl⟩
  have hj : ∀ k, (HP k)[hp.length]? = some (.cells t.cells) := fun k => by rw [hHP]; exact hp93_c t hp k
  have h0 : hp ++ [PS.Node.cells t.cells] = HP 0 := by rw [hHP]; unfold hp93; simp
  have hS : ∀ k, HP (k + 1) = HP k ++ [PS.Node.cells [.int .i64 k]] := fun k => by rw [hHP]; exact hp93_succ t hp k
  have hlast : ∀ k, (HP (k + 1))[(HP k).length]? = some (.cells [.int .i64 k]) := fun k => by rw [hS]; simp
  have e1 : evalCall Tryz.prog hints (n + 8) 100 [.sl (.mu 2) L.length (L.flatMap F2.cells), .int .i64 4, .int .i64 t.W.length, .fn 150 [.ptr (.heap hp.length) none 0]] (HP 0) = _ := f100 (n + 7) 150 [.ptr (.heap hp.length) none 0] 4 (qat t.W fun w => !okW t w) t.W.length L _ (by omega) (by omega) (by omega) rfl (fun k hk => ⟨_, by rw [qat_lt hk]; exact f150 (n + 3) hp.length k t _ (hj 0) hk⟩)
  have l1 := rowsQ_len 4 (qat t.W fun w => !okW t w) t.W.length
  have l2 := rowsQ_len 5 (qpre t.W pairW) t.W.length
  obtain ⟨L1, hL1⟩ : ∃ L1, L1 = L ++ rowsQ 4 (qat t.W fun w => !okW t w) t.W.length := ⟨_, rfl⟩
  rw [← hL1] at e1
  have l3 : L1.length ≤ 120 := by rw [hL1, List.length_append]; omega
  have e2 : evalCall Tryz.prog hints (n + 8) 100 [.sl (.mu 2) L1.length (L1.flatMap F2.cells), .int .i64 5, .int .i64 t.W.length, .fn 152 [.ptr (.heap hp.length) none 0]] (HP 0) = _ := f100 (n + 7) 152 [.ptr (.heap hp.length) none 0] 5 (qpre t.W pairW) t.W.length L1 _ (by omega) (by omega) (by omega) rfl (fun k hk => by
    rw [qpre_lt hk]
    exact f152 (n + 1) hp.length k t _ (hj 0) hk (by omega) (by omega))
  obtain ⟨L2, hL2⟩ : ∃ L2, L2 = L1 ++ rowsQ 5 (qpre t.W pairW) t.W.length := ⟨_, rfl⟩
  rw [← hL2] at e2
  have l4 : L2.length ≤ 140 := by rw [hL2, List.length_append]; omega
  have hL2a : L93a t L = L2 := by rw [hL2, hL1]; rfl
  obtain ⟨M, hM⟩ : ∃ M : Nat → List F2, M = fun k => L2 ++ rowsF t 6 k := ⟨_, rfl⟩
  have hM0 : M 0 = L2 := by rw [hM]; simp [rowsF]
  have hMl : ∀ k, k ≤ 9 → (M k).length ≤ 160 := fun k hk => by have := rowsF_len t 6 k; rw [hM]; simp; omega
  have hMS : ∀ k, k < t.C.length + 1 → M (k + 1) = M k ++ if (!t.W.any fun w => decide (w.o = (k : Int))) = true then [⟨k, 6⟩] else [] := fun k hk => by
    have hd : decide ((k : Int) ≤ t.C.length) = true := decide_eq_true (by omega)
    have : hasB t 6 k = !t.W.any fun w => decide (w.o = (k : Int)) := by
      show (_ && decide ((k : Int) ≤ t.C.length)) = _
      rw [hd, Bool.and_true]
    rw [hM]
    show L2 ++ rowsF t 6 (k + 1) = _
    rw [rowsF, this, List.append_assoc]; rfl
  have e3 : ∀ k : Nat, evalCall Tryz.prog hints (n + 8) 153 [.sl .sh t.W.length (t.W.flatMap R3.cells), .fn 155 [.ptr (.heap (HP k).length) none 0]] (HP (k + 1)) = _ := fun k => f153 (n + 6) 155 [.ptr (.heap (HP k).length) none 0] (fun w => decide (w.o = (k : Int))) t.W _ (by omega) (by omega) rfl (fun w _ => ⟨_, f155 (n + 5) _ k w _ (hlast k)⟩)
  obtain ⟨N1, hN1⟩ : ∃ N1, N1 = t.C.length + 1 := ⟨_, rfl⟩
  have e4 : evalCall Tryz.prog hints (n + 8) 156 [.sl .sh t.W.length (t.W.flatMap R3.cells), .fn 157 []] (HP N1) = _ := f156 (n + 7) 157 [] (fun w => decide (w.o = 0)) t.W _ (by omega) (by omega) rfl (fun w _ => ⟨_, f157 (n + 6) w _⟩)
  have e5 := fun w => f151 (n + 5) t w (HP N1)
  have lM := fun k => flat_len F2.len (M k)
  have aM := fun k => flat_all (f := F2.cells) (fun _ => rfl) (M k)
  have px1 : (L1.flatMap F2.cells).all plain1 = true := by rw [List.all_flatMap]; simp [F2.cells, plain1]
  have px2 : (L2.flatMap F2.cells).all plain1 = true := by rw [List.all_flatMap]; simp [F2.cells, plain1]
  have lX := flat_len R3.len t.W
  have rr := fun k h => flat_row R3.len t.W k h
  have g1 := fun k h => flat_get R3.len t.W k h 1 (by omega)
  have g2 := fun k h => flat_get R3.len t.W k h 2 (by omega)
  have hFL : L93 t L = M N1 ++ if ioW t 0 t.W = true then [⟨0, 7⟩] else [] := by unfold L93; rw [hL2a, hM, hN1]
  have hMN : (M N1).length ≤ 160 := hMl N1 (by omega)
  obtain ⟨FL, hFLe⟩ : ∃ FL, FL = L93 t L := ⟨_, rfl⟩
  rw [← hFLe] at hFL ⊢
  obtain ⟨YF, hYF⟩ : ∃ YF, YF = FL.flatMap F2.cells := ⟨_, rfl⟩
  obtain ⟨yF, hyF⟩ : ∃ yF, yF = FL.length := ⟨_, rfl⟩
  rw [← hYF, ← hyF]
  refine ⟨HP N1, ?_⟩
  rw [evalCall_at _ _ _ hh98 rfl Tryz.func98 rfl (Nat.le_of_ble_eq_true rfl) rfl]
  have w0 := wrap_id (x := (t.C.length : Int) + 1) (by omega)
  have w00 : (t.C.length : Int) + 1 = (N1 : Int) := by omega
  rw [w00] at w0
  have dN : N1 ≤ 9 := by omega
  have iO := fun h => ioW_none t t.W h
  have iS := fun i hi h => ioW_some t t.W i hi h
  have hM0F : L2.flatMap F2.cells = (M 0).flatMap F2.cells := by rw [hM0]
  have hM0l : L2.length = (M 0).length := by rw [hM0]
  rw [hM0F, hM0l] at e2
  rw [hM0F] at px2
  have hS' := fun k => (hS k).symm
  have hz : (M 0).length = 0 + (M 0).length := by omega
  clear hM0F hM0l hM0 hL2a hL1 hL2 hHP hS l1 l2
  simp only [Tab.cells_eq] at h0 hj e5 ⊢
  generalize t.S.flatMap R3.cells = Y at *
  generalize t.C.flatMap Cl.cells = Z at *
  generalize t.W.flatMap R3.cells = X at *
  generalize L1.flatMap F2.cells = A1 at *
  generalize L1.length = a1 at *
  generalize L.flatMap F2.cells = A at *
  generalize L.length = a at *
  simp [-getElem?_pos, -List.all_eq_true, List.getElem?_cons_zero, h0, hj, e1, e2, px1, px2, w0, w00]
  rw [iter_count (fun k => { fr := [(0, .sl (.mu 2) (M k).length ((M k).flatMap F2.cells)), (3, .ptr (.heap hp.length) none 0), (22, .int .i64 N1), (23, .int .i64 k)], hp := HP k, base := hp.length, dirty := false }) (.exit 0, { fr := [(0, .sl (.mu 2) (M N1).length ((M N1).flatMap F2.cells)), (3, .ptr (.heap hp.length) none 0), (22, .int .i64 N1), (23, .int .i64 N1), (24, .bool false)], hp := HP N1, base := hp.length, dirty := false }) N1]
  · cases hx : idx (fun w : R3 => decide (w.o = 0)) t.W with
    | none =>
      rw [hx] at e4
      rw [iO hx, if_neg (by simp), List.append_nil] at hFL
      rw [hFL] at hYF hyF
      rw [hYF, hyF]
      simp only [idxI] at e4
      generalize (M N1).flatMap F2.cells = Q at *
      generalize (M N1).length = q at *
      simp [-getElem?_pos, List.getElem?_cons_zero, hj, e4]
    | some i =>
      obtain ⟨hi, _⟩ := idx_lt hx
      have io := iS i hi hx
      rw [hx] at e4
      rw [io] at hFL
      have e5 := e5 t.W[i]
      have r := rr i hi
      have g1 := g1 i hi
      have g2 := g2 i hi
      have hb : okW t t.W[i] = true → IntKind.i64.wrap (t.W[i].b - t.W[i].a) = t.W[i].b - t.W[i].a := fun h => by
        unfold okW at h; simp only [decide_eq_true_eq] at h
        exact wrap_id (by omega)
      have w2 := wrap_id (x := 2 * (t.C.length : Int)) (by omega)
      have z : i * 3 + 3 ≤ t.W.length * 3 := by omega
      have m1 : ((M N1).length + 1) * 16 ≤ 140737488355328 := by omega
      have lMN := lM N1
      have aMN := aM N1
      clear io iS iO rr hx e3
      simp only [idxI] at e4
      generalize okW t t.W[i] = ok at *
      generalize t.W[i] = w at *
      obtain ⟨o, x, y⟩ := w
      simp only [R3.cells] at *
      simp only [Nat.add_zero, List.getElem?_cons_zero, List.getElem?_cons_succ] at g1 g2
      cases ok with
      | false =>
        rw [Bool.false_and, if_neg (by simp), List.append_nil] at hFL
        rw [hFL] at hYF hyF
        rw [hYF, hyF]
        generalize (M N1).flatMap F2.cells = Q at *
        generalize (M N1).length = q at *
        simp [-getElem?_pos, List.getElem?_cons_zero, hj, e4, e5, r, g1, g2, z, lX, hi]
      | true =>
        have hb := hb rfl
        by_cases c : y - x < 2 * (t.C.length : Int)
        · rw [decide_eq_true c, Bool.true_and, if_pos rfl] at hFL
          rw [hFL, List.flatMap_append] at hYF
          rw [hFL, List.length_append] at hyF
          rw [hYF, hyF]
          generalize (M N1).flatMap F2.cells = Q at *
          generalize (M N1).length = q at *
          simp [-getElem?_pos, List.getElem?_cons_zero, hj, e4, e5, r, g1, g2, z, lX, hi, hb, w2, c, lMN, aMN, m1, F2.cells]
        · rw [decide_eq_false c, Bool.and_false, if_neg (by simp), List.append_nil] at hFL
          rw [hFL] at hYF hyF
          rw [hYF, hyF]
          generalize (M N1).flatMap F2.cells = Q at *
          generalize (M N1).length = q at *
          simp [-getElem?_pos, List.getElem?_cons_zero, hj, e4, e5, r, g1, g2, z, lX, hi, hb, w2, c]
  · simp
  · omega
  · intro k hk
    have lMk := lM k
    have aMk := aM k
    have ml := hMl k (by omega)
    have m1 : ((M k).length + 1) * 16 ≤ 140737488355328 := by omega
    have e := e3 k
    have hs := hS' k
    have hl := hlast k
    have hjk := hj (k + 1)
    have hla : ∀ c : PS.Node, (HP k ++ [c])[(HP k).length]? = some c := fun c => by simp
    have hbb : ¬ (HP k).length < hp.length := by
      have := (List.getElem?_eq_some_iff.1 (hj k)).1
      omega
    have w := wrap_id (x := (k : Int) + 1) (by omega)
    rw [hMS k (by omega)]
    cases hb : t.W.any fun w => decide (w.o = (k : Int)) with
    | true =>
      rw [hb] at e
      rw [if_neg (by simp), List.append_nil]
      generalize (M k).flatMap F2.cells = Q at *
      generalize (M k).length = q at *
      simp [-getElem?_pos, List.getElem?_cons_zero, hk, hs, hl, hla, hbb, hjk, e, w]
    | false =>
      rw [hb] at e
      rw [if_pos (by simp), List.flatMap_append, List.length_append]
      generalize (M k).flatMap F2.cells = Q at *
      generalize (M k).length = q at *
      simp [-getElem?_pos, List.getElem?_cons_zero, hk, hs, hl, hla, hbb, hjk, e, w, lMk, aMk, m1, F2.cells]
  · simp
  · simp
end Go.Proofs.YtknoiemnpllapaaGreat
end

section
namespace Go.Proofs.YtknoiemnpllapaaGreat
open Go Go.PS
theorem rows_eq (t : Tab) (k : Nat) (q : Nat → Bool) (N : Nat) (h0 : hasB t k 0 = false) (h1 : ∀ i, i < N → hasB t k (i + 1) = q i) : ∀ j, j ≤ N → rowsF t k (j + 1) = rowsQ k q j
  | 0, _ => by rw [rowsF, rowsF, h0]; rfl
  | j + 1, h => by
    rw [rowsF, rows_eq t k q N h0 h1 j (by omega), h1 j (by omega), rowsQ]
    rfl
theorem rows_tail (t : Tab) (k m : Nat) (h : ∀ i, m ≤ i → hasB t k i = false) : ∀ j, rowsF t k (m + j) = rowsF t k m
  | 0 => rfl
  | j + 1 => by
    rw [← Nat.add_assoc, rowsF, h _ (by omega), rows_tail t k m h j]
    simp
theorem rows_all (t : Tab) (k : Nat) (q : Nat → Bool) (N : Nat) (hN : N ≤ 32) (h0 : hasB t k 0 = false) (h1 : ∀ i, i < N → hasB t k (i + 1) = q i) (h2 : ∀ i, N ≤ i → hasB t k (i + 1) = false) : rowsF t k 33 = rowsQ k q N := by
  have := rows_tail t k (N + 1) (fun i hi => by
    obtain ⟨j, rfl⟩ : ∃ j, i = j + 1 := ⟨i - 1, by omega⟩
    exact h2 j (by omega)) (32 - N)
  rw [show N + 1 + (32 - N) = 33 by omega] at this
  rw [this, rows_eq t k q N h0 h1 N (Nat.le_refl _)]
theorem ats_ge {α : Type} (l : List α) (p : α → Bool) (i : Nat) (h : l.length ≤ i) : ats l (i + 1) p = false := by
  rw [ats, List.getElem?_eq_none h]; rfl
theorem rows_at {α : Type} (t : Tab) (k : Nat) (l : List α) (p : α → Bool) (hl : l.length ≤ 32) (h : ∀ r, hasB t k r = ats l r p) : rowsF t k 33 = rowsQ k (qat l p) l.length :=
  rows_all t k _ _ hl (h 0) (fun i _ => h (i + 1)) (fun i hi => (h (i + 1)).trans (ats_ge l p i hi))
theorem any_range_take {α : Type} (p : α → Bool) (l : List α) (i : Nat) (h : i ≤ l.length) : ((List.range i).any fun k => (l[k]?).any p) = (l.take i).any p := by
  rw [← any_range p (l.take i), List.length_take, Nat.min_eq_left h]
  rw [Bool.eq_iff_iff, List.any_eq_true, List.any_eq_true]
  constructor
  · rintro ⟨k, hk, e⟩
    have hk' := List.mem_range.1 hk
    refine ⟨k, hk, ?_⟩
    rw [List.getElem?_take_of_lt hk']; exact e
  · rintro ⟨k, hk, e⟩
    have hk' := List.mem_range.1 hk
    refine ⟨k, hk, ?_⟩
    rw [List.getElem?_take_of_lt hk'] at e; exact e
theorem rows_pre {α : Type} (t : Tab) (k : Nat) (l : List α) (p : α → α → Bool) (hl : l.length ≤ 32) (h : ∀ r, hasB t k r = pre l r p) : rowsF t k 33 = rowsQ k (qpre l p) l.length :=
  rows_all t k _ _ hl (h 0) (fun i hi => by
    rw [h, pre, qpre, List.getElem?_eq_getElem hi]
    exact any_range_take _ l i (Nat.le_of_lt hi)) (fun i hi => by
    rw [h, pre, List.getElem?_eq_none hi]; rfl)
theorem rows_own (t : Tab) (hC : t.C.length ≤ 32) : rowsF t 6 33 = rowsF t 6 (t.C.length + 1) := by
  have := rows_tail t 6 (t.C.length + 1) (fun i hi => by
    have : decide ((i : Int) ≤ t.C.length) = false := decide_eq_false (by omega)
    show (_ && decide ((i : Int) ≤ t.C.length)) = false
    rw [this, Bool.and_false]) (32 - t.C.length)
  rw [show t.C.length + 1 + (32 - t.C.length) = 33 by omega] at this
  exact this
theorem rows_io (t : Tab) : rowsF t 7 33 = if ioW t 0 t.W = true then [⟨0, 7⟩] else [] := by
  have := rows_tail t 7 1 (fun i hi => ioW_ne t i (by omega) t.W) 32
  rw [show 1 + 32 = 33 by omega] at this
  rw [this, rowsF, rowsF]
  show [] ++ (if ioW t 0 t.W = true then _ else _) = _
  rw [List.nil_append]
  rfl
def L66 (t : Tab) : List F2 := L92 t (L93 t (L94 t [])) ++ rowsQ 10 (fun k => (t.C[k]?).any (overU t ((k : Int) + 1))) t.C.length
theorem L66_eq (t : Tab) (hf : frameB t = true) : L66 t = faults t := by
  unfold faults; rw [if_pos hf]
  unfold frameB at hf; simp only [decide_eq_true_eq] at hf
  have a2 := rows_at t 2 t.C (fun c => !decide c.ok) (by omega) (fun _ => rfl)
  have a3 := rows_pre t 3 t.C pairC (by omega) (fun _ => rfl)
  have a4 := rows_at t 4 t.W (fun w => !okW t w) (by omega) (fun _ => rfl)
  have a5 := rows_pre t 5 t.W pairW (by omega) (fun _ => rfl)
  have a6 := rows_own t (by omega)
  have a7 := rows_io t
  have a8 := rows_at t 8 t.S (fun w => !okS t w) (by omega) (fun _ => rfl)
  have a9 := rows_pre t 9 t.S pairS (by omega) (fun _ => rfl)
  have a10 := rows_all t 10 (fun k => (t.C[k]?).any (overU t ((k : Int) + 1))) t.C.length (by omega) rfl (fun i hi => by
    show (t.C[i]?).any (overU t ((i + 1 : Nat) : Int)) = _
    rw [show ((i + 1 : Nat) : Int) = (i : Int) + 1 by omega]) (fun i hi => by
    show (t.C[i]?).any (overU t ((i + 1 : Nat) : Int)) = _
    rw [List.getElem?_eq_none hi]; rfl)
  simp only [allF, a2, a3, a4, a5, a6, a7, a8, a9, a10, List.nil_append]
  simp only [L66, L92, L93, L93a, L94, List.nil_append, List.append_assoc]
  rfl
end Go.Proofs.YtknoiemnpllapaaGreat
end

section
namespace Go.Proofs.YtknoiemnpllapaaGreat
open Go Go.PS
theorem L94_len (t : Tab) (h : t.C.length ≤ 8) : (L94 t []).length ≤ 16 := by
  have := rowsQ_len 2 (qat t.C fun c => !decide c.ok) t.C.length
  have := rowsQ_len 3 (qpre t.C pairC) t.C.length
  unfold L94; simp only [List.length_append, List.length_nil]; omega
theorem L93_len (t : Tab) (L : List F2) (h : t.C.length ≤ 8) (hW : t.W.length ≤ 9) : (L93 t L).length ≤ L.length + 28 := by
  have := rowsQ_len 4 (qat t.W fun w => !okW t w) t.W.length
  have := rowsQ_len 5 (qpre t.W pairW) t.W.length
  have := rowsF_len t 6 (t.C.length + 1)
  have : (if ioW t 0 t.W = true then [(⟨0, 7⟩ : F2)] else []).length ≤ 1 := by split <;> simp
  unfold L93 L93a; simp only [List.length_append]; omega
theorem L92_len (t : Tab) (L : List F2) (hS : t.S.length ≤ 32) : (L92 t L).length ≤ L.length + 64 := by
  have := rowsQ_len 8 (qat t.S fun c => !okS t c) t.S.length
  have := rowsQ_len 9 (qpre t.S pairS) t.S.length
  unfold L92; simp only [List.length_append]; omega
set_option maxHeartbeats 1000000 in
theorem f48 (n : Nat) (t : Tab) (hp : Heap) (hn : 60 < n) : ∃ H, evalCall Tryz.prog hints (n + 10) 48 [.agg t.cells] hp = some (.sl (.mu 2) (faults t).length ((faults t).flatMap F2.cells), H, false) := by
  have hj : (hp ++ [PS.Node.cells t.cells])[hp.length]? = some (.cells t.cells) := by simp
  have e68 := f96 (n + 7) t (hp ++ [PS.Node.cells t.cells])
  rw [evalCall_at _ _ _ hh48 rfl Tryz.func48 rfl (Nat.le_of_ble_eq_true rfl) rfl]
  have lX := flat_len R3.len t.W
  cases hf : frameB t with
  | false =>
    rw [hf] at e68
    rw [show faults t = [⟨0, 1⟩] by unfold faults; rw [if_neg (by rw [hf]; simp)]]
    simp only [Tab.cells_eq] at *
    generalize t.S.flatMap R3.cells = Y at *
    generalize t.C.flatMap Cl.cells = Z at *
    generalize t.W.flatMap R3.cells = X at *
    exact ⟨_, by simp [-getElem?_pos, List.getElem?_cons_zero, hj, e68, F2.cells]; rfl⟩
  | true =>
    rw [hf] at e68
    have hf' := hf
    unfold frameB at hf'; simp only [decide_eq_true_eq] at hf'
    obtain ⟨H1, e1⟩ := f99 n t (hp ++ [PS.Node.cells t.cells]) (by omega) hn
    have a1 := L94_len t (by omega)
    obtain ⟨H2, e2⟩ := f98 n t (L94 t []) (hp ++ [PS.Node.cells t.cells]) (by omega) hf hn
    have a2 := L93_len t (L94 t []) (by omega) (by omega)
    obtain ⟨H3, e3⟩ := f97 n t (L93 t (L94 t [])) (hp ++ [PS.Node.cells t.cells]) (by omega) (by omega) (by omega) hn
    have a3 := L92_len t (L93 t (L94 t [])) (by omega)
    have e4 : evalCall Tryz.prog hints (n + 9) 100 [.sl (.mu 2) (L92 t (L93 t (L94 t []))).length ((L92 t (L93 t (L94 t []))).flatMap F2.cells), .int .i64 10, .int .i64 t.C.length, .fn 101 [.ptr (.heap hp.length) none 0]] (hp ++ [PS.Node.cells t.cells]) = _ := f100 (n + 8) 101 [.ptr (.heap hp.length) none 0] 10 (fun k => (t.C[k]?).any (overU t ((k : Int) + 1))) t.C.length (L92 t (L93 t (L94 t []))) _ (by omega) (by omega) (by omega) rfl (fun k hk => ⟨_, by rw [List.getElem?_eq_getElem hk]; exact f101 (n + 3) hp.length k t _ hj hk hf (by omega)⟩)
    rw [show L92 t (L93 t (L94 t [])) ++ rowsQ 10 (fun k => (t.C[k]?).any (overU t ((k : Int) + 1))) t.C.length = L66 t from rfl, L66_eq t hf] at e4
    have p1 : ((L94 t []).flatMap F2.cells).all plain1 = true := by rw [List.all_flatMap]; simp [F2.cells, plain1]
    have p2 : ((L93 t (L94 t [])).flatMap F2.cells).all plain1 = true := by rw [List.all_flatMap]; simp [F2.cells, plain1]
    have p3 : ((L92 t (L93 t (L94 t []))).flatMap F2.cells).all plain1 = true := by rw [List.all_flatMap]; simp [F2.cells, plain1]
    have p4 : ((faults t).flatMap F2.cells).all plain1 = true := by rw [List.all_flatMap]; simp [F2.cells, plain1]
    simp only [Tab.cells_eq] at *
    generalize (L92 t (L93 t (L94 t []))).flatMap F2.cells = A3 at *
    generalize (L92 t (L93 t (L94 t []))).length = n3 at *
    generalize (L93 t (L94 t [])).flatMap F2.cells = A2 at *
    generalize (L93 t (L94 t [])).length = n2 at *
    generalize (L94 t []).flatMap F2.cells = A1 at *
    generalize (L94 t []).length = n1 at *
    generalize (faults t).flatMap F2.cells = A at *
    generalize (faults t).length = n0 at *
    generalize t.S.flatMap R3.cells = Y at *
    generalize t.C.flatMap Cl.cells = Z at *
    generalize t.W.flatMap R3.cells = X at *
    refine ⟨hp ++ [PS.Node.cells [.int .i64 t.f, .sl .sh t.W.length X, .sl .sh t.S.length Y, .sl .sh t.C.length Z]], ?_⟩
    simp [-getElem?_pos, -List.all_eq_true, List.getElem?_cons_zero, hj, e68, e1, e2, e3, e4, p1, p2, p3, p4]
theorem f18 (n : Nat) (t : Tab) (hp : Heap) (hn : 60 < n) : ∃ H, evalCall Tryz.prog hints (n + 11) 18 [.agg t.cells] hp = some (.bool (decide ((faults t).length = 0)), H, false) := by
  obtain ⟨H, e⟩ := f48 n t hp hn
  rw [evalCall_at _ _ _ hh18 rfl Tryz.func18 rfl (Nat.le_of_ble_eq_true rfl) rfl]
  have p4 : ((faults t).flatMap F2.cells).all plain1 = true := by rw [List.all_flatMap]; simp [F2.cells, plain1]
  simp only [Tab.cells_eq] at *
  generalize (faults t).flatMap F2.cells = A at *
  generalize (faults t).length = n0 at *
  generalize t.S.flatMap R3.cells = Y at *
  generalize t.C.flatMap Cl.cells = Z at *
  generalize t.W.flatMap R3.cells = X at *
  by_cases c : n0 = 0
  · subst c
    exact ⟨_, by simp [-getElem?_pos, -List.all_eq_true, List.getElem?_cons_zero, e, p4]; rfl⟩
  · have c' : ((n0 : Int) == 0) = false := by simp [c]
    exact ⟨_, by simp [-getElem?_pos, -List.all_eq_true, List.getElem?_cons_zero, e, p4, c, c']; rfl⟩
end Go.Proofs.YtknoiemnpllapaaGreat
end

section
namespace Go.Proofs.YtknoiemnpllapaaGreat
open Go Go.PS
/-- Tables that are right. -/
structure Good (t : Tab) : Prop where
  frame : frameB t = true
  cok : ∀ x ∈ t.C, x.ok
  cpair : t.C.Pairwise fun y x => pairC x y = false
  wok : ∀ w ∈ t.W, okW t w = true
  wpair : t.W.Pairwise fun y x => pairW x y = false
  own : ∀ r : Nat, r ≤ t.C.length → (t.W.any fun w => decide (w.o = (r : Int))) = true
  io : ioW t 0 t.W = false
  sok : ∀ w ∈ t.S, okS t w = true
  spair : t.S.Pairwise fun y x => pairS x y = false
  quota : ∀ (i : Nat) (h : i < t.C.length), overU t ((i : Int) + 1) t.C[i] = false
theorem rowsF_nil {t : Tab} {k : Nat} : ∀ {n : Nat}, rowsF t k n = [] → ∀ r, r < n → hasB t k r = false
  | 0, _, r, h => absurd h (by omega)
  | n + 1, h, r, hr => by
    rw [rowsF, List.append_eq_nil_iff] at h
    by_cases e : r = n
    · subst e
      cases hb : hasB t k r with
      | false => rfl
      | true => rw [hb] at h; simp at h
    · exact rowsF_nil h.1 r (by omega)
theorem allF_nil' {t : Tab} : ∀ {j : Nat}, allF t j = [] → ∀ k, 2 ≤ k → k < j + 2 → rowsF t k 33 = []
  | 0, _, k, h1, h2 => absurd h2 (by omega)
  | j + 1, h, k, h1, h2 => by
    rw [allF, List.append_eq_nil_iff] at h
    by_cases e : k = j + 2
    · subst e; exact h.2
    · exact allF_nil' h.1 k h1 (by omega)
theorem ats_all {α : Type} {l : List α} {p : α → Bool} (hl : l.length ≤ 32) (h : ∀ r, r < 33 → ats l r p = false) : ∀ x ∈ l, p x = false := fun x hx => by
  obtain ⟨i, hi, rfl⟩ := List.getElem_of_mem hx
  have := h (i + 1) (by omega)
  rw [ats, List.getElem?_eq_getElem hi] at this
  exact this
theorem pre_all {α : Type} {l : List α} {p : α → α → Bool} (hl : l.length ≤ 32) (h : ∀ r, r < 33 → pre l r p = false) : l.Pairwise fun y x => p x y = false := by
  rw [List.pairwise_iff_getElem]
  intro i j hi hj hij
  have := h (j + 1) (by omega)
  rw [pre, List.getElem?_eq_getElem hj] at this
  simp only [Option.any_some] at this
  rw [List.any_eq_false] at this
  have := this i (List.mem_range.2 hij)
  rw [List.getElem?_eq_getElem hi] at this
  simpa using this
theorem good_of {t : Tab} (h : faults t = []) : Good t := by
  unfold faults at h
  cases hf : frameB t with
  | false => rw [hf] at h; simp at h
  | true =>
    rw [hf, if_pos rfl] at h
    have hb := fun k h1 h2 => rowsF_nil (allF_nil' h k h1 h2)
    have hf' := hf
    unfold frameB at hf'; simp only [decide_eq_true_eq] at hf'
    refine ⟨hf, ?_, ?_, ?_, ?_, ?_, ?_, ?_, ?_, ?_⟩
    · intro x hx
      have := ats_all (by omega) (hb 2 (by omega) (by omega)) x hx
      simpa using this
    · exact pre_all (by omega) (hb 3 (by omega) (by omega))
    · intro x hx
      have := ats_all (by omega) (hb 4 (by omega) (by omega)) x hx
      simpa using this
    · exact pre_all (by omega) (hb 5 (by omega) (by omega))
    · intro r hr
      have := hb 6 (by omega) (by omega) r (by omega)
      have e : (!(t.W.any fun w => decide (w.o = (r : Int))) && decide ((r : Int) ≤ t.C.length)) = false := this
      rw [decide_eq_true (show (r : Int) ≤ t.C.length by omega), Bool.and_true] at e
      simpa using e
    · exact hb 7 (by omega) (by omega) 0 (by omega)
    · intro x hx
      have := ats_all (by omega) (hb 8 (by omega) (by omega)) x hx
      simpa using this
    · exact pre_all (by omega) (hb 9 (by omega) (by omega))
    · intro i hi
      have : ats t.C (i + 1) (overU t ((i + 1 : Nat) : Int)) = false := hb 10 (by omega) (by omega) (i + 1) (by omega)
      rw [ats, List.getElem?_eq_getElem hi] at this
      exact this
theorem Good.nil {t : Tab} (g : Good t) : faults t = [] := by
  refine faults_nil g.frame fun k r h1 h2 h3 => ?_
  have hb : k = 2 ∨ k = 3 ∨ k = 4 ∨ k = 5 ∨ k = 6 ∨ k = 7 ∨ k = 8 ∨ k = 9 ∨ k = 10 := by omega
  rcases hb with rfl | rfl | rfl | rfl | rfl | rfl | rfl | rfl | rfl
  · exact ats_false (fun x hx => by simp [g.cok x hx]) r
  · exact pre_false g.cpair (fun x y _ _ h => h) r
  · exact ats_false (fun x hx => by simp [g.wok x hx]) r
  · exact pre_false g.wpair (fun x y _ _ h => h) r
  · show (!(t.W.any fun w => decide (w.o = (r : Int))) && decide ((r : Int) ≤ t.C.length)) = false
    by_cases c : r ≤ t.C.length
    · rw [g.own r c]; rfl
    · rw [decide_eq_false (by omega), Bool.and_false]
  · show ioW t r t.W = false
    by_cases c : r = 0
    · subst c; exact g.io
    · exact ioW_ne t r c _
  · exact ats_false (fun x hx => by simp [g.sok x hx]) r
  · exact pre_false g.spair (fun x y _ _ h => h) r
  · show ats t.C r (overU t r) = false
    unfold ats
    cases r with
    | zero => rfl
    | succ i =>
      simp only
      by_cases hi : i < t.C.length
      · rw [List.getElem?_eq_getElem hi]
        exact g.quota i hi
      · rw [List.getElem?_eq_none (by omega)]; rfl
end Go.Proofs.YtknoiemnpllapaaGreat
end
