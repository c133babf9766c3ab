/-
  What functions of this program compute, as equations about the evaluator. No condition but those stated.
-/
import Derived.Test.YtehemoachikpgaaRegionRowsEqs3
set_option linter.all false
section
namespace Go.Proofs.Ytehemoachikpgaa
open Go Go.PS
theorem f56 (n : Nat) (s : Sp) (x : Int) (hp : Heap) : evalCall Try.prog hints (n + 2) 56 [.agg s.cells, .int .i64 x] hp = some (.bool (s.is && decide (s.a ≤ x ∧ x < s.b)), hp, false) := by
  have e := fun hp => f79 n s.a s.b hp
  rw [evalCall_at _ _ _ hh56 rfl Try.func56 rfl (Nat.le_of_ble_eq_true rfl) rfl]
  obtain ⟨a, b⟩ := s
  unfold Sp.is Sp.cells
  simp only at *
  generalize decide (0 ≤ a ∧ a < b) = d at *
  cases d with
  | false => simp [-getElem?_pos, List.getElem?_cons_zero, e]
  | true =>
    by_cases c1 : a ≤ x
    · by_cases c2 : x < b
      · simp [-getElem?_pos, List.getElem?_cons_zero, e, c1, c2]
      · simp [-getElem?_pos, List.getElem?_cons_zero, e, c1, c2]
    · simp [-getElem?_pos, List.getElem?_cons_zero, e, c1]
def holdR (at' : Int) (r : R3) : Bool := decide (r.a ≤ at' ∧ at' < r.a + r.b)
theorem hold_is {r : R3} (h : mayR r = true) (x : Int) : ((sp r).is && decide ((sp r).a ≤ x ∧ x < (sp r).b)) = holdR x r := by
  rw [sp_is h, Bool.true_and]; rfl
theorem holds_is {r : R3} (h : mayR r = true) (x : Int) : holds r.a (r.a + r.b) x = holdR x r := by
  unfold mayR at h; simp only [decide_eq_true_eq] at h
  unfold holds holdR
  rw [decide_eq_decide]; omega
theorem f55 (n j : Nat) (r : R3) (x : Int) (hp : Heap) (hj : hp[j]? = some (.cells [.int .i64 x])) (h : mayR r = true) : evalCall Try.prog hints (n + 3) 55 [.agg r.cells, .ptr (.heap j) none 0] hp = some (.bool (holdR x r), hp, false) := by
  have e57 := f57 (n + 1) r hp h
  have e56 := f56 n (sp r) x hp
  rw [hold_is h] at e56
  rw [evalCall_at _ _ _ hh55 rfl Try.func55 rfl (Nat.le_of_ble_eq_true rfl) rfl]
  generalize holdR x r = b at *
  generalize sp r = s at *
  obtain ⟨o, a, b'⟩ := r
  obtain ⟨sa, sb⟩ := s
  simp only [R3.cells, Sp.cells] at *
  simp [-getElem?_pos, List.getElem?_cons_zero, hj, e57, e56]
set_option maxHeartbeats 1000000 in
theorem f54 (n g : Nat) (cap : List PV) (q : R3 → Bool) (l : List R3) (hp : Heap) (hl : l.length ≤ 40) (hn : 60 < n) (ho : (hints g).own = none) (hg : ∀ x ∈ l, ∃ H, evalCall Try.prog hints n g (.agg x.cells :: cap) hp = some (.bool (q x), H, false)) :
    evalCall Try.prog hints (n + 1) 54 [.sl .sh l.length (l.flatMap R3.cells), .fn g cap] hp = some (.int .i64 (idxI (idx q l)), hp, false) := by
  rw [evalCall_at _ _ _ hh54 rfl Try.func54 rfl (Nat.le_of_ble_eq_true rfl) rfl]
  have lX := flat_len R3.len l
  have rr := fun k h => flat_row R3.len l k h
  rw [← idx_range]
  generalize l.flatMap R3.cells = X at *
  simp
  rw [iter_idx (fun k => { fr := [(0, .sl .sh l.length X), (1, .fn g cap), (7, .int .i64 l.length), (8, .int .i64 k)], hp := hp, base := hp.length, dirty := false }) (fun k => (l[k]?).any q) (fun k => (.ret, { fr := [(4, .int .i64 k)], hp := hp, base := hp.length, dirty := false })) (.exit 0, { fr := [(0, .sl .sh l.length X), (1, .fn g cap), (7, .int .i64 l.length), (8, .int .i64 l.length), (9, .bool false)], hp := hp, base := hp.length, dirty := false }) l.length]
  · cases (List.range l.length).find? _ <;> simp [idxI]
  · simp
  · omega
  · intro k hk
    have r := rr k hk
    obtain ⟨H, e⟩ := hg l[k] (List.getElem_mem hk)
    have z : k * 3 + 3 ≤ l.length * 3 := by omega
    have w := wrap_id (x := (k : Int) + 1) (by omega)
    rw [List.getElem?_eq_getElem hk]
    simp only [Option.any_some]
    generalize q l[k] = b at *
    generalize l[k] = x at *
    obtain ⟨o, a, b'⟩ := x
    simp only [R3.cells] at *
    cases b <;> simp [hk, lX, r, e, z, w, ho]
  · simp
  · simp
  · simp
/-- Whose a place is. -/
def backR (l : List R3) (x : Int) : Int × Int := match idx (holdR x) l with
  | some k => (((l[k]?).getD ⟨0, 0, 0⟩).o, x - ((l[k]?).getD ⟨0, 0, 0⟩).a)
  | none => (0, 0)
set_option maxHeartbeats 1000000 in
theorem f15 (n i j : Nat) (l : List R3) (x : Int) (hp : Heap) (hj : hp[j]? = some (.cells [.mp i])) (hi : hp[i]? = some (.map (keysR l) (valsR l))) (h : (List.range l.length).find? (badR l) = none) (hl : l.length ≤ 20) (hn : 60 < n) :
    evalCall Try.prog hints (n + 5) 15 [.ptr (.heap j) none 0, .int .i64 x] hp = some (.tup [.int .i64 (backR (sortB l) x).1, .int .i64 (backR (sortB l) x).2], hp ++ [.cells [.int .i64 x]], false) := by
  have hjl : j < hp.length := by
    rcases Nat.lt_or_ge j hp.length with c | c
    · exact c
    · rw [List.getElem?_eq_none c] at hj; cases hj
  have hil : i < hp.length := by
    rcases Nat.lt_or_ge i hp.length with c | c
    · exact c
    · rw [List.getElem?_eq_none c] at hi; cases hi
  obtain ⟨s1, s2, s3⟩ := sortB_ok (nodup_a h)
  have hmay : ∀ r ∈ sortB l, mayR r = true := fun r hr => (chk_none h).2 r ((s2 r).1 hr)
  have e17 := f17r (n + 2) i j l (hp ++ [.cells [.int .i64 x]]) (by rw [List.getElem?_append_left hjl]; exact hj) (by rw [List.getElem?_append_left hil]; exact hi) h (by omega)
  have hlast : (hp ++ [PS.Node.cells [.int .i64 x]])[hp.length]? = some (.cells [.int .i64 x]) := by simp
  have e54 := f54 (n + 3) 55 [.ptr (.heap hp.length) none 0] (holdR x) (sortB l) (hp ++ [.cells [.int .i64 x]]) (by omega) (by omega) rfl (fun r hr => ⟨_, f55 n hp.length r x _ hlast (hmay r hr)⟩)
  rw [s3] at e54
  rw [evalCall_at _ _ _ hh15 rfl Try.func15 rfl (Nat.le_of_ble_eq_true rfl) rfl]
  have lX := flat_len R3.len (sortB l)
  have g0 := fun k h => flat_get R3.len (sortB l) k h 0 (by omega)
  have g1 := fun k h => flat_get R3.len (sortB l) k h 1 (by omega)
  rw [s3] at lX
  unfold backR
  generalize (sortB l).flatMap R3.cells = X at *
  cases hx : idx (holdR x) (sortB l) with
  | none =>
    rw [hx] at e54
    simp only [idxI] at e54
    simp [-getElem?_pos, List.getElem?_cons_zero, e17, e54]
  | some k =>
    rw [hx] at e54
    simp only [idxI] at e54
    obtain ⟨hk, hq⟩ := idx_lt hx
    have g0 := g0 k hk
    have g1 := g1 k hk
    have hm := hmay _ (List.getElem_mem hk)
    have hk' : k < l.length := by omega
    simp only [List.getElem?_eq_getElem hk, Option.getD_some]
    generalize (sortB l)[k] = r at *
    unfold holdR at hq; simp only [decide_eq_true_eq] at hq
    unfold mayR at hm; simp only [decide_eq_true_eq] at hm
    have w := wrap_id (x := x - r.a) (by omega)
    have k0 : ¬ ((k : Int) < 0) := by omega
    obtain ⟨o, a, b⟩ := r
    simp only [R3.cells, Nat.add_zero, List.getElem?_cons_zero, List.getElem?_cons_succ] at *
    simp [-getElem?_pos, List.getElem?_cons_zero, e17, e54, hk', lX, g0, g1, hlast, w, k0]
end Go.Proofs.Ytehemoachikpgaa
end

section
namespace Go.Proofs.Ytehemoachikpgaa
open Go Go.PS
section
variable {l : List R3} (h : (List.range l.length).find? (badR l) = none)
include h
theorem hold_pair (x : Int) (i j : Nat) (hij : i < j) (hj : j < l.length) (h1 : holdR x l[i] = true) (h2 : holdR x l[j] = true) : False := by
  obtain ⟨m1, s1, t1⟩ := all_ok h j hj
  obtain ⟨m2, _, _⟩ := all_ok h i (by omega)
  have hm : l[i] ∈ l.take j := by
    rw [List.mem_iff_getElem]
    exact ⟨i, by rw [List.length_take]; omega, by rw [List.getElem_take]⟩
  unfold meetR at t1
  have t2 := List.any_eq_false.1 t1 _ hm
  apply t2
  clear t1 t2 hm s1
  unfold mayR at m1 m2
  unfold holdR at h1 h2
  simp only [decide_eq_true_eq] at m1 m2 h1 h2
  unfold meetS sp meets holds
  simp only [Bool.and_eq_true, Bool.or_eq_true, decide_eq_true_eq]
  omega
theorem uniq_hold {a : Int} {x y : R3} (hx : x ∈ l) (hy : y ∈ l) (h1 : holdR a x = true) (h2 : holdR a y = true) : x = y := by
  obtain ⟨i, hi, rfl⟩ := List.getElem_of_mem hx
  obtain ⟨j, hj, rfl⟩ := List.getElem_of_mem hy
  rcases Nat.lt_trichotomy i j with c | c | c
  · exact (hold_pair h a i j c hj h1 h2).elim
  · subst c; rfl
  · exact (hold_pair h a j i c hi h2 h1).elim
theorem backR_some {a : Int} {x : R3} (hx : x ∈ l) (h1 : holdR a x = true) : backR (sortB l) a = (x.o, a - x.a) := by
  obtain ⟨s1, s2, s3⟩ := sortB_ok (nodup_a h)
  unfold backR
  cases hi : idx (holdR a) (sortB l) with
  | none =>
    have := List.any_eq_false.1 (idx_none.1 hi) x ((s2 x).2 hx)
    exact (this h1).elim
  | some k =>
    obtain ⟨hk, hq⟩ := idx_lt hi
    have hm : (sortB l)[k] ∈ l := (s2 _).1 (List.getElem_mem hk)
    have := uniq_hold h hm hx hq h1
    simp only [List.getElem?_eq_getElem hk, Option.getD_some, this]
theorem backR_none {a : Int} (hn : l.any (holdR a) = false) : backR (sortB l) a = (0, 0) := by
  obtain ⟨s1, s2, s3⟩ := sortB_ok (nodup_a h)
  unfold backR
  have : (sortB l).any (holdR a) = false := by
    rw [List.any_eq_false] at *
    exact fun x hx => hn x ((s2 x).1 hx)
  rw [idx_none.2 this]
theorem take_any {a : Int} {k : Nat} (hk : k < l.length) (h1 : holdR a l[k] = true) : (l.take k).any (holdR a) = false := by
  rw [List.any_eq_false]
  intro x hx h2
  obtain ⟨i, hi, rfl⟩ := List.getElem_of_mem hx
  rw [List.length_take] at hi
  rw [List.getElem_take] at h2
  exact hold_pair h a i k (by omega) hk h2 h1
end
theorem map_back {l : List R3} (h : (List.range l.length).find? (badR l) = none) {x : Int} {r : R3} (hr : r ∈ l) (hh : holdR x r = true) : mapR l r.o (x - r.a) 1 = (x, 0) := by
  unfold holdR at hh; simp only [decide_eq_true_eq] at hh
  have h1 := hasO_of hr
  obtain ⟨m1, m2⟩ := rowO_mem h1
  have m3 := uniq_o h m1 hr m2
  unfold mapR
  rw [m3, h1]
  rw [if_neg (by simp), if_neg (by omega), if_neg (by omega), if_neg (by omega), if_neg (by omega)]
  have : r.a + (x - r.a) = x := by omega
  rw [this]
theorem any_take_succ {l : List R3} {p : R3 → Bool} {k : Nat} (hk : k < l.length) : (l.take (k + 1)).any p = ((l.take k).any p || p l[k]) := by
  rw [List.take_succ_eq_append_getElem hk, List.any_append]; simp
theorem hpR_get (l : List R3) (c : PS.Node) : (hpR [] l ++ [c])[0]? = some (.map (keysR l) (valsR l)) ∧ (hpR [] l ++ [c])[1]? = some (.cells [.mp 0]) := ⟨rfl, rfl⟩
theorem live16c (n : Nat) (ks vs c d : List PV) : (evalCall Try.prog hints (n + 100) 16 [] [.map ks vs, .cells c, .cells d]).map (fun r => (r.1, r.2.2)) = some (.bool true, false) := by kernel_rfl
set_option maxHeartbeats 4000000 in
theorem f6 (n : Nat) (L : List R3) (x : Int) (hL : L.length ≤ maxLen) : fstR (evalCall Try.prog hints (n + 200) 6 [.sl .sh L.length (L.flatMap R3.cells), .int .i64 x] []) = some (.bool true) := by
  obtain ⟨l, hl⟩ : ∃ l, l = L.take 20 := ⟨_, rfl⟩
  have ll : l.length ≤ 20 := by rw [hl, List.length_take]; omega
  have ln : l.length = min L.length 20 := by rw [hl, List.length_take, Nat.min_comm]
  have hT : (L.flatMap R3.cells).take (l.length * 3) = l.flatMap R3.cells := by
    rw [flat_take R3.len, hl, List.length_take, Nat.min_comm, ]
    congr 1
    rw [List.take_eq_take_iff]; omega
  have hm : (if (20 : Int) < L.length then (20 : Int) else L.length) = (l.length : Int) := by split <;> omega
  have e19 : evalCall Try.prog hints (n + 199) 19 [.sl .sh l.length (l.flatMap R3.cells)] [] = _ := f19g (n + 191) l [] ll (by omega)
  have e20' : ∀ hp, evalCall Try.prog hints (n + 199) 20 [.sl .sh l.length (l.flatMap R3.cells)] hp = _ := fun hp => f20 (n + 195) l hp ll (by omega)
  rw [evalCall_at _ _ _ hh6 rfl Try.func6 rfl (Nat.le_of_ble_eq_true rfl) rfl]
  have lX := flat_len R3.len L
  have lx := flat_len R3.len l
  have rr := fun k h => flat_row R3.len l k h
  have g0 := fun k h => flat_get R3.len l k h 0 (by omega)
  have g1 := fun k h => flat_get R3.len l k h 1 (by omega)
  have le : (l.length : Int) ≤ L.length := by omega
  have le' : l.length ≤ L.length := by omega
  cases hk : (List.range l.length).find? (badR l) with
  | some k =>
    obtain ⟨h1, h2⟩ := chk_some hk
    obtain ⟨H, e16⟩ := fst_some (live16b (n + 99))
    rw [hk] at e19
    simp only at e19
    rw [h1] at e20'
    generalize l.flatMap R3.cells = X at *
    generalize L.flatMap R3.cells = Y at *
    have h2' : (stR l k != 0) = true := by simp [h2]
    generalize stR l k = s at *
    simp [-getElem?_pos, List.getElem?_cons_zero, lX, le, le', hm, hT, e19, e20', e16, h2, h2']
  | none =>
    obtain ⟨h1, h2⟩ := chk_none hk
    rw [hk] at e19
    simp only at e19
    rw [h1] at e20'
    have e15 := f15 (n + 194) 0 1 l x (hpR [] l) rfl rfl hk ll (by omega)
    obtain ⟨H, e16⟩ := fst_some (live16a (n + 99) (keysR l) (valsR l) [.mp 0])
    have hpe : hpR [] l = [.map (keysR l) (valsR l), .cells [.mp 0]] := rfl
    rw [← hpe] at e16
    clear hpe
    have e14 := fun o a => f14 (n + 197) 0 1 l o a 1 (hpR [] l) rfl rfl h2
    have e23 := fun k (h : k < l.length) => f23 (n + 198) l[k] (hpR [] l) (h2 _ (List.getElem_mem h))
    have e25 := fun a b => f25 (n + 198) a b x (hpR [] l)
    have hb := fun k (h : k < l.length) => backR_some hk (a := x) (List.getElem_mem h)
    have hta := fun k (h : k < l.length) => take_any hk (a := x) h
    have hsu := fun k (h : k < l.length) => any_take_succ (p := holdR x) h
    have hho := fun k (h : k < l.length) => holds_is (h2 _ (List.getElem_mem h)) x
    have hbn := backR_none hk (a := x)
    have hbs : l.any (holdR x) = true → ∃ r, r ∈ l ∧ holdR x r = true := fun h => List.any_eq_true.1 h
    have hbb := fun r hr h => backR_some hk (a := x) (x := r) hr h
    have hall : (l.take l.length).any (holdR x) = l.any (holdR x) := by rw [List.take_length]
    generalize l.flatMap R3.cells = X at *
    generalize L.flatMap R3.cells = Y at *
    generalize hpR [] l = HP at *
    generalize hB : backR (sortB l) x = B at *
    obtain ⟨ow, ad⟩ := B
    simp only at e15
    simp [-getElem?_pos, List.getElem?_cons_zero, lX, le, le', hm, hT, e19, e20', e15]
    rw [iter_count (fun k => { fr := [(0, .sl .sh l.length X), (1, .int .i64 x), (5, .ptr (.heap 1) none 0), (7, .int .i64 ow), (8, .int .i64 ad), (9, .int .i64 (cond ((l.take k).any (holdR x)) 1 0)), (10, .int .i64 k)], hp := HP, base := 0, dirty := false }) (.exit 0, { fr := [(0, .sl .sh l.length X), (1, .int .i64 x), (5, .ptr (.heap 1) none 0), (7, .int .i64 ow), (8, .int .i64 ad), (9, .int .i64 (cond ((l.take l.length).any (holdR x)) 1 0)), (10, .int .i64 l.length), (40, .bool false)], hp := HP, base := 0, dirty := false }) l.length]
    rotate_left
    · simp
    · omega
    · intro k hkl
      have r := rr k hkl
      have g0 := g0 k hkl
      have g1 := g1 k hkl
      have e23 := e23 k hkl
      have hb := hb k hkl
      have hta := hta k hkl
      have hho := hho k hkl
      have z : k * 3 + 3 ≤ l.length * 3 := by omega
      have w := wrap_id (x := (k : Int) + 1) (by omega)
      have hmm := h2 _ (List.getElem_mem hkl)
      unfold mayR at hmm; simp only [decide_eq_true_eq] at hmm
      have e25 := e25 l[k].a (l[k].a + l[k].b)
      rw [hho] at e25
      rw [hsu k hkl]
      have hq : holdR x l[k] = true → l[k].a ≤ x ∧ x < l[k].a + l[k].b := fun h => by unfold holdR at h; simpa using h
      generalize holdR x l[k] = q at *
      generalize l[k] = y at *
      obtain ⟨o', a', b'⟩ := y
      simp only [R3.cells, sp, Sp.cells, Nat.add_zero, List.getElem?_cons_zero, List.getElem?_cons_succ] at *
      cases q with
      | false =>
        generalize (l.take k).any (holdR x) = c at *
        simp [-getElem?_pos, List.getElem?_cons_zero, hkl, lx, r, z, w, e23, e25]
      | true =>
        have hta := hta rfl
        have hb := hb rfl
        have hq := hq rfl
        rw [hta]
        cases hb
        have w2 := wrap_id (x := x - a') (by omega)
        have w3 := wrap_id (x := 1) (by omega)
        simp [-getElem?_pos, List.getElem?_cons_zero, hkl, lx, r, z, w, e23, e25, g0, g1, w2, w3]
    · simp
    · simp
    rw [hall]
    cases ha : l.any (holdR x) with
    | false =>
      have := hbn ha
      cases this
      simp [-getElem?_pos, List.getElem?_cons_zero, e16]
    | true =>
      obtain ⟨r, hr, hh⟩ := hbs ha
      have := hbb r hr hh
      cases this
      have hmp := map_back hk hr hh
      have e14 := e14 r.o (x - r.a)
      rw [hmp] at e14
      generalize r.o = ro at *
      generalize x - r.a = xa at *
      simp [-getElem?_pos, List.getElem?_cons_zero, e16, e14]
end Go.Proofs.Ytehemoachikpgaa
end
