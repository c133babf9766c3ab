/-
  What functions of this program compute, as equations about the evaluator. No condition but those stated.
-/
import Derived.Test.YtaiiboplopljoaaGreatEqsO
import Derived.Test.YtaiiboplopljoaaGreatEqsP

set_option linter.all false
section
namespace Go.Proofs.YtaiiboplopljoaaGreat
open Go Go.PS
def slotA (s : R3) : R3 := ⟨1, s.a, s.b⟩
/-- An owner's rows. -/
def aloneT (t : Tab) (o : Int) : Tab := ⟨t.f, [⟨0, whenO t 1 o, whenO t 1 o + 2⟩, ⟨1, (winO t o).a, (winO t o).b⟩], (t.S.filter fun s => decide (s.o = o)).map slotA, [clO t o]⟩
theorem units_alone (t u : Tab) (o : Int) (h : ∀ s ∈ t.S, okS t s = true) (hu : ∀ s ∈ t.S, okS u (slotA s) = true) : ∀ l : List R3, (∀ s ∈ l, s ∈ t.S) → units u 1 ((l.filter fun s => decide (s.o = o)).map slotA) = units t o l
  | [], _ => rfl
  | s :: l, hl => by
    have ih := units_alone t u o h hu l fun x hx => hl x (List.mem_cons_of_mem _ hx)
    have hs := hl s (by simp)
    rw [units]
    by_cases c : s.o = o
    · rw [List.filter_cons, if_pos (by simp [c]), List.map_cons, units, ih]
      congr 1
      unfold unit1
      rw [if_pos ⟨rfl, hu s hs⟩, if_pos ⟨c, h s hs⟩]
      rfl
    · rw [List.filter_cons, if_neg (by simp [c]), ih]
      unfold unit1
      rw [if_neg (fun h => c h.1)]; omega
theorem clO_at {t : Tab} {k : Nat} (hk : k < t.C.length) : clO t ((k : Int) + 1) = t.C[k] := by
  unfold clO
  rw [if_pos (show isC t ((k : Int) + 1) = true from decide_eq_true (by omega)), show ((k : Int) + 1 - 1).toNat = k by omega, List.getElem?_eq_getElem hk]; rfl
theorem winO_at {t : Tab} {k : Nat} (hk : k ≤ t.C.length) : winO t (k : Int) = winF t.W k := by
  unfold winO
  rw [if_pos (by omega)]; rfl
theorem when_one {t : Tab} {k : Nat} (hk : k < t.C.length) : whenO t 1 ((k : Int) + 1) = (winF t.W 0).a + 2 * (k : Int) := by
  unfold whenO
  rw [if_pos ⟨decide_eq_true (by omega), .inl rfl⟩]; omega
theorem alone_good {t : Tab} (g : Good t) (k : Nat) (hk : k < t.C.length) : Good (aloneT t ((k : Int) + 1)) := by
  have hf := g.frame
  unfold frameB at hf; simp only [decide_eq_true_eq] at hf
  obtain ⟨wi, hwi, i1, i2, _⟩ := win_good g 0 (by omega)
  obtain ⟨wo, hwo, o1, o2, _⟩ := win_good g (k + 1) (by omega)
  have wb := win_b g 0 (by omega)
  have wl := io_long g
  have ob := win_b g (k + 1) (by omega)
  have e1 := when_one hk
  have e2 := winO_at (t := t) (k := k + 1) (by omega)
  rw [show ((k + 1 : Nat) : Int) = (k : Int) + 1 by omega] at e2
  have e3 := clO_at hk
  have off : (winF t.W 0).b ≤ (winF t.W (k + 1)).a ∨ (winF t.W (k + 1)).b ≤ (winF t.W 0).a := by
    by_cases c : (winF t.W 0).b ≤ (winF t.W (k + 1)).a ∨ (winF t.W (k + 1)).b ≤ (winF t.W 0).a
    · exact c
    · exfalso
      rw [i2, o2] at c
      unfold wsp at c; simp only at c
      have := wins_off g hwi hwo c
      rw [this, o1] at i1
      omega
  obtain ⟨u, hu⟩ : ∃ u, u = aloneT t ((k : Int) + 1) := ⟨_, rfl⟩
  rw [← hu]
  unfold aloneT at hu
  rw [e1, e2, e3] at hu
  have uf : u.f = t.f := by rw [hu]
  have uW : u.W = [⟨0, (winF t.W 0).a + 2 * (k : Int), (winF t.W 0).a + 2 * (k : Int) + 2⟩, ⟨1, (winF t.W (k + 1)).a, (winF t.W (k + 1)).b⟩] := by rw [hu]
  have uS : u.S = (t.S.filter fun s => decide (s.o = (k : Int) + 1)).map slotA := by rw [hu]
  have uC : u.C = [t.C[k]] := by rw [hu]
  have ucl : u.C.length = 1 := by rw [uC]; rfl
  have uSl : u.S.length ≤ t.S.length := by rw [uS, List.length_map]; exact List.length_filter_le _ _
  have hso : ∀ s ∈ t.S, okS u (slotA s) = true := fun s hs => by
    have := g.sok s hs
    unfold okS at *; simp only [decide_eq_true_eq] at *
    rw [uf, ucl]; unfold slotA; simp only; omega
  refine ⟨?_, ?_, ?_, ?_, ?_, ?_, ?_, ?_, ?_, ?_⟩
  · unfold frameB
    rw [uf, ucl, uW]
    simp only [decide_eq_true_eq, List.length_cons, List.length_nil]; omega
  · intro x hx
    rw [uC, List.mem_singleton] at hx
    rw [hx]; exact g.cok _ (List.getElem_mem hk)
  · rw [uC]; exact List.pairwise_singleton _ _
  · intro w hw
    rw [uW] at hw
    unfold okW
    rw [uf, ucl]
    rcases List.mem_cons.1 hw with rfl | hw
    · simp only [decide_eq_true_eq]; omega
    · rw [List.mem_singleton] at hw
      rw [hw]
      simp only [decide_eq_true_eq]; omega
  · rw [uW, List.pairwise_cons]
    refine ⟨fun x hx => ?_, List.pairwise_singleton _ _⟩
    rw [List.mem_singleton] at hx
    rw [hx]
    unfold pairW meets holds
    simp only
    rw [Bool.eq_false_iff]
    simp only [ne_eq, Bool.or_eq_true, Bool.and_eq_true, decide_eq_true_eq]
    omega
  · intro r hr
    rw [ucl] at hr
    rw [uW, List.any_eq_true]
    by_cases c : r = 0
    · subst c
      exact ⟨_, List.mem_cons_self, by simp⟩
    · have : r = 1 := by omega
      subst this
      exact ⟨_, List.mem_cons_of_mem _ (List.mem_singleton.2 rfl), by simp⟩
  · rw [uW, ioW, if_pos rfl]
    simp only [if_true]
    rw [Bool.and_eq_false_iff]
    right
    refine decide_eq_false ?_
    rw [ucl]; omega
  · intro w hw
    rw [uS, List.mem_map] at hw
    obtain ⟨s, hs, rfl⟩ := hw
    exact hso s (List.mem_filter.1 hs).1
  · rw [uS, List.pairwise_map]
    exact (g.spair.filter _).imp fun h => h
  · intro i hi
    have hi0 : i = 0 := by omega
    subst hi0
    have q := g.quota k hk
    unfold overU at *
    have hu1 : units u (((0 : Nat) : Int) + 1) u.S = units t ((k : Int) + 1) t.S := by
      rw [uS]
      exact units_alone t u _ g.sok hso t.S fun _ h => h
    rw [hu1]
    have : u.C[0] = t.C[k] := by simp only [uC]; rfl
    rw [this]; exact q
end Go.Proofs.YtaiiboplopljoaaGreat
end

section
namespace Go.Proofs.YtaiiboplopljoaaGreat
open Go Go.PS
def slA (t : Tab) (o : Int) (k : Nat) : List R3 := ((t.S.take k).filter fun s => decide (s.o = o)).map slotA
theorem slA_succ (t : Tab) (o : Int) (k : Nat) (h : k < t.S.length) : slA t o (k + 1) = slA t o k ++ if t.S[k].o = o then [slotA t.S[k]] else [] := by
  unfold slA
  rw [List.take_succ_eq_append_getElem h, List.filter_append, List.map_append]
  by_cases c : t.S[k].o = o
  · rw [if_pos c]; simp [c]
  · rw [if_neg c]; simp [c]
theorem slA_le (t : Tab) (o : Int) (k : Nat) : (slA t o k).length ≤ k := by
  unfold slA
  rw [List.length_map]
  have := List.length_filter_le (fun s : R3 => decide (s.o = o)) (t.S.take k)
  rw [List.length_take] at this; omega
def tgl (l : List R3) : Nat := match l with
  | [] => 0
  | _ :: _ => 3
theorem tgl_ok (l : List R3) : tgl l = 3 ∨ tgl l = 0 ∧ l.length = 0 := by cases l <;> simp [tgl]
theorem tgl_snoc (l : List R3) (x : R3) : tgl (l ++ [x]) = 3 := by cases l <;> simp [tgl]
def zeroT : List PV := [.int .i64 0, .sl (.mu 0) 0 [], .sl (.mu 0) 0 [], .sl (.mu 0) 0 []]
set_option maxHeartbeats 4000000 in
theorem f12ok (n : Nat) (t : Tab) (g : Good t) (k : Nat) (hk : k < t.C.length) (hp : Heap) (hn : 60 < n) : ∃ H, evalCall Tryz.prog hints (n + 40) 12 [.agg t.cells, .int .i64 ((k : Int) + 1)] hp = some (.tup [.agg (aloneT t ((k : Int) + 1)).cells, .int .i64 0], H, false) := by
  have hf := g.frame
  unfold frameB at hf; simp only [decide_eq_true_eq] at hf
  have hC : t.C.length ≤ 8 := by omega
  obtain ⟨H28, e28⟩ : ∃ H, evalCall Tryz.prog hints (n + 39) 24 [.agg t.cells] hp = some (.bool (decide ((faults t).length = 0)), H, false) := f24 (n + 28) t hp (by omega)
  rw [decide_eq_true (show (faults t).length = 0 by rw [g.nil]; rfl)] at e28
  have e32 : evalCall Tryz.prog hints (n + 39) 25 [.agg t.cells] hp = _ := f25 (n + 19) t g hp (by omega)
  have a := planAt t hp
  generalize PCc t _ _ _ _ = P at a
  generalize hp.length + t.S.length + 3 = jr at a
  generalize hp.length + t.S.length + 2 = jm at a
  obtain ⟨js, hjs⟩ : ∃ js, js = hp.length + 1 := ⟨_, rfl⟩
  rw [← hjs] at a
  obtain ⟨H, hH⟩ : ∃ H, H = hpP hp t := ⟨_, rfl⟩
  rw [← hH] at e32 a
  have wb := win_b g 0 (by omega)
  have e36 := f26 (n + 37) a hC ((k : Int) + 1)
  rw [show isC t ((k : Int) + 1) = true from decide_eq_true (by omega), if_pos rfl] at e36
  have e40 := f28 (n + 37) a hC ((k : Int) + 1)
  have e41 := f27 (n + 37) a hC (by omega) 1 ((k : Int) + 1)
  have wi : IntKind.i64.wrap (whenO t 1 ((k : Int) + 1) + 2) = whenO t 1 ((k : Int) + 1) + 2 := by
    rw [when_one hk]; exact wrap_id (by omega)
  rw [evalCall_at _ _ _ hh12 rfl Tryz.func12 rfl (Nat.le_of_ble_eq_true rfl) rfl]
  refine ⟨H, ?_⟩
  have lS := flat_len R3.len t.S
  have rr := fun k h => flat_row R3.len t.S k h
  obtain ⟨TA, hTA⟩ : ∃ TA, TA = aloneT t ((k : Int) + 1) := ⟨_, rfl⟩
  rw [← hTA]
  clear a hH
  unfold aloneT at hTA
  generalize whenO t 1 ((k : Int) + 1) = at_ at *
  generalize winO t ((k : Int) + 1) = w at *
  generalize clO t ((k : Int) + 1) = c at *
  obtain ⟨x, y⟩ := w
  obtain ⟨x1, x2, x3, x4, x5, x6, x7, x8, x9, x10⟩ := c
  generalize (k : Int) + 1 = o at *
  simp only [Tab.cells_eq, Sp.cells, Cl.cells] at *
  generalize t.S.flatMap R3.cells = Y at *
  generalize t.C.flatMap _ = Z at *
  generalize t.W.flatMap R3.cells = X at *
  obtain ⟨SL, hSL⟩ : ∃ SL : Nat → List R3, SL = slA t o := ⟨_, rfl⟩
  have hSn : SL t.S.length = (t.S.filter fun s => decide (s.o = o)).map slotA := by rw [hSL]; unfold slA; rw [List.take_length]
  have hS0 : SL 0 = [] := by rw [hSL]; rfl
  have hSs : ∀ i (h : i < t.S.length), SL (i + 1) = SL i ++ if t.S[i].o = o then [slotA t.S[i]] else [] := fun i h => by rw [hSL]; exact slA_succ t o i h
  have hSle : ∀ i, (SL i).length ≤ i := fun i => by rw [hSL]; exact slA_le t o i
  rw [← hSn] at hTA
  simp [-getElem?_pos, List.getElem?_cons_zero, e28, e32, e36, e40, e41, wi]
  rw [iter_count (fun i => { fr := [(1, .int .i64 o), (4, .box zeroT), (11, .box [.int .i64 t.f, .sl (.mu 3) 2 [.int .i64 0, .int .i64 at_, .int .i64 (at_ + 2), .int .i64 1, .int .i64 x, .int .i64 y], .sl (.mu (tgl (SL i))) (SL i).length ((SL i).flatMap R3.cells), .sl (.mu 10) 1 [.int .i64 x1, .int .i64 x2, .int .i64 x3, .int .i64 x4, .int .i64 x5, .int .i64 x6, .int .i64 x7, .int .i64 x8, .int .i64 x9, .int .i64 x10]]), (59, .sl .sh t.S.length Y), (60, .int .i64 t.S.length), (61, .int .i64 (i : Nat))], hp := H, base := hp.length, dirty := false }) (.exit 0, { fr := [(1, .int .i64 o), (4, .box zeroT), (11, .box [.int .i64 t.f, .sl (.mu 3) 2 [.int .i64 0, .int .i64 at_, .int .i64 (at_ + 2), .int .i64 1, .int .i64 x, .int .i64 y], .sl (.mu (tgl (SL (t.S.length)))) (SL (t.S.length)).length ((SL (t.S.length)).flatMap R3.cells), .sl (.mu 10) 1 [.int .i64 x1, .int .i64 x2, .int .i64 x3, .int .i64 x4, .int .i64 x5, .int .i64 x6, .int .i64 x7, .int .i64 x8, .int .i64 x9, .int .i64 x10]]), (59, .sl .sh t.S.length Y), (60, .int .i64 t.S.length), (61, .int .i64 (t.S.length : Nat)), (62, .bool false)], hp := H, base := hp.length, dirty := false }) t.S.length]
  · rw [hTA]
    generalize SL t.S.length = L at *
    simp [zeroT, Tab.cells, R3.cells, Cl.cells]
  · simp [zeroT, hS0, tgl]
  · omega
  · intro i hi
    have r := rr i hi
    have z : i * 3 + 3 ≤ t.S.length * 3 := by omega
    have w := wrap_id (x := (i : Int) + 1) (by omega)
    have ln := hSle i
    have m1 : ((SL i).length + 1) * 24 ≤ 140737488355328 := by omega
    have lD := flat_len R3.len (SL i)
    have aD := flat_all (f := R3.cells) (fun _ => rfl) (SL i)
    have t1 := tgl_ok (SL i)
    have t2 := tgl_snoc (SL i)
    rw [hSs i hi]
    generalize SL i = L at *
    generalize t.S[i] = v at *
    obtain ⟨s1, s2, s3⟩ := v
    simp only [R3.cells] at r
    by_cases c : s1 = o
    · have c' : (s1 == o) = true := by simp [c]
      rw [if_pos c, t2, List.flatMap_append, List.length_append]
      generalize tgl L = q at *
      generalize L.flatMap R3.cells = D at *
      generalize L.length = d at *
      simp [-getElem?_pos, List.getElem?_cons_zero, hi, lS, r, z, w, c', m1, lD, aD, t1, zeroT, slotA, R3.cells]
    · have c' : (s1 == o) = false := by simp [c]
      rw [if_neg c, List.append_nil]
      generalize tgl L = q at *
      generalize L.flatMap R3.cells = D at *
      generalize L.length = d at *
      simp [-getElem?_pos, List.getElem?_cons_zero, hi, lS, r, z, w, c', zeroT]
  · simp
  · simp
def Tab.zero : Tab := ⟨0, [], [], []⟩
theorem f12o (n : Nat) (t : Tab) (g : Good t) (o : Int) (ho : isC t o = false) (hp : Heap) (hn : 60 < n) : ∃ H, evalCall Tryz.prog hints (n + 40) 12 [.agg t.cells, .int .i64 o] hp = some (.tup [.agg Tab.zero.cells, .int .i64 7], H, false) := by
  have hf := g.frame
  unfold frameB at hf; simp only [decide_eq_true_eq] at hf
  have hC : t.C.length ≤ 8 := by omega
  obtain ⟨H28, e28⟩ : ∃ H, evalCall Tryz.prog hints (n + 39) 24 [.agg t.cells] hp = some (.bool (decide ((faults t).length = 0)), H, false) := f24 (n + 28) t hp (by omega)
  rw [decide_eq_true (show (faults t).length = 0 by rw [g.nil]; rfl)] at e28
  have e32 : evalCall Tryz.prog hints (n + 39) 25 [.agg t.cells] hp = _ := f25 (n + 19) t g hp (by omega)
  have a := planAt t hp
  generalize PCc t _ _ _ _ = P at a
  generalize hp.length + t.S.length + 3 = jr at a
  generalize hp.length + t.S.length + 2 = jm at a
  obtain ⟨js, hjs⟩ : ∃ js, js = hp.length + 1 := ⟨_, rfl⟩
  rw [← hjs] at a
  obtain ⟨H, hH⟩ : ∃ H, H = hpP hp t := ⟨_, rfl⟩
  rw [← hH] at e32 a
  have e36 := f26 (n + 37) a hC o
  rw [ho, if_neg (by simp)] at e36
  rw [evalCall_at _ _ _ hh12 rfl Tryz.func12 rfl (Nat.le_of_ble_eq_true rfl) rfl]
  clear a hH
  generalize clO t o = c at *
  obtain ⟨x1, x2, x3, x4, x5, x6, x7, x8, x9, x10⟩ := c
  simp only [Tab.cells_eq, Cl.cells] at *
  generalize t.S.flatMap R3.cells = Y at *
  generalize t.C.flatMap _ = Z at *
  generalize t.W.flatMap R3.cells = X at *
  exact ⟨H, by simp [-getElem?_pos, List.getElem?_cons_zero, e28, e32, e36, Tab.zero]⟩
end Go.Proofs.YtaiiboplopljoaaGreat
end

section
namespace Go.Proofs.YtaiiboplopljoaaGreat
open Go Go.PS
theorem f7n (n : Nat) (t : Tab) (h0 : faults t ≠ []) (o : Int) (hp : Heap) (hn : 100 < n) : ∃ H, evalCall Tryz.prog hints (n + 40) 7 [.agg t.cells, .int .i64 o] hp = some (.tup [.agg Tab.zero.cells, .int .i64 11], H, false) := by
  have e26 : evalCall Tryz.prog hints (n + 39) 17 [.agg t.cells] hp = _ := f17' (n + 33) t hp (by omega)
  have px : ((faults t).flatMap F2.cells).all plain1 = true := by rw [List.all_flatMap]; simp [F2.cells, plain1]
  have hl : (faults t).length ≠ 0 := fun h => h0 (List.length_eq_zero_iff.1 h)
  have hp1 : 0 < ((faults t).length : Int) := by omega
  have hp2 : 0 < (faults t).length := by omega
  clear h0 hl
  rw [evalCall_at _ _ _ hh7 rfl Tryz.func7 rfl (Nat.le_of_ble_eq_true rfl) rfl]
  simp only [Tab.cells_eq] at *
  generalize (faults t).flatMap F2.cells = A at *
  generalize (faults t).length = a at *
  generalize t.S.flatMap R3.cells = Y at *
  generalize t.C.flatMap Cl.cells = Z at *
  generalize t.W.flatMap R3.cells = X at *
  exact ⟨_, by simp [-getElem?_pos, -List.all_eq_true, List.getElem?_cons_zero, e26, px, hp1, hp2, Tab.zero]; rfl⟩
theorem f7o (n : Nat) (t : Tab) (g : Good t) (o : Int) (ho : isC t o = false) (hp : Heap) (hn : 100 < n) : ∃ H, evalCall Tryz.prog hints (n + 40) 7 [.agg t.cells, .int .i64 o] hp = some (.tup [.agg Tab.zero.cells, .int .i64 7], H, false) := by
  have e26 : evalCall Tryz.prog hints (n + 39) 17 [.agg t.cells] hp = _ := f17' (n + 33) t hp (by omega)
  rw [g.nil] at e26
  simp only [List.length_nil, List.flatMap_nil] at e26
  have hc := of_decide_eq_false ho
  rw [evalCall_at _ _ _ hh7 rfl Tryz.func7 rfl (Nat.le_of_ble_eq_true rfl) rfl]
  simp only [Tab.cells_eq] at *
  generalize t.S.flatMap R3.cells = Y at *
  generalize t.C.flatMap Cl.cells = Z at *
  generalize t.W.flatMap R3.cells = X at *
  by_cases c : o < 1
  · exact ⟨_, by simp [-getElem?_pos, List.getElem?_cons_zero, e26, c, Tab.zero]; rfl⟩
  · have c2 : (t.C.length : Int) < o := by omega
    exact ⟨_, by simp [-getElem?_pos, List.getElem?_cons_zero, e26, c, c2, Tab.zero]; rfl⟩
set_option maxHeartbeats 4000000 in
theorem f7ok (n : Nat) (t : Tab) (g : Good t) (k : Nat) (hk : k < t.C.length) (hp : Heap) (hn : 100 < n) : ∃ H, evalCall Tryz.prog hints (n + 40) 7 [.agg t.cells, .int .i64 ((k : Int) + 1)] hp = some (.tup [.agg (aloneT t ((k : Int) + 1)).cells, .int .i64 0], H, false) := by
  have hf := g.frame
  unfold frameB at hf; simp only [decide_eq_true_eq] at hf
  have hC : t.C.length ≤ 8 := by omega
  have e26 : evalCall Tryz.prog hints (n + 39) 17 [.agg t.cells] hp = _ := f17' (n + 33) t hp (by omega)
  rw [g.nil] at e26
  simp only [List.length_nil, List.flatMap_nil] at e26
  have wb := win_b g 0 (by omega)
  have e38 := f18 (n + 37) t g 1 ((k : Int) + 1) hp (by omega) (by omega) (by omega)
  have e37 : evalCall Tryz.prog hints (n + 39) 19 [.agg t.cells, .int .i64 ((k : Int) + 1)] hp = _ := f19 (n + 38) t ((k : Int) + 1) hp (by omega) (by omega)
  obtain ⟨wi, _, _, h1, h2⟩ := win_good g (k + 1) (by omega)
  rw [show ((k + 1 : Nat) : Int) = (k : Int) + 1 by omega] at h2
  have hwo := winO_at (t := t) (k := k + 1) (by omega)
  rw [show ((k + 1 : Nat) : Int) = (k : Int) + 1 by omega] at hwo
  rw [h2, ← h1, ← hwo] at e37
  have wi : IntKind.i64.wrap (whenO t 1 ((k : Int) + 1) + 2) = whenO t 1 ((k : Int) + 1) + 2 := by
    rw [when_one hk]; exact wrap_id (by omega)
  have hcl := clO_at hk
  have rC := flat_row Cl.len t.C k hk
  rw [← hcl] at rC
  have lC := flat_len Cl.len t.C
  have zC : k * 10 + 10 ≤ t.C.length * 10 := by omega
  have wk := wrap_id (x := (k : Int)) (by omega)
  have c1 : ¬ (k : Int) + 1 < 1 := by omega
  have c2 : ¬ (t.C.length : Int) < (k : Int) + 1 := by omega
  have wo : IntKind.i64.wrap ((k : Int) + 1 - 1) = (k : Int) := by rw [show (k : Int) + 1 - 1 = (k : Int) by omega]; exact wk
  rw [evalCall_at _ _ _ hh7 rfl Tryz.func7 rfl (Nat.le_of_ble_eq_true rfl) rfl]
  refine ⟨hp, ?_⟩
  have lS := flat_len R3.len t.S
  have g0 := fun k h => flat_get R3.len t.S k h 0 (by omega)
  have g1 := fun k h => flat_get R3.len t.S k h 1 (by omega)
  have g2 := fun k h => flat_get R3.len t.S k h 2 (by omega)
  obtain ⟨TA, hTA⟩ : ∃ TA, TA = aloneT t ((k : Int) + 1) := ⟨_, rfl⟩
  rw [← hTA]
  unfold aloneT at hTA
  clear hwo hcl h1 h2
  generalize whenO t 1 ((k : Int) + 1) = at_ at *
  generalize winO t ((k : Int) + 1) = w at *
  generalize clO t ((k : Int) + 1) = c at *
  obtain ⟨x, y⟩ := w
  obtain ⟨x1, x2, x3, x4, x5, x6, x7, x8, x9, x10⟩ := c
  generalize (k : Int) + 1 = o at *
  simp only [Tab.cells_eq, Sp.cells, Cl.cells] at *
  generalize t.S.flatMap R3.cells = Y at *
  generalize t.C.flatMap _ = Z at *
  generalize t.W.flatMap R3.cells = X at *
  obtain ⟨SL, hSL⟩ : ∃ SL : Nat → List R3, SL = slA t o := ⟨_, rfl⟩
  have hSn : SL t.S.length = (t.S.filter fun s => decide (s.o = o)).map slotA := by rw [hSL]; unfold slA; rw [List.take_length]
  have hS0 : SL 0 = [] := by rw [hSL]; rfl
  have hSs : ∀ i (h : i < t.S.length), SL (i + 1) = SL i ++ if t.S[i].o = o then [slotA t.S[i]] else [] := fun i h => by rw [hSL]; exact slA_succ t o i h
  have hSle : ∀ i, (SL i).length ≤ i := fun i => by rw [hSL]; exact slA_le t o i
  rw [← hSn] at hTA
  simp [-getElem?_pos, List.getElem?_cons_zero, e26, e38, e37, wi, c1, c2]
  rw [iter_count (fun i => { fr := [(1, .int .i64 o), (2, .box [.int .i64 t.f, .sl .sh t.W.length X, .sl .sh t.S.length Y, .sl .sh t.C.length Z]), (4, .box zeroT), (8, .box [.int .i64 t.f, .sl (.mu 3) 2 [.int .i64 0, .int .i64 at_, .int .i64 (at_ + 2), .int .i64 1, .int .i64 x, .int .i64 y], .sl (.mu (tgl (SL i))) (SL i).length ((SL i).flatMap R3.cells), .sl (.mu 0) 0 []]), (9, .int .i64 (i : Nat))], hp := hp, base := hp.length, dirty := false }) (.exit 0, { fr := [(1, .int .i64 o), (2, .box [.int .i64 t.f, .sl .sh t.W.length X, .sl .sh t.S.length Y, .sl .sh t.C.length Z]), (4, .box zeroT), (8, .box [.int .i64 t.f, .sl (.mu 3) 2 [.int .i64 0, .int .i64 at_, .int .i64 (at_ + 2), .int .i64 1, .int .i64 x, .int .i64 y], .sl (.mu (tgl (SL (t.S.length)))) (SL (t.S.length)).length ((SL (t.S.length)).flatMap R3.cells), .sl (.mu 0) 0 []]), (9, .int .i64 (t.S.length : Nat)), (52, .bool false)], hp := hp, base := hp.length, dirty := false }) t.S.length]
  · rw [hTA]
    generalize SL t.S.length = L at *
    simp [-getElem?_pos, List.getElem?_cons_zero, zeroT, Tab.cells, R3.cells, Cl.cells, wo, rC, lC, zC, hk]
  · simp [zeroT, hS0, tgl]
  · omega
  · intro i hi
    have g0 := g0 i hi
    have g1 := g1 i hi
    have g2 := g2 i hi
    have w := wrap_id (x := (i : Int) + 1) (by omega)
    have ln := hSle i
    have m1 : ((SL i).length + 1) * 24 ≤ 140737488355328 := by omega
    have lD := flat_len R3.len (SL i)
    have aD := flat_all (f := R3.cells) (fun _ => rfl) (SL i)
    have t1 := tgl_ok (SL i)
    have t2 := tgl_snoc (SL i)
    rw [hSs i hi]
    generalize SL i = L at *
    generalize t.S[i] = v at *
    obtain ⟨s1, s2, s3⟩ := v
    simp only [R3.cells, Nat.add_zero, List.getElem?_cons_zero, List.getElem?_cons_succ] at g0 g1 g2
    by_cases c : s1 = o
    · have c' : (s1 == o) = true := by simp [c]
      rw [if_pos c, t2, List.flatMap_append, List.length_append]
      generalize tgl L = q at *
      generalize L.flatMap R3.cells = D at *
      generalize L.length = d at *
      simp [-getElem?_pos, List.getElem?_cons_zero, hi, lS, g0, g1, g2, w, c', m1, lD, aD, t1, zeroT, slotA, R3.cells]
    · have c' : (s1 == o) = false := by simp [c]
      rw [if_neg c, List.append_nil]
      generalize tgl L = q at *
      generalize L.flatMap R3.cells = D at *
      generalize L.length = d at *
      simp [-getElem?_pos, List.getElem?_cons_zero, hi, lS, g0, g1, g2, w, c', zeroT]
  · simp
  · simp
end Go.Proofs.YtaiiboplopljoaaGreat
end

section
namespace Go.Proofs.YtaiiboplopljoaaGreat
open Go Go.PS
theorem stood43 : Tryz.prog.stoodInHeld 43 = false := by kernel_rfl
@[simp] theorem guard43 : Tryz.prog.eqGuardType Tryz.prog.depth 43 = false := by kernel_rfl
theorem eqT43 (a b c a' b' c' : Int) : eqT Tryz.prog 20 43 [.int .i64 a, .int .i64 b, .int .i64 c] [.int .i64 a', .int .i64 b', .int .i64 c'] = some (a == a' && (b == b' && c == c')) := by
  show eqT Tryz.prog (18 + 1 + 1) 43 _ _ = _
  unfold eqT
  rw [Tryz.underlying43]
  simp only [stood43]
  simp [eqi3, andL]
theorem f23 (n j1 j2 : Nat) (x y : Int) (c : Cl) (hp : Heap) (h1 : hp[j1]? = some (.cells [.int .i64 x])) (h2 : hp[j2]? = some (.cells [.int .i64 y])) : evalCall Tryz.prog hints (n + 1) 23 [.agg c.cells, .ptr (.heap j1) none 0, .ptr (.heap j2) none 0] hp = some (.bool (c.id == x || c.irq == y), hp, false) := by
  rw [evalCall_at _ _ _ hh23 rfl Tryz.func23 rfl (Nat.le_of_ble_eq_true rfl) rfl]
  obtain ⟨x1, x2, x3, x4, x5, x6, x7, x8, x9, x10⟩ := c
  simp only [Cl.cells] at *
  by_cases c : x7 = x
  · have c' : (x7 == x) = true := by simp [c]
    simp [-getElem?_pos, List.getElem?_cons_zero, h1, h2, c']
  · have c' : (x7 == x) = false := by simp [c]
    simp [-getElem?_pos, List.getElem?_cons_zero, h1, h2, c']
theorem f11 (n : Nat) (t : Tab) (x y : Int) (hp : Heap) (hC : t.C.length ≤ 8) (hn : 60 < n) : ∃ H, evalCall Tryz.prog hints (n + 2) 11 [.agg t.cells, .int .i64 x, .int .i64 y] hp = some (.int .i64 (1 + idxI (idx (fun c : Cl => c.id == x || c.irq == y) t.C)), H, false) := by
  have h1 : (hp ++ [PS.Node.cells [.int .i64 x]] ++ [PS.Node.cells [.int .i64 y]])[hp.length]? = some (.cells [.int .i64 x]) := by simp
  have h2 : (hp ++ [PS.Node.cells [.int .i64 x]] ++ [PS.Node.cells [.int .i64 y]])[hp.length + 1]? = some (.cells [.int .i64 y]) := by simp
  have e := f22 n 23 [.ptr (.heap hp.length) none 0, .ptr (.heap (hp.length + 1)) none 0] (fun c : Cl => c.id == x || c.irq == y) t.C (hp ++ [PS.Node.cells [.int .i64 x]] ++ [PS.Node.cells [.int .i64 y]]) (by omega) hn rfl (fun c _ => ⟨_, by
    obtain ⟨m, rfl⟩ : ∃ m, n = m + 1 := ⟨n - 1, by omega⟩
    exact f23 m _ _ x y c _ h1 h2⟩)
  have hb : -1 ≤ idxI (idx (fun c : Cl => c.id == x || c.irq == y) t.C) ∧ idxI (idx (fun c : Cl => c.id == x || c.irq == y) t.C) ≤ 8 := by
    cases hx : idx (fun c : Cl => c.id == x || c.irq == y) t.C with
    | none => unfold idxI; simp
    | some i => obtain ⟨hi, _⟩ := idx_lt hx; unfold idxI; simp only; omega
  have w := wrap_id (x := 1 + idxI (idx (fun c : Cl => c.id == x || c.irq == y) t.C)) (by omega)
  rw [evalCall_at _ _ _ hh11 rfl Tryz.func11 rfl (Nat.le_of_ble_eq_true rfl) rfl]
  generalize idxI (idx (fun c : Cl => c.id == x || c.irq == y) t.C) = r at *
  simp only [Tab.cells_eq, List.append_assoc, List.singleton_append] at *
  generalize t.S.flatMap R3.cells = Y at *
  generalize t.C.flatMap Cl.cells = Z at *
  generalize t.W.flatMap R3.cells = X at *
  exact ⟨_, by simp [-getElem?_pos, List.getElem?_cons_zero, e, w]; rfl⟩
def t53 : Tab := ⟨40, [⟨0, 10, 14⟩, ⟨1, 14, 20⟩, ⟨2, 20, 30⟩], [⟨1, 4, 8⟩, ⟨2, 8, 12⟩], [⟨128, 32, 1, 0, 1, 0, 0, 0, 0, 0⟩, ⟨160, 32, 1, 0, 1, 0, 1, 1, 0, 0⟩]⟩
theorem good53 : Good t53 := good_of (by kernel_rfl)
theorem live53 (n : Nat) (hp : Heap) : ∃ H, evalCall Tryz.prog hints (n + 200) 4 [] hp = some (.bool true, H, false) := by
  obtain ⟨H, e50⟩ := f12ok (n + 159) t53 good53 1 (by decide) hp (by omega)
  have e50 : evalCall Tryz.prog hints (n + 199) 12 [.agg [.int .i64 40, .sl .sh 3 [.int .i64 0, .int .i64 10, .int .i64 14, .int .i64 1, .int .i64 14, .int .i64 20, .int .i64 2, .int .i64 20, .int .i64 30], .sl .sh 2 [.int .i64 1, .int .i64 4, .int .i64 8, .int .i64 2, .int .i64 8, .int .i64 12], .sl .sh 2 [.int .i64 128, .int .i64 32, .int .i64 1, .int .i64 0, .int .i64 1, .int .i64 0, .int .i64 0, .int .i64 0, .int .i64 0, .int .i64 0, .int .i64 160, .int .i64 32, .int .i64 1, .int .i64 0, .int .i64 1, .int .i64 0, .int .i64 1, .int .i64 1, .int .i64 0, .int .i64 0]], .int .i64 2] hp = some (.tup [.agg [.int .i64 40, .sl .sh 2 [.int .i64 0, .int .i64 12, .int .i64 14, .int .i64 1, .int .i64 20, .int .i64 30], .sl .sh 1 [.int .i64 1, .int .i64 8, .int .i64 12], .sl .sh 1 [.int .i64 160, .int .i64 32, .int .i64 1, .int .i64 0, .int .i64 1, .int .i64 0, .int .i64 1, .int .i64 1, .int .i64 0, .int .i64 0]], .int .i64 0], H, false) := e50
  obtain ⟨H2, e78⟩ := f11 (n + 197) t53 9 1 H (by decide) (by omega)
  have e78 : evalCall Tryz.prog hints (n + 199) 11 [.agg [.int .i64 40, .sl .sh 3 [.int .i64 0, .int .i64 10, .int .i64 14, .int .i64 1, .int .i64 14, .int .i64 20, .int .i64 2, .int .i64 20, .int .i64 30], .sl .sh 2 [.int .i64 1, .int .i64 4, .int .i64 8, .int .i64 2, .int .i64 8, .int .i64 12], .sl .sh 2 [.int .i64 128, .int .i64 32, .int .i64 1, .int .i64 0, .int .i64 1, .int .i64 0, .int .i64 0, .int .i64 0, .int .i64 0, .int .i64 0, .int .i64 160, .int .i64 32, .int .i64 1, .int .i64 0, .int .i64 1, .int .i64 0, .int .i64 1, .int .i64 1, .int .i64 0, .int .i64 0]], .int .i64 9, .int .i64 1] H = some (.int .i64 2, H2, false) := e78
  rw [evalCall_at _ _ _ hh4 rfl Tryz.func4 rfl (Nat.le_of_ble_eq_true rfl) rfl]
  exact ⟨H, by simp [e50, e78, eqT43, eqT38]⟩
end Go.Proofs.YtaiiboplopljoaaGreat
end

section
namespace Go.Proofs.YtaiiboplopljoaaGreat
open Go Go.PS
theorem f22w (n g : Nat) (cap : List PV) (q : Cl → Bool) (l : List Cl) (hp : Heap) (hl : l.length ≤ 255) (hn : 300 < n) (ho : (hints g).own = none) (hg : ∀ x ∈ l, ∃ H, evalCall Tryz.prog hints n g (.agg x.cells :: cap) hp = some (.bool (q x), H, false)) :
    evalCall Tryz.prog hints (n + 1) 22 [.sl .sh l.length (l.flatMap Cl.cells), .fn g cap] hp = some (.int .i64 (idxI (idx q l)), hp, false) := by
  rw [evalCall_at _ _ _ hh22 rfl Tryz.func22 rfl (Nat.le_of_ble_eq_true rfl) rfl]
  have lX := flat_len Cl.len l
  have rr := fun k h => flat_row Cl.len l k h
  rw [← idx_range]
  generalize l.flatMap Cl.cells = X at *
  simp
  rw [iter_idx (fun k => { fr := [(0, .sl .sh l.length X), (1, .fn g cap), (7, .int .i64 l.length), (8, .int .i64 k)], hp := hp, base := hp.length, dirty := false }) (fun k => (l[k]?).any q) (fun k => (.ret, { fr := [(4, .int .i64 k)], hp := hp, base := hp.length, dirty := false })) (.exit 0, { fr := [(0, .sl .sh l.length X), (1, .fn g cap), (7, .int .i64 l.length), (8, .int .i64 l.length), (9, .bool false)], hp := hp, base := hp.length, dirty := false }) l.length]
  · cases (List.range l.length).find? _ <;> simp [idxI]
  · simp
  · omega
  · intro k hk
    have r := rr k hk
    obtain ⟨H, e⟩ := hg l[k] (List.getElem_mem hk)
    have z : k * 10 + 10 ≤ l.length * 10 := by omega
    have w := wrap_id (x := (k : Int) + 1) (by omega)
    rw [List.getElem?_eq_getElem hk]
    simp only [Option.any_some]
    generalize q l[k] = b at *
    generalize l[k] = x at *
    obtain ⟨x1, x2, x3, x4, x5, x6, x7, x8, x9, x10⟩ := x
    simp only [Cl.cells] at *
    cases b <;> simp [hk, lX, r, e, z, w, ho]
  · simp
  · simp
  · simp
theorem f11w (n : Nat) (t : Tab) (x y : Int) (hp : Heap) (hC : t.C.length ≤ 255) (hn : 300 < n) : ∃ H, evalCall Tryz.prog hints (n + 2) 11 [.agg t.cells, .int .i64 x, .int .i64 y] hp = some (.int .i64 (1 + idxI (idx (fun c : Cl => c.id == x || c.irq == y) t.C)), H, false) := by
  have h1 : (hp ++ [PS.Node.cells [.int .i64 x]] ++ [PS.Node.cells [.int .i64 y]])[hp.length]? = some (.cells [.int .i64 x]) := by simp
  have h2 : (hp ++ [PS.Node.cells [.int .i64 x]] ++ [PS.Node.cells [.int .i64 y]])[hp.length + 1]? = some (.cells [.int .i64 y]) := by simp
  have e := f22w n 23 [.ptr (.heap hp.length) none 0, .ptr (.heap (hp.length + 1)) none 0] (fun c : Cl => c.id == x || c.irq == y) t.C (hp ++ [PS.Node.cells [.int .i64 x]] ++ [PS.Node.cells [.int .i64 y]]) (by omega) hn rfl (fun c _ => ⟨_, by
    obtain ⟨m, rfl⟩ : ∃ m, n = m + 1 := ⟨n - 1, by omega⟩
    exact f23 m _ _ x y c _ h1 h2⟩)
  have hb : -1 ≤ idxI (idx (fun c : Cl => c.id == x || c.irq == y) t.C) ∧ idxI (idx (fun c : Cl => c.id == x || c.irq == y) t.C) ≤ 255 := by
    cases hx : idx (fun c : Cl => c.id == x || c.irq == y) t.C with
    | none => unfold idxI; simp
    | some i => obtain ⟨hi, _⟩ := idx_lt hx; unfold idxI; simp only; omega
  have w := wrap_id (x := 1 + idxI (idx (fun c : Cl => c.id == x || c.irq == y) t.C)) (by omega)
  rw [evalCall_at _ _ _ hh11 rfl Tryz.func11 rfl (Nat.le_of_ble_eq_true rfl) rfl]
  generalize idxI (idx (fun c : Cl => c.id == x || c.irq == y) t.C) = r at *
  simp only [Tab.cells_eq, List.append_assoc, List.singleton_append] at *
  generalize t.S.flatMap R3.cells = Y at *
  generalize t.C.flatMap Cl.cells = Z at *
  generalize t.W.flatMap R3.cells = X at *
  exact ⟨_, by simp [-getElem?_pos, List.getElem?_cons_zero, e, w]; rfl⟩
end Go.Proofs.YtaiiboplopljoaaGreat
end
