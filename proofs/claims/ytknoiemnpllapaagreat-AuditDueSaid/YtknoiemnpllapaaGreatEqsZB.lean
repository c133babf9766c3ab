/-
  What functions of this program compute, as equations about the evaluator. No condition but those stated.
-/
import Derived.Test.YtknoiemnpllapaaGreatEqsK
import Derived.Test.YtknoiemnpllapaaGreatEqsZ
import Derived.Test.YtknoiemnpllapaaGreatEqsZA
import Derived.Test.YtknoiemnpllapaaGreatEqsL

set_option linter.all false
section
namespace Go.Proofs.YtknoiemnpllapaaGreat
open Go Go.PS
theorem r3_of49 (r : List PV) (h : Ty Tryz.prog 49 r) : ∃ m : R3, r = m.cells ∧ True := by
  obtain ⟨parts, rfl, h1, h2⟩ := ty_struct Tryz.underlying49 h
  match parts, h1, h2 with
  | [p0, p1, p2], _, h2 =>
    obtain ⟨a, rfl, _⟩ := ty_int Tryz.underlying3 (h2 0 _ _ rfl rfl)
    obtain ⟨b, rfl, _⟩ := ty_int Tryz.underlying3 (h2 1 _ _ rfl rfl)
    obtain ⟨c, rfl, _⟩ := ty_int Tryz.underlying3 (h2 2 _ _ rfl rfl)
    exact ⟨⟨a, b, c⟩, rfl, trivial⟩
theorem r3_of50 (r : List PV) (h : Ty Tryz.prog 50 r) : ∃ m : R3, r = m.cells ∧ True := by
  obtain ⟨parts, rfl, h1, h2⟩ := ty_struct Tryz.underlying50 h
  match parts, h1, h2 with
  | [p0, p1, p2], _, h2 =>
    obtain ⟨a, rfl, _⟩ := ty_int Tryz.underlying3 (h2 0 _ _ rfl rfl)
    obtain ⟨b, rfl, _⟩ := ty_int Tryz.underlying3 (h2 1 _ _ rfl rfl)
    obtain ⟨c, rfl, _⟩ := ty_int Tryz.underlying3 (h2 2 _ _ rfl rfl)
    exact ⟨⟨a, b, c⟩, rfl, trivial⟩
theorem cl_of (r : List PV) (h : Ty Tryz.prog 52 r) : ∃ m : Cl, r = m.cells ∧ True := by
  obtain ⟨parts, rfl, h1, h2⟩ := ty_struct Tryz.underlying52 h
  match parts, h1, h2 with
  | [p0, p1, p2, p3, p4, p5, p6, p7, p8, p9], _, h2 =>
    obtain ⟨a0, rfl, _⟩ := ty_int Tryz.underlying3 (h2 0 _ _ rfl rfl)
    obtain ⟨a1, rfl, _⟩ := ty_int Tryz.underlying3 (h2 1 _ _ rfl rfl)
    obtain ⟨a2, rfl, _⟩ := ty_int Tryz.underlying3 (h2 2 _ _ rfl rfl)
    obtain ⟨a3, rfl, _⟩ := ty_int Tryz.underlying3 (h2 3 _ _ rfl rfl)
    obtain ⟨a4, rfl, _⟩ := ty_int Tryz.underlying3 (h2 4 _ _ rfl rfl)
    obtain ⟨a5, rfl, _⟩ := ty_int Tryz.underlying3 (h2 5 _ _ rfl rfl)
    obtain ⟨a6, rfl, _⟩ := ty_int Tryz.underlying3 (h2 6 _ _ rfl rfl)
    obtain ⟨a7, rfl, _⟩ := ty_int Tryz.underlying3 (h2 7 _ _ rfl rfl)
    obtain ⟨a8, rfl, _⟩ := ty_int Tryz.underlying3 (h2 8 _ _ rfl rfl)
    obtain ⟨a9, rfl, _⟩ := ty_int Tryz.underlying3 (h2 9 _ _ rfl rfl)
    exact ⟨⟨a0, a1, a2, a3, a4, a5, a6, a7, a8, a9⟩, rfl, trivial⟩
theorem tab_of (cs : List PV) (h : Ty Tryz.prog 27 cs) : ∃ t : Tab, cs = t.cells ∧ t.W.length ≤ maxLen ∧ t.S.length ≤ maxLen ∧ t.C.length ≤ maxLen := by
  obtain ⟨parts, rfl, h1, h2⟩ := ty_struct Tryz.underlying27 h
  match parts, h1, h2 with
  | [p0, p1, p2, p3], _, h2 =>
    obtain ⟨f, rfl, _⟩ := ty_int Tryz.underlying3 (h2 0 _ _ rfl rfl)
    obtain ⟨rW, rfl, lW, tW⟩ := ty_slice Tryz.underlying23 (h2 1 _ _ rfl rfl)
    obtain ⟨rS, rfl, lS, tS⟩ := ty_slice Tryz.underlying24 (h2 2 _ _ rfl rfl)
    obtain ⟨rC, rfl, lC, tC⟩ := ty_slice Tryz.underlying25 (h2 3 _ _ rfl rfl)
    obtain ⟨W, w1, w2, _⟩ := rows_map r3_of49 rW tW
    obtain ⟨S, s1, s2, _⟩ := rows_map r3_of50 rS tS
    obtain ⟨C, c1, c2, _⟩ := rows_map cl_of rC tC
    refine ⟨⟨f, W, S, C⟩, ?_, by show W.length ≤ _; omega, by show S.length ≤ _; omega, by show C.length ≤ _; omega⟩
    rw [w2, s2, c2, ← w1, ← s1, ← c1]; rfl
end Go.Proofs.YtknoiemnpllapaaGreat
end

section
namespace Go.Proofs.YtknoiemnpllapaaGreat
open Go Go.PS
theorem f49 (n : Nat) (f : Int) (hp : Heap) : evalCall Tryz.prog hints (n + 1) 49 [.int .i64 f] hp = some (.bool (decide (1 ≤ f ∧ f ≤ 4096)), hp, false) := by
  rw [evalCall_at _ _ _ hh49 rfl Tryz.func49 rfl (Nat.le_of_ble_eq_true rfl) rfl]
  by_cases c1 : 1 ≤ f
  · simp [c1]
  · simp [c1]
theorem f51 (n : Nat) (w : R3) (hp : Heap) : evalCall Tryz.prog hints (n + 1) 51 [.agg w.cells] hp = some (.agg [.int .i64 w.a, .int .i64 w.b], hp, false) := by
  rw [evalCall_at _ _ _ hh51 rfl Tryz.func51 rfl (Nat.le_of_ble_eq_true rfl) rfl]
  obtain ⟨o, a, b⟩ := w
  simp [R3.cells]
theorem f53 (n j : Nat) (x y : R3) (hp : Heap) (hj : hp[j]? = some (.cells x.cells)) : evalCall Tryz.prog hints (n + 3) 53 [.agg y.cells, .ptr (.heap j) none 0] hp = some (.bool (meets y.a y.b x.a x.b), hp, false) := by
  have e := fun hp => f54 n y.a y.b x.a x.b hp
  have e1 := fun hp => f51 (n + 1) y hp
  have e2 := fun hp => f51 (n + 1) x hp
  rw [evalCall_at _ _ _ hh53 rfl Tryz.func53 rfl (Nat.le_of_ble_eq_true rfl) rfl]
  obtain ⟨o, a, b⟩ := x
  obtain ⟨o', a', b'⟩ := y
  simp only [R3.cells] at *
  generalize both a' b' a b = B at *
  generalize meets a' b' a b = m at *
  simp [-getElem?_pos, List.getElem?_cons_zero, hj, e, e1, e2]
def tg3 (k : Nat) : Nat := match k with
  | 0 => 0
  | _ + 1 => 3
theorem tg3_ok (k : Nat) : tg3 k = 3 ∨ tg3 k = 0 ∧ k = 0 := by cases k <;> simp [tg3]
/-- The heap behind a table of slots. -/
def hpS1 (hp : Heap) (t : Tab) (k : Nat) : Heap := hp ++ [.cells [.int .i64 t.f, .sl (.mu (tg3 k)) k ((t.S.take k).flatMap R3.cells)]] ++ (t.S.take k).map fun w => PS.Node.cells w.cells
set_option maxHeartbeats 1000000 in
theorem f19 (n : Nat) (t : Tab) (g : Good t) (hp : Heap) (hn : 60 < n) : evalCall Tryz.prog hints (n + 7) 19 [.int .i64 t.f, .sl .sh t.S.length (t.S.flatMap R3.cells)] hp = some (.tup [.ptr (.heap hp.length) none 0, .int .i64 0], hpS1 hp t t.S.length, false) := by
  have hf := g.frame
  unfold frameB at hf; simp only [decide_eq_true_eq] at hf
  obtain ⟨HP, hHP⟩ : ∃ HP : Nat → Heap, HP = hpS1 hp t := ⟨_, rfl⟩
  obtain ⟨SL, hSL⟩ : ∃ SL : Nat → List PV, SL = fun k => (t.S.take k).flatMap R3.cells := ⟨_, rfl⟩
  have e99 := f49 (n + 5) t.f hp
  rw [decide_eq_true (show 1 ≤ t.f ∧ t.f ≤ 4096 by omega)] at e99
  rw [evalCall_at _ _ _ hh19 rfl Tryz.func19 rfl (Nat.le_of_ble_eq_true rfl) rfl]
  have lX := flat_len R3.len t.S
  have rr := fun k h => flat_row R3.len t.S k h
  generalize t.S.flatMap R3.cells = X at *
  have h0 : hp ++ [PS.Node.cells [.int .i64 t.f, .sl (.mu 0) 0 []]] = HP 0 := by rw [hHP]; simp [hpS1, tg3]
  simp [-getElem?_pos, List.getElem?_cons_zero, e99, h0]
  rw [iter_count (fun k => { fr := [(0, .int .i64 t.f), (6, .ptr (.heap hp.length) none 0), (15, .sl .sh t.S.length X), (16, .int .i64 t.S.length), (17, .int .i64 k)], hp := HP k, base := hp.length, dirty := false }) (.exit 0, { fr := [(0, .int .i64 t.f), (6, .ptr (.heap hp.length) none 0), (15, .sl .sh t.S.length X), (16, .int .i64 t.S.length), (17, .int .i64 t.S.length), (18, .bool false)], hp := HP t.S.length, base := hp.length, dirty := false }) t.S.length]
  · simp [hHP]
  · simp
  · omega
  · intro k hk
    have r := rr k hk
    have z : k * 3 + 3 ≤ t.S.length * 3 := by omega
    have w := wrap_id (x := (k : Int) + 1) (by omega)
    have m1 : (k + 1) * 24 ≤ 140737488355328 := by omega
    have sk := g.sok t.S[k] (List.getElem_mem hk)
    unfold okS at sk; simp only [decide_eq_true_eq] at sk
    have hlk : (t.S.take k).length = k := by rw [List.length_take]; omega
    have hS : SL (k + 1) = SL k ++ t.S[k].cells := by
      rw [hSL]; simp only
      rw [List.take_succ_eq_append_getElem hk, List.flatMap_append]; simp
    have lS : (SL k).length = k * 3 := by
      rw [hSL]; simp only
      rw [flat_len R3.len, hlk]
    have aS : (SL k).all storable = true := by rw [hSL]; exact flat_all (f := R3.cells) (fun _ => rfl) _
    have oS : (SL k).map outCell = SL k := by rw [hSL]; exact flat_out (f := R3.cells) (fun _ => rfl) _
    have hla : ∀ c : PS.Node, (HP k ++ [c])[(HP k).length]? = some c := fun c => by simp
    have hob : ∀ c : PS.Node, (HP k ++ [c])[hp.length]? = some (.cells [.int .i64 t.f, .sl (.mu (tg3 k)) k (SL k)]) := fun c => by rw [hHP, hSL]; simp [hpS1]
    have hle : hp.length < (HP k).length := by rw [hHP]; simp [hpS1]
    have hb : ¬ (HP k).length < hp.length := by omega
    have hset : (HP k ++ [PS.Node.cells t.S[k].cells]).set hp.length (.cells [.int .i64 t.f, .sl (.mu 3) (k + 1) (SL (k + 1))]) = HP (k + 1) := by
      rw [hHP, hSL]
      simp only [hpS1]
      rw [List.take_succ_eq_append_getElem hk]
      simp only [List.map_append, List.map_cons, List.map_nil, List.append_assoc, List.singleton_append]
      rw [List.set_append_right _ _ (Nat.le_refl _), Nat.sub_self]; rfl
    have ge : hp.length < (HP k ++ [PS.Node.cells t.S[k].cells]).length := by rw [List.length_append]; omega
    have e100 := f51 (n + 5) t.S[k] (HP k ++ [PS.Node.cells t.S[k].cells])
    have e98 := f50 (n + 4) t.S[k].a t.S[k].b t.f (HP k ++ [PS.Node.cells t.S[k].cells])
    rw [decide_eq_true (show 0 ≤ t.S[k].a ∧ t.S[k].a < t.S[k].b ∧ t.S[k].b ≤ t.f by omega)] at e98
    have e101 := f52 (n + 4) 53 [.ptr (.heap (HP k).length) none 0] (fun y => meets y.a y.b t.S[k].a t.S[k].b) (t.S.take k) ((HP k ++ [PS.Node.cells t.S[k].cells]).set hp.length (.cells [.int .i64 t.f, .sl (.ow (tg3 k)) k (SL k)])) (by omega) (by omega) rfl (fun y _ => ⟨_, f53 (n + 1) _ t.S[k] y _ (by rw [List.getElem?_set_ne (by omega)]; exact hla _)⟩)
    have hany : ((t.S.take k).any fun y => meets y.a y.b t.S[k].a t.S[k].b) = false := by
      rw [List.any_eq_false]
      intro y hy
      obtain ⟨j, hj, rfl⟩ := List.getElem_of_mem hy
      have hjk : j < k := by omega
      have p := List.pairwise_iff_getElem.1 g.spair j k (by omega) hk hjk
      rw [List.getElem_take]
      unfold pairS at p
      rw [meets_comm, p]; simp
    have hSe : (t.S.take k).flatMap R3.cells = SL k := by rw [hSL]
    rw [hany, hlk, hSe] at e101
    have hsg : ∀ c : PS.Node, ((HP k ++ [PS.Node.cells t.S[k].cells]).set hp.length c)[hp.length]? = some c := fun c => by rw [List.getElem?_set_self ge]
    have t3 := tg3_ok k
    have c1 : ¬ t.S[k].o < 1 := by omega
    have c2 : ¬ 8 < t.S[k].o := by omega
    rw [hS] at hset
    clear hHP hSL hS hSe sk hany
    generalize t.S[k] = x at *
    obtain ⟨o, a, b⟩ := x
    simp only [R3.cells] at *
    generalize SL k = S at *
    generalize tg3 k = q at *
    simp [-getElem?_pos, List.getElem?_cons_zero, hk, lX, r, z, w, m1, lS, aS, oS, hla, hob, hb, hset, e100, e98, e101, t3, c1, c2, ge, hsg]
  · simp
  · simp
end Go.Proofs.YtknoiemnpllapaaGreat
end

section
namespace Go.Proofs.YtknoiemnpllapaaGreat
open Go Go.PS
/-- An owner's window, the last one if there were two. -/
def winF (l : List R3) (o : Nat) : Sp := l.foldl (fun s w => if w.o = (o : Int) then ⟨w.a, w.b⟩ else s) ⟨0, 0⟩
theorem winF_snoc (l : List R3) (w : R3) (o : Nat) : winF (l ++ [w]) o = if w.o = (o : Int) then ⟨w.a, w.b⟩ else winF l o := by
  unfold winF; rw [List.foldl_append]; rfl
def WN (l : List R3) : List PV := ((List.range 9).map (winF l)).flatMap Sp.cells
def PCc (t : Tab) (Z : List PV) (l : List R3) (p q : PV) : List PV := [.int .i64 t.f, .sl (.mu 0) 0 [], .sl (.mu 0) 0 [], .sl (.mu 10) t.C.length Z] ++ WN l ++ [p, q]
theorem WN_eq (l : List R3) : WN l = [.int .i64 (winF l 0).a, .int .i64 (winF l 0).b, .int .i64 (winF l 1).a, .int .i64 (winF l 1).b, .int .i64 (winF l 2).a, .int .i64 (winF l 2).b, .int .i64 (winF l 3).a, .int .i64 (winF l 3).b, .int .i64 (winF l 4).a, .int .i64 (winF l 4).b, .int .i64 (winF l 5).a, .int .i64 (winF l 5).b, .int .i64 (winF l 6).a, .int .i64 (winF l 6).b, .int .i64 (winF l 7).a, .int .i64 (winF l 7).b, .int .i64 (winF l 8).a, .int .i64 (winF l 8).b] := rfl
theorem pc_set (t : Tab) (Z : List PV) (l : List R3) (p q : PV) (w : R3) (j : Nat) (hj : j < 9) (hw : w.o = (j : Int)) : ((PCc t Z l p q).set (4 + j * 2) (.int .i64 w.a)).set (4 + j * 2 + 1) (.int .i64 w.b) = PCc t Z (l ++ [w]) p q := by
  have h : ∀ o : Nat, winF (l ++ [w]) o = if j = o then ⟨w.a, w.b⟩ else winF l o := fun o => by
    rw [winF_snoc, hw]
    by_cases c : j = o
    · rw [if_pos c, if_pos (by omega)]
    · rw [if_neg c, if_neg (by omega)]
  unfold PCc
  rw [WN_eq, WN_eq]
  simp only [h]
  have hc : j = 0 ∨ j = 1 ∨ j = 2 ∨ j = 3 ∨ j = 4 ∨ j = 5 ∨ j = 6 ∨ j = 7 ∨ j = 8 := by omega
  rcases hc with rfl | rfl | rfl | rfl | rfl | rfl | rfl | rfl | rfl <;> rfl
theorem pc_p (t : Tab) (Z : List PV) (l : List R3) (p q r : PV) : (PCc t Z l p q).set 22 r = PCc t Z l r q := rfl
theorem pc_q (t : Tab) (Z : List PV) (l : List R3) (p q r : PV) : (PCc t Z l p q).set 23 r = PCc t Z l p r := rfl
def rgsT (t : Tab) : List R3 := rgsK t.C t.C.length
def hpP1 (hp : Heap) (t : Tab) (p q : PV) : Heap := hp ++ [.cells (PCc t (t.C.flatMap Cl.cells) t.W p q)]
/-- The heap behind a plan. -/
def hpP (hp : Heap) (t : Tab) : Heap := hpR (hpS1 (hpP1 hp t (.ptr (.heap (hp.length + 1)) none 0) (.ptr (.heap (hp.length + t.S.length + 3)) none 0)) t t.S.length) (rgsT t)
theorem hpS1_len (hp : Heap) (t : Tab) (k : Nat) (h : k ≤ t.S.length) : (hpS1 hp t k).length = hp.length + 1 + k := by
  unfold hpS1; simp; omega
theorem hpS1_set (hp : Heap) (t : Tab) (k i : Nat) (c : PS.Node) (h : i < hp.length) : (hpS1 hp t k).set i c = hpS1 (hp.set i c) t k := by
  unfold hpS1
  rw [List.append_assoc, List.append_assoc, List.set_append_left _ _ h]
theorem hpR_set (hp : Heap) (l : List R3) (i : Nat) (c : PS.Node) (h : i < hp.length) : (hpR hp l).set i c = hp.set i c ++ [.map (keysR l) (valsR l), .cells [.mp hp.length]] := by
  unfold hpR
  rw [List.set_append_left _ _ h]
theorem hpS1_get (hp : Heap) (t : Tab) (k i : Nat) (h : i < hp.length) : (hpS1 hp t k)[i]? = hp[i]? := by
  unfold hpS1
  rw [List.append_assoc, List.getElem?_append_left h]
theorem hpR_get (hp : Heap) (l : List R3) (i : Nat) (h : i < hp.length) : (hpR hp l)[i]? = hp[i]? := by
  unfold hpR
  rw [List.getElem?_append_left h]
theorem rgsT_none (t : Tab) (g : Good t) : (List.range (rgsT t).length).find? (badR (rgsT t)) = none := by
  have hl : (rgsT t).length = t.C.length := rgsK_len (Nat.le_refl _)
  rw [List.find?_eq_none]
  intro k hk
  have hk : k < t.C.length := by rw [hl] at hk; exact List.mem_range.1 hk
  have hf := g.frame
  unfold frameB at hf; simp only [decide_eq_true_eq] at hf
  have e := rgsK_at (l := t.C) (Nat.le_refl _) k hk hk
  have hk' : k < (rgsT t).length := by omega
  have ek : (rgsT t)[k] = rgOf t.C[k] k := by
    have : (rgsT t)[k]? = some (rgOf t.C[k] k) := e
    rw [List.getElem?_eq_getElem hk'] at this
    exact Option.some.inj this
  have ck := g.cok t.C[k] (List.getElem_mem hk)
  have hm : mayR (rgsT t)[k] = true := by
    rw [ek]; unfold mayR rgOf; unfold Cl.ok at ck
    simp only [decide_eq_true_eq]; omega
  have hs : sameR (rgsT t) k (rgsT t)[k] = false := by
    unfold sameR
    rw [List.any_eq_false]
    intro y hy
    obtain ⟨i, hi, rfl⟩ := List.getElem_of_mem hy
    have hik : i < k := by rw [List.length_take] at hi; omega
    have hi' : i < t.C.length := by omega
    have ei := rgsK_at (l := t.C) (Nat.le_refl _) i hi' hi'
    have hi2 : i < (rgsT t).length := by omega
    have ei : (rgsT t)[i] = rgOf t.C[i] i := by
      have : (rgsT t)[i]? = some (rgOf t.C[i] i) := ei
      rw [List.getElem?_eq_getElem hi2] at this
      exact Option.some.inj this
    rw [List.getElem_take, ei, ek]
    unfold rgOf
    simp only [decide_eq_true_eq]; omega
  have hx : meetR (rgsT t) k (rgsT t)[k] = false := by
    unfold meetR
    rw [List.any_eq_false]
    intro y hy
    obtain ⟨i, hi, rfl⟩ := List.getElem_of_mem hy
    have hik : i < k := by rw [List.length_take] at hi; omega
    have hi2 : i < (rgsT t).length := by omega
    have p := rgs_apart t g
    rw [List.pairwise_map] at p
    have := List.pairwise_iff_getElem.1 p i k hi2 hk' hik
    rw [List.getElem_take]
    show ¬ meetS (sp (rgsT t)[i]) (sp (rgsT t)[k]) = true
    have t2 : meetS (sp (rgsT t)[i]) (sp (rgsT t)[k]) = false := this
    rw [t2]; simp
  unfold badR
  rw [stR_at hk', hm, hs, hx]; simp
set_option maxHeartbeats 2000000 in
theorem f10 (n : Nat) (t : Tab) (g : Good t) (hp : Heap) (hn : 60 < n) : evalCall Tryz.prog hints (n + 20) 10 [.agg t.cells] hp = some (.tup [.ptr (.heap hp.length) none 0, .int .i64 0], hpP hp t, false) := by
  have hf := g.frame
  unfold frameB at hf; simp only [decide_eq_true_eq] at hf
  obtain ⟨H28, e28⟩ : ∃ H, evalCall Tryz.prog hints (n + 19) 18 [.agg t.cells] hp = some (.bool (decide ((faults t).length = 0)), H, false) := f18 (n + 8) t hp (by omega)
  rw [decide_eq_true (show (faults t).length = 0 by rw [g.nil]; rfl)] at e28
  have e29 : ∀ H, evalCall Tryz.prog hints (n + 19) 21 [.agg t.cells] H = some (.sl (.mu 3) t.C.length ((rgsT t).flatMap R3.cells), H, false) := fun H => f21 (n + 18) t H (by omega) (fun h => by rw [h] at hf; simp at hf) (by omega)
  have hrl : (rgsT t).length = t.C.length := rgsK_len (Nat.le_refl _)
  have e19 : ∀ H, evalCall Tryz.prog hints (n + 19) 20 [.sl .sh t.C.length ((rgsT t).flatMap R3.cells)] H = some (.tup [.ptr (.heap (H.length + 1)) none 0, .int .i64 0], hpR H (rgsT t), false) := fun H => by
    have := f20g (n + 11) (rgsT t) H (by omega) (by omega)
    rw [rgsT_none t g, hrl] at this
    exact this
  have e70 : ∀ H, evalCall Tryz.prog hints (n + 19) 19 [.int .i64 t.f, .sl .sh t.S.length (t.S.flatMap R3.cells)] H = _ := fun H => f19 (n + 12) t g H (by omega)
  rw [evalCall_at _ _ _ hh10 rfl Tryz.func10 rfl (Nat.le_of_ble_eq_true rfl) rfl]
  have lC := flat_len Cl.len t.C
  have oC := flat_out (f := Cl.cells) (fun _ => rfl) t.C
  have aC := flat_all (f := Cl.cells) (fun _ => rfl) t.C
  have m1 : t.C.length * 80 ≤ 140737488355328 := by omega
  have hla : ∀ c : PS.Node, (hp ++ [c])[hp.length]? = some c := fun c => by simp
  have hst : ∀ c d : PS.Node, (hp ++ [c]).set hp.length d = hp ++ [d] := fun c d => by simp
  have lX := flat_len R3.len t.W
  have rr := fun k h => flat_row R3.len t.W k h
  have pG : ((rgsT t).flatMap R3.cells).all plain1 = true := by rw [List.all_flatMap]; simp [R3.cells, plain1]
  have oG := flat_out (f := R3.cells) (fun _ => rfl) (rgsT t)
  obtain ⟨PC, hPC⟩ : ∃ PC : Nat → List PV, PC = fun k => PCc t (t.C.flatMap Cl.cells) (t.W.take k) .nilp .nilp := ⟨_, rfl⟩
  obtain ⟨R, hR⟩ : ∃ R, R = hpP hp t := ⟨_, rfl⟩
  rw [← hR]
  simp only [Tab.cells_eq] at e28 e29 ⊢
  generalize (rgsT t).flatMap R3.cells = G at *
  generalize hY : t.S.flatMap R3.cells = Y at *
  generalize hX : t.W.flatMap R3.cells = X at *
  generalize hZ : t.C.flatMap Cl.cells = Z at *
  have h0 : [PV.int .i64 t.f, .sl (.mu 0) 0 [], .sl (.mu 0) 0 [], .sl (.mu 10) t.C.length Z, .int .i64 0, .int .i64 0, .int .i64 0, .int .i64 0, .int .i64 0, .int .i64 0, .int .i64 0, .int .i64 0, .int .i64 0, .int .i64 0, .int .i64 0, .int .i64 0, .int .i64 0, .int .i64 0, .int .i64 0, .int .i64 0, .int .i64 0, .int .i64 0, .nilp, .nilp] = PC 0 := by rw [hPC]; rfl
  simp [-getElem?_pos, List.getElem?_cons_zero, e28, lC, oC, aC, m1, hla, hst, h0]
  have lP : (PC t.W.length).length = 24 := by rw [hPC]; rfl
  obtain ⟨P1, hP1⟩ : ∃ P1, P1 = PCc t Z t.W (.ptr (.heap (hp.length + 1)) none 0) .nilp := ⟨_, rfl⟩
  have lP1 : P1.length = 24 := by rw [hP1]; rfl
  obtain ⟨H1, hH1⟩ : ∃ H1, H1 = hpS1 (hp ++ [.cells P1]) t t.S.length := ⟨_, rfl⟩
  have g1 : (hpS1 (hp ++ [PS.Node.cells (PC t.W.length)]) t t.S.length)[hp.length]? = some (.cells (PC t.W.length)) := by
    rw [hpS1_get _ _ _ _ (by simp)]; simp
  have s1 : (hpS1 (hp ++ [PS.Node.cells (PC t.W.length)]) t t.S.length).set hp.length (.cells ((PC t.W.length).set 22 (.ptr (.heap (hp.length + 1)) none 0))) = H1 := by
    rw [hpS1_set _ _ _ _ _ (by simp), hst, hPC]
    simp only
    rw [List.take_length, pc_p, hH1, hP1]
  have lH1 : H1.length = hp.length + t.S.length + 2 := by
    rw [hH1, hpS1_len _ _ _ (Nat.le_refl _)]; simp; omega
  have g2 : (hpR H1 (rgsT t))[hp.length]? = some (.cells P1) := by
    rw [hpR_get _ _ _ (by omega), hH1, hpS1_get _ _ _ _ (by simp)]; simp
  have s2 : (hpR H1 (rgsT t)).set hp.length (.cells (P1.set 23 (.ptr (.heap (H1.length + 1)) none 0))) = R := by
    rw [hpR_set _ _ _ _ (by omega), hH1, hpS1_set _ _ _ _ _ (by simp), hst, hR]
    unfold hpP hpP1 hpR
    rw [hZ, hP1, pc_q]
    rw [hpS1_len _ _ _ (Nat.le_refl _), hpS1_len _ _ _ (Nat.le_refl _)]
    simp only [List.length_append, List.length_cons, List.length_nil]
    rw [show hp.length + (0 + 1) + 1 + t.S.length + 1 = hp.length + t.S.length + 3 by omega]
  rw [iter_count (fun k => { fr := [(1, .box [.int .i64 t.f, .sl .sh t.W.length X, .sl .sh t.S.length Y, .sl .sh t.C.length Z]), (4, .ptr (.heap hp.length) none 0), (29, .sl .sh t.W.length X), (30, .int .i64 t.W.length), (31, .int .i64 k)], hp := hp ++ [.cells (PC k)], base := hp.length, dirty := false }) (.exit 0, { fr := [(1, .box [.int .i64 t.f, .sl .sh t.W.length X, .sl .sh t.S.length Y, .sl .sh t.C.length Z]), (4, .ptr (.heap hp.length) none 0), (29, .sl .sh t.W.length X), (30, .int .i64 t.W.length), (31, .int .i64 t.W.length), (32, .bool false)], hp := hp ++ [.cells (PC t.W.length)], base := hp.length, dirty := false }) t.W.length]
  · simp [-getElem?_pos, List.getElem?_cons_zero, e70, g1, s1, lP, e29, pG, e19, g2, s2, lP1, oG]
  · simp
  · omega
  · intro k hk
    have r := rr k hk
    have z : k * 3 + 3 ≤ t.W.length * 3 := by omega
    have w := wrap_id (x := (k : Int) + 1) (by omega)
    have wk := g.wok t.W[k] (List.getElem_mem hk)
    unfold okW at wk; simp only [decide_eq_true_eq] at wk
    obtain ⟨j, hj⟩ : ∃ j : Nat, (j : Int) = t.W[k].o := ⟨t.W[k].o.toNat, by omega⟩
    have hj9 : j < 9 := by omega
    have hj9i : (j : Int) < 9 := by omega
    have hj24 : 4 + j * 2 + 2 ≤ 24 := by omega
    have ps := pc_set t Z (t.W.take k) .nilp .nilp t.W[k] j hj9 hj.symm
    have hps : ((PC k).set (4 + j * 2) (.int .i64 t.W[k].a)).set (4 + j * 2 + 1) (.int .i64 t.W[k].b) = PC (k + 1) := by
      rw [hPC]; simp only
      rw [List.take_succ_eq_append_getElem hk]; exact ps
    have lP : (PC k).length = 24 := by rw [hPC]; rfl
    clear ps wk s1 g1
    rw [← hps]
    clear hps
    generalize PC k = Q at *
    generalize t.W[k] = x at *
    obtain ⟨o, a, b⟩ := x
    simp only [R3.cells] at *
    subst hj
    simp [-getElem?_pos, List.getElem?_cons_zero, hk, lX, r, z, w, hla, hst, hj9, hj9i, hj24, lP]
  · simp
  · simp
end Go.Proofs.YtknoiemnpllapaaGreat
end

section
namespace Go.Proofs.YtknoiemnpllapaaGreat
open Go Go.PS
/-- What is read of a plan's object. -/
structure PlanO (t : Tab) (Z P : List PV) (js jr : Nat) : Prop where
  len : P.length = 24
  p0 : P[0]? = some (.int .i64 t.f)
  p3 : P[3]? = some (.sl (.mu 10) t.C.length Z)
  p4 : P[4]? = some (.int .i64 (winF t.W 0).a)
  p22 : P[22]? = some (.ptr (.heap js) none 0)
  p23 : P[23]? = some (.ptr (.heap jr) none 0)
  win : ∀ j, j < 9 → (P.drop (4 + j * 2)).take 2 = (winF t.W j).cells
theorem planO (t : Tab) (Z : List PV) (js jr : Nat) : PlanO t Z (PCc t Z t.W (.ptr (.heap js) none 0) (.ptr (.heap jr) none 0)) js jr := by
  refine ⟨rfl, rfl, rfl, rfl, rfl, rfl, fun j hj => ?_⟩
  unfold PCc
  rw [WN_eq]
  have hc : j = 0 ∨ j = 1 ∨ j = 2 ∨ j = 3 ∨ j = 4 ∨ j = 5 ∨ j = 6 ∨ j = 7 ∨ j = 8 := by omega
  rcases hc with rfl | rfl | rfl | rfl | rfl | rfl | rfl | rfl | rfl <;> rfl
/-- A plan in a heap. -/
structure PlanAt (t : Tab) (hp : Heap) (j : Nat) (P : List PV) (js jr jm : Nat) : Prop where
  o : PlanO t (t.C.flatMap Cl.cells) P js jr
  hj : hp[j]? = some (.cells P)
  hs : hp[js]? = some (.cells [.int .i64 t.f, .sl (.mu (tg3 t.S.length)) t.S.length (t.S.flatMap R3.cells)])
  hr : hp[jr]? = some (.cells [.mp jm])
  hm : hp[jm]? = some (.map (keysR (rgsT t)) (valsR (rgsT t)))
theorem planAt (t : Tab) (hp : Heap) : PlanAt t (hpP hp t) hp.length (PCc t (t.C.flatMap Cl.cells) t.W (.ptr (.heap (hp.length + 1)) none 0) (.ptr (.heap (hp.length + t.S.length + 3)) none 0)) (hp.length + 1) (hp.length + t.S.length + 3) (hp.length + t.S.length + 2) := by
  have l1 : (hpS1 (hpP1 hp t (.ptr (.heap (hp.length + 1)) none 0) (.ptr (.heap (hp.length + t.S.length + 3)) none 0)) t t.S.length).length = hp.length + t.S.length + 2 := by
    rw [hpS1_len _ _ _ (Nat.le_refl _)]; unfold hpP1; simp; omega
  refine ⟨planO _ _ _ _, ?_, ?_, ?_, ?_⟩
  · unfold hpP
    rw [hpR_get _ _ _ (by omega), hpS1_get _ _ _ _ (by unfold hpP1; simp)]
    unfold hpP1; simp
  · unfold hpP
    rw [hpR_get _ _ _ (by omega)]
    unfold hpS1 hpP1
    rw [List.take_length]
    simp
  · unfold hpP hpR
    rw [List.getElem?_append_right (by omega), l1, show hp.length + t.S.length + 3 - (hp.length + t.S.length + 2) = 1 by omega]
    rfl
  · unfold hpP hpR
    rw [List.getElem?_append_right (by omega), l1, Nat.sub_self]
    rfl
section
variable {t : Tab} {hp : Heap} {j js jr jm : Nat} {P : List PV}
theorem f61 (n : Nat) (a : PlanAt t hp j P js jr jm) : evalCall Tryz.prog hints (n + 1) 61 [.ptr (.heap j) none 0] hp = some (.int .i64 t.f, hp, false) := by
  obtain ⟨⟨o1, o2, o3, o4, o5, o6, o7⟩, a2, a3, a4, a5⟩ := a
  rw [evalCall_at _ _ _ hh61 rfl Tryz.func61 rfl (Nat.le_of_ble_eq_true rfl) rfl]
  simp [-getElem?_pos, List.getElem?_cons_zero, a2, o1, o2]
theorem f22 (n : Nat) (a : PlanAt t hp j P js jr jm) : evalCall Tryz.prog hints (n + 1) 22 [.ptr (.heap j) none 0] hp = some (.int .i64 t.C.length, hp, false) := by
  obtain ⟨⟨o1, o2, o3, o4, o5, o6, o7⟩, a2, a3, a4, a5⟩ := a
  rw [evalCall_at _ _ _ hh22 rfl Tryz.func22 rfl (Nat.le_of_ble_eq_true rfl) rfl]
  generalize t.C.flatMap Cl.cells = Z at *
  simp [-getElem?_pos, List.getElem?_cons_zero, a2, o1, o3]
theorem f58 (n : Nat) (a : PlanAt t hp j P js jr jm) : evalCall Tryz.prog hints (n + 1) 58 [.ptr (.heap j) none 0] hp = some (.ptr (.heap js) none 0, hp, false) := by
  obtain ⟨⟨o1, o2, o3, o4, o5, o6, o7⟩, a2, a3, a4, a5⟩ := a
  rw [evalCall_at _ _ _ hh58 rfl Tryz.func58 rfl (Nat.le_of_ble_eq_true rfl) rfl]
  simp [-getElem?_pos, List.getElem?_cons_zero, a2, o1, o5]
/-- Is there such a client? -/
def isC (t : Tab) (o : Int) : Bool := decide (1 ≤ o ∧ o ≤ (t.C.length : Int))
def Cl.zero : Cl := ⟨0, 0, 0, 0, 0, 0, 0, 0, 0, 0⟩
def winO (t : Tab) (o : Int) : Sp := if 0 ≤ o ∧ o ≤ (t.C.length : Int) then winF t.W o.toNat else ⟨0, 0⟩
def whenO (t : Tab) (w o : Int) : Int := if isC t o = true ∧ (w = 1 ∨ w = 2) then (winF t.W 0).a + 2 * (o - 1) + (w - 1) else -1
theorem f62 (n : Nat) (a : PlanAt t hp j P js jr jm) (hC : t.C.length ≤ 8) (o : Int) : evalCall Tryz.prog hints (n + 2) 62 [.ptr (.heap j) none 0, .int .i64 o] hp = some (.agg (winO t o).cells, hp, false) := by
  have e := f22 n a
  obtain ⟨⟨o1, o2, o3, o4, o5, o6, o7⟩, a2, a3, a4, a5⟩ := a
  rw [evalCall_at _ _ _ hh62 rfl Tryz.func62 rfl (Nat.le_of_ble_eq_true rfl) rfl]
  unfold winO
  by_cases c1 : o < 0
  · rw [if_neg (by omega)]
    simp [-getElem?_pos, List.getElem?_cons_zero, c1, Sp.cells]
  · by_cases c2 : (t.C.length : Int) < o
    · rw [if_neg (by omega)]
      simp [-getElem?_pos, List.getElem?_cons_zero, c1, e, c2, Sp.cells]
    · rw [if_pos (by omega)]
      obtain ⟨k, rfl⟩ : ∃ k : Nat, o = (k : Int) := ⟨o.toNat, by omega⟩
      have hk : k < 9 := by omega
      have hki : (k : Int) < 9 := by omega
      have c2' : ¬ t.C.length < k := by omega
      have r := o7 k hk
      have z : 4 + k * 2 + 2 ≤ 24 := by omega
      rw [show ((k : Int)).toNat = k by omega]
      generalize winF t.W k = w at *
      obtain ⟨x, y⟩ := w
      simp only [Sp.cells] at *
      simp [-getElem?_pos, List.getElem?_cons_zero, c1, e, c2, c2', a2, o1, r, z, hk, hki]
end
end Go.Proofs.YtknoiemnpllapaaGreat
end

section
namespace Go.Proofs.YtknoiemnpllapaaGreat
open Go Go.PS
theorem wins_uniq {l : List R3} (h : l.Pairwise fun y x => pairW x y = false) {x y : R3} (hx : x ∈ l) (hy : y ∈ l) (e : x.o = y.o) : x = y := by
  obtain ⟨i, hi, rfl⟩ := List.getElem_of_mem hx
  obtain ⟨j, hj, rfl⟩ := List.getElem_of_mem hy
  have p := List.pairwise_iff_getElem.1 h
  have key : ∀ i j (hi : i < l.length) (hj : j < l.length), i < j → l[i].o ≠ l[j].o := fun i j hi hj hij e => by
    have := p i j hi hj hij
    unfold pairW at this
    rw [Bool.or_eq_false_iff] at this
    exact of_decide_eq_false this.1 e.symm
  by_cases c : i = j
  · subst c; rfl
  · rcases Nat.lt_or_ge i j with h | h
    · exact absurd e (key i j hi hj h)
    · exact absurd e.symm (key j i hj hi (by omega))
theorem winF_of {o : Nat} {w : R3} (hw : w.o = (o : Int)) : ∀ (l : List R3) (s : Sp), (∀ x ∈ l, x.o = (o : Int) → x = w) → (w ∈ l ∨ s = wsp w) → l.foldl (fun s w => if w.o = (o : Int) then (⟨w.a, w.b⟩ : Sp) else s) s = wsp w
  | [], s, _, h2 => by
    rcases h2 with h | h
    · simp at h
    · exact h
  | x :: l, s, h1, h2 => by
    rw [List.foldl_cons]
    refine winF_of hw l _ (fun y hy => h1 y (List.mem_cons_of_mem _ hy)) ?_
    by_cases c : x.o = (o : Int)
    · right
      rw [if_pos c, h1 x (by simp) c]; rfl
    · rw [if_neg c]
      rcases h2 with h | h
      · rcases List.mem_cons.1 h with e | e
        · subst e; exact absurd hw c
        · exact .inl e
      · exact .inr h
/-- An owner's window. -/
theorem win_good {t : Tab} (g : Good t) (o : Nat) (ho : o ≤ t.C.length) : ∃ w ∈ t.W, w.o = (o : Int) ∧ winF t.W o = wsp w ∧ rowO t.W (o : Int) = w := by
  have h := g.own o ho
  rw [List.any_eq_true] at h
  obtain ⟨w, hw, e⟩ := h
  have e := of_decide_eq_true e
  refine ⟨w, hw, e, ?_, ?_⟩
  · exact winF_of e t.W _ (fun x hx hxo => wins_uniq g.wpair hx hw (by rw [hxo, e])) (.inl hw)
  · have hh : hasO t.W (o : Int) = true := by
      unfold hasO ownI
      cases hx : idx (fun r : R3 => decide (r.o = (o : Int))) t.W with
      | none =>
        have := idx_none.1 hx
        rw [List.any_eq_true.2 ⟨w, hw, by simp [e]⟩] at this
        cases this
      | some k => rfl
    unfold hasO at hh
    unfold rowO
    cases hx : ownI t.W (o : Int) with
    | none => rw [hx] at hh; cases hh
    | some k =>
      obtain ⟨hk, e2⟩ := idx_lt hx
      simp only [List.getElem?_eq_getElem hk, Option.getD_some]
      exact wins_uniq g.wpair (List.getElem_mem hk) hw (by rw [e]; simpa using e2)
theorem win_b {t : Tab} (g : Good t) (o : Nat) (ho : o ≤ t.C.length) : 0 ≤ (winF t.W o).a ∧ (winF t.W o).a < (winF t.W o).b ∧ (winF t.W o).b ≤ t.f := by
  obtain ⟨w, hw, _, e, _⟩ := win_good g o ho
  have := g.wok w hw
  unfold okW at this; simp only [decide_eq_true_eq] at this
  rw [e]; unfold wsp; simp only; omega
theorem f60 (n : Nat) (k f : Int) (hp : Heap) (hf : 1 ≤ f ∧ f ≤ 4096) (hk : k < 9223372036854775808) : evalCall Tryz.prog hints (n + 2) 60 [.int .i64 k, .int .i64 f] hp = some (.tup [.int .i64 (if k < 0 then 0 else k / f), .int .i64 (if k < 0 then 0 else k % f)], hp, false) := by
  have e := f49 n f hp
  rw [decide_eq_true hf] at e
  rw [evalCall_at _ _ _ hh60 rfl Tryz.func60 rfl (Nat.le_of_ble_eq_true rfl) rfl]
  by_cases c : k < 0
  · simp [e, c]
  · have hne : (f == 0) = false := by simp; omega
    have hne' : ¬ f = 0 := by omega
    have q1 := td (a := k) f (by omega)
    have q2 := tm (a := k) f (by omega)
    have b0 := Int.ediv_nonneg (a := k) (b := f) (by omega) (by omega)
    have b1 : k / f ≤ k := Int.ediv_le_self f (by omega)
    have b2 := Int.emod_nonneg k (show f ≠ 0 by omega)
    have b3 := Int.emod_lt_of_pos k (show 0 < f by omega)
    have w1 := wrap_id (x := k / f) (by omega)
    have w2 := wrap_id (x := k % f) (by omega)
    simp [e, c, hne, hne', q1, q2, w1, w2]
theorem f64 (n : Nat) (s : Sp) (x : Int) (hp : Heap) : evalCall Tryz.prog hints (n + 2) 64 [.agg s.cells, .int .i64 x] hp = some (.bool (s.is && decide (s.a ≤ x ∧ x < s.b)), hp, false) := by
  have e := fun hp => f103 n s.a s.b hp
  rw [evalCall_at _ _ _ hh64 rfl Tryz.func64 rfl (Nat.le_of_ble_eq_true rfl) rfl]
  obtain ⟨a, b⟩ := s
  unfold Sp.is
  simp only [Sp.cells] at *
  generalize decide (0 ≤ a ∧ a < b) = d at *
  cases d
  · simp [e]
  · by_cases c : a ≤ x <;> simp [e, c]
/-- The first owner of whose window something is so. -/
def findO (t : Tab) (q : Sp → Bool) : Int := match (List.range t.C.length).find? (fun i => q (winF t.W (i + 1))) with
  | some i => (i : Int) + 1
  | none => 0
section
variable {t : Tab} {hp : Heap} {j js jr jm : Nat} {P : List PV}
set_option maxHeartbeats 1000000 in
theorem f63 (n g : Nat) (q : Sp → Bool) (a : PlanAt t hp j P js jr jm) (hf : 1 ≤ t.f ∧ t.f ≤ 4096) (hC : t.C.length ≤ 8) (hn : 60 < n) (k : Int) (hk : k < 9223372036854775808) (ho : (hints g).own = none)
    (hg : 0 ≤ k → ∀ s : Sp, ∃ H, evalCall Tryz.prog hints (n + 2) g [.agg s.cells, .int .i64 (k % t.f)] hp = some (.bool (q s), H, false)) :
    evalCall Tryz.prog hints (n + 3) 63 [.ptr (.heap j) none 0, .int .i64 k, .fn g []] hp = some (.int .i64 (if k < 0 then 0 else findO t q), hp, false) := by
  have e34 := f61 (n + 1) a
  have e35 := f22 (n + 1) a
  have e76 := f60 n k t.f hp hf hk
  obtain ⟨⟨o1, o2, o3, o4, o5, o6, o7⟩, a2, a3, a4, a5⟩ := a
  rw [evalCall_at _ _ _ hh63 rfl Tryz.func63 rfl (Nat.le_of_ble_eq_true rfl) rfl]
  by_cases c : k < 0
  · simp [c]
  · have hg := hg (by omega)
    rw [if_neg c, if_neg c] at e76
    rw [if_neg c]
    generalize t.C.flatMap Cl.cells = Z at *
    unfold findO
    simp [c, e34, e35, e76]
    rw [iter_idx (fun i => { fr := [(0, .ptr (.heap j) none 0), (2, .fn g []), (8, .int .i64 (k % t.f)), (9, .int .i64 ((i : Int) + 1))], hp := hp, base := hp.length, dirty := false }) (fun i => q (winF t.W (i + 1))) (fun i => (.ret, { fr := [(6, .int .i64 ((i : Int) + 1))], hp := hp, base := hp.length, dirty := false })) (.exit 0, { fr := [(0, .ptr (.heap j) none 0), (2, .fn g []), (8, .int .i64 (k % t.f)), (9, .int .i64 ((t.C.length : Int) + 1)), (22, .bool false)], hp := hp, base := hp.length, dirty := false }) t.C.length]
    · cases (List.range t.C.length).find? _ <;> simp
    · simp
    · omega
    · intro i hi
      obtain ⟨H, e⟩ := hg (winF t.W (i + 1))
      have r := o7 (i + 1) (by omega)
      have z : 4 + (i + 1) * 2 + 2 ≤ 24 := by omega
      have w := wrap_id (x := (i : Int) + 1 + 1) (by omega)
      have c1 : (i : Int) + 1 ≤ t.C.length := by omega
      have c2 : (i : Int) + 1 < 9 := by omega
      have c2' : i + 1 < 9 := by omega
      have c3 : (0 : Int) ≤ (i : Int) + 1 := by omega
      generalize winF t.W (i + 1) = s at *
      obtain ⟨x, y⟩ := s
      simp only [Sp.cells] at *
      generalize q ⟨x, y⟩ = b at *
      cases b <;> simp [-getElem?_pos, List.getElem?_cons_zero, e35, c1, c2, c2', c3, a2, o1, r, z, w, e, ho]
    · have cn : ¬ ((t.C.length : Int) + 1 ≤ t.C.length) := by omega
      simp [e35, cn]
    · simp
    · simp
end
end Go.Proofs.YtknoiemnpllapaaGreat
end

section
namespace Go.Proofs.YtknoiemnpllapaaGreat
open Go Go.PS
def inS (x : Int) (s : Sp) : Bool := s.is && decide (s.a ≤ x ∧ x < s.b)
def dutyO (t : Tab) (k : Int) : Int × Int :=
  if k < 0 then (0, 0) else if k % t.f - (winF t.W 0).a < 0 then (0, 0) else if (t.C.length : Int) < (k % t.f - (winF t.W 0).a) / 2 + 1 then (0, 0) else (1 + (k % t.f - (winF t.W 0).a) % 2, (k % t.f - (winF t.W 0).a) / 2 + 1)
theorem winO_zero (t : Tab) : winO t 0 = winF t.W 0 := by
  unfold winO; rw [if_pos (by omega)]; rfl
theorem i64_wf {v : Int} (h : (Lit.int .i64 v).wf = true) : -9223372036854775808 ≤ v ∧ v < 9223372036854775808 := by
  simp [Lit.wf, IntKind.min, IntKind.max, IntKind.signed, IntKind.bits] at h
  omega
section
variable {t : Tab} {hp : Heap} {j js jr jm : Nat} {P : List PV}
theorem f25 (n : Nat) (a : PlanAt t hp j P js jr jm) (hf : 1 ≤ t.f ∧ t.f ≤ 4096) (hC : t.C.length ≤ 8) (hn : 60 < n) (k : Int) (hk : k < 9223372036854775808) :
    evalCall Tryz.prog hints (n + 4) 25 [.ptr (.heap j) none 0, .int .i64 k] hp = some (.int .i64 (if k < 0 then 0 else findO t (inS (k % t.f))), hp, false) := by
  have e := f63 n 64 (inS (k % t.f)) a hf hC hn k hk rfl (fun _ s => ⟨_, f64 n s (k % t.f) hp⟩)
  rw [evalCall_at _ _ _ hh25 rfl Tryz.func25 rfl (Nat.le_of_ble_eq_true rfl) rfl]
  generalize (if k < 0 then (0 : Int) else findO t (inS (k % t.f))) = r at *
  simp [e]
set_option maxHeartbeats 1000000 in
theorem f24 (n : Nat) (a : PlanAt t hp j P js jr jm) (hf : 1 ≤ t.f ∧ t.f ≤ 4096) (hC : t.C.length ≤ 8) (hw : 0 ≤ (winF t.W 0).a ∧ (winF t.W 0).a ≤ 5000) (k : Int) (hk : k < 9223372036854775808) :
    evalCall Tryz.prog hints (n + 3) 24 [.ptr (.heap j) none 0, .int .i64 k] hp = some (.agg [.int .i64 (dutyO t k).1, .int .i64 (dutyO t k).2], hp, false) := by
  have e34 := f61 (n + 1) a
  have e35 := f22 (n + 1) a
  have e40 := f62 n a hC 0
  rw [winO_zero] at e40
  have e76 := f60 n k t.f hp hf hk
  rw [evalCall_at _ _ _ hh24 rfl Tryz.func24 rfl (Nat.le_of_ble_eq_true rfl) rfl]
  unfold dutyO
  generalize winF t.W 0 = s at *
  obtain ⟨x, y⟩ := s
  simp only [Sp.cells] at *
  by_cases c : k < 0
  · rw [if_pos c, if_pos c] at e76
    rw [if_pos c]
    have w1 := wrap_id (x := 0 - x) (by omega)
    simp [-getElem?_pos, List.getElem?_cons_zero, e34, e35, e40, e76, c]
  · rw [if_neg c, if_neg c] at e76
    rw [if_neg c]
    have b2 := Int.emod_nonneg k (show t.f ≠ 0 by omega)
    have b3 := Int.emod_lt_of_pos k (show 0 < t.f by omega)
    generalize k / t.f = d at *
    generalize k % t.f = m at *
    have w1 := wrap_id (x := m - x) (by omega)
    by_cases c1 : m - x < 0
    · rw [if_pos c1]
      simp [-getElem?_pos, List.getElem?_cons_zero, e34, e35, e40, e76, c, w1, c1]
    · rw [if_neg c1]
      have q1 := td (a := m - x) 2 (by omega)
      have q2 := tm (a := m - x) 2 (by omega)
      have w2 := wrap_id (x := (m - x) / 2) (by omega)
      have w3 := wrap_id (x := (m - x) / 2 + 1) (by omega)
      have w4 := wrap_id (x := (m - x) % 2) (by omega)
      have w5 := wrap_id (x := 1 + (m - x) % 2) (by omega)
      by_cases c2 : (t.C.length : Int) < (m - x) / 2 + 1
      · rw [if_pos c2]
        simp [-getElem?_pos, List.getElem?_cons_zero, e34, e35, e40, e76, c, w1, c1, q1, w2, w3, c2]
      · rw [if_neg c2]
        simp [-getElem?_pos, List.getElem?_cons_zero, e34, e35, e40, e76, c, w1, c1, q1, q2, w2, w3, w4, w5, c2]
end
set_option maxHeartbeats 1000000 in
theorem f108 (n : Nat) (t : Tab) (o : Int) (hp : Heap) (hl : t.W.length ≤ 40) (hn : 60 < n) : evalCall Tryz.prog hints (n + 1) 108 [.agg t.cells, .int .i64 o] hp = some (.agg (wsp (rowO t.W o)).cells, hp, false) := by
  rw [evalCall_at _ _ _ hh108 rfl Tryz.func108 rfl (Nat.le_of_ble_eq_true rfl) rfl]
  have lX := flat_len R3.len t.W
  have g0 := fun k h => flat_get R3.len t.W k h 0 (by omega)
  have g1 := fun k h => flat_get R3.len t.W k h 1 (by omega)
  have g2 := fun k h => flat_get R3.len t.W k h 2 (by omega)
  unfold rowO ownI
  rw [← idx_range]
  simp only [Tab.cells_eq]
  generalize t.S.flatMap R3.cells = Y at *
  generalize t.C.flatMap Cl.cells = Z at *
  generalize t.W.flatMap R3.cells = X at *
  simp
  rw [iter_idx (fun k => { fr := [(1, .int .i64 o), (2, .box [.int .i64 t.f, .sl .sh t.W.length X, .sl .sh t.S.length Y, .sl .sh t.C.length Z]), (4, .box [.int .i64 0, .int .i64 0]), (5, .int .i64 k)], hp := hp, base := hp.length, dirty := false }) (fun k => (t.W[k]?).any fun r => decide (r.o = o)) (fun k => (.ret, { fr := [(4, .box (wsp ((t.W[k]?).getD ⟨0, 0, 0⟩)).cells)], hp := hp, base := hp.length, dirty := false })) (.exit 0, { fr := [(1, .int .i64 o), (2, .box [.int .i64 t.f, .sl .sh t.W.length X, .sl .sh t.S.length Y, .sl .sh t.C.length Z]), (4, .box [.int .i64 0, .int .i64 0]), (5, .int .i64 t.W.length), (10, .bool false)], hp := hp, base := hp.length, dirty := false }) t.W.length]
  · cases (List.range t.W.length).find? _ <;> simp [wsp, Sp.cells]
  · simp
  · omega
  · intro k hk
    have g0 := g0 k hk
    have g1 := g1 k hk
    have g2 := g2 k hk
    have w := wrap_id (x := (k : Int) + 1) (by omega)
    rw [List.getElem?_eq_getElem hk]
    simp only [Option.any_some, Option.getD_some]
    generalize t.W[k] = x at *
    obtain ⟨o', a, b⟩ := x
    simp only [R3.cells, wsp, Sp.cells, Nat.add_zero, List.getElem?_cons_zero, List.getElem?_cons_succ] at *
    by_cases c : o' = o
    · have c' : (o' == o) = true := by simp [c]
      rw [decide_eq_true c]
      simp [-getElem?_pos, List.getElem?_cons_zero, hk, lX, g0, g1, g2, w, c']
    · have c' : (o' == o) = false := by simp [c]
      rw [decide_eq_false c]
      simp [-getElem?_pos, List.getElem?_cons_zero, hk, lX, g0, g1, g2, w, c']
  · simp
  · simp
  · simp
theorem f66 (n : Nat) (t : Tab) (g : Good t) (w o : Int) (hp : Heap) (hw : 1 ≤ w ∧ w ≤ 2) (ho : 1 ≤ o ∧ o ≤ (t.C.length : Int)) (hn : 60 < n) : evalCall Tryz.prog hints (n + 2) 66 [.agg t.cells, .int .i64 w, .int .i64 o] hp = some (.int .i64 (whenO t w o), hp, false) := by
  have hf := g.frame
  unfold frameB at hf; simp only [decide_eq_true_eq] at hf
  have e := f108 n t 0 hp (by omega) hn
  obtain ⟨wi, _, _, h1, h2⟩ := win_good g 0 (by omega)
  have wb := win_b g 0 (by omega)
  rw [show ((0 : Nat) : Int) = 0 from rfl] at h2
  rw [h2, ← h1] at e
  have hW : whenO t w o = (winF t.W 0).a + 2 * (o - 1) + (w - 1) := by
    unfold whenO
    rw [if_pos ⟨decide_eq_true ho, by omega⟩]
  rw [evalCall_at _ _ _ hh66 rfl Tryz.func66 rfl (Nat.le_of_ble_eq_true rfl) rfl]
  rw [hW]
  clear h1 h2 hW
  generalize winF t.W 0 = s at *
  obtain ⟨x, y⟩ := s
  simp only [Sp.cells, Tab.cells_eq] at *
  have w1 := wrap_id (x := 2 * o) (by omega)
  have w2 := wrap_id (x := x + 2 * o) (by omega)
  have w3 := wrap_id (x := x + 2 * o - 3) (by omega)
  have w4 := wrap_id (x := x + 2 * o - 3 + w) (by omega)
  have he : x + 2 * (o - 1) + (w - 1) = x + 2 * o - 3 + w := by omega
  rw [he]
  generalize t.S.flatMap R3.cells = Y at *
  generalize t.C.flatMap Cl.cells = Z at *
  generalize t.W.flatMap R3.cells = X at *
  simp [-getElem?_pos, List.getElem?_cons_zero, e, w1, w2, w3, w4]
end Go.Proofs.YtknoiemnpllapaaGreat
end

section
namespace Go.Proofs.YtknoiemnpllapaaGreat
open Go Go.PS
theorem stood80 : Tryz.prog.stoodInHeld 80 = false := by kernel_rfl
@[simp] theorem guard80 : Tryz.prog.eqGuardType Tryz.prog.depth 80 = false := by kernel_rfl
theorem eqT80 (a b a' b' : Int) : eqT Tryz.prog 20 80 [.int .i64 a, .int .i64 b] [.int .i64 a', .int .i64 b'] = some (a == a' && b == b') := by
  show eqT Tryz.prog (18 + 1 + 1) 80 _ _ = _
  unfold eqT
  rw [Tryz.underlying80]
  simp only [stood80]
  simp [eqi3, andL]
end Go.Proofs.YtknoiemnpllapaaGreat
end

section
namespace Go.Proofs.YtknoiemnpllapaaGreat
open Go Go.PS
theorem f10n (n : Nat) (t : Tab) (h0 : faults t ≠ []) (hp : Heap) (hn : 60 < n) : evalCall Tryz.prog hints (n + 20) 10 [.agg t.cells] hp = some (.tup [.nilp, .int .i64 11], hp, false) := by
  obtain ⟨H28, e28⟩ : ∃ H, evalCall Tryz.prog hints (n + 19) 18 [.agg t.cells] hp = some (.bool (decide ((faults t).length = 0)), H, false) := f18 (n + 8) t hp (by omega)
  rw [decide_eq_false (fun h => h0 (List.length_eq_zero_iff.1 h))] at e28
  rw [evalCall_at _ _ _ hh10 rfl Tryz.func10 rfl (Nat.le_of_ble_eq_true rfl) rfl]
  simp only [Tab.cells_eq] at *
  generalize t.S.flatMap R3.cells = Y at *
  generalize t.C.flatMap Cl.cells = Z at *
  generalize t.W.flatMap R3.cells = X at *
  simp [-getElem?_pos, List.getElem?_cons_zero, e28]
end Go.Proofs.YtknoiemnpllapaaGreat
end
