/-
  What functions of this program compute, as equations about the evaluator. No condition but those stated.
-/
import Derived.Test.YtaiiboplopljoaaGreatEqsL
import Derived.Test.YtaiiboplopljoaaGreatEqsM
import Derived.Test.YtaiiboplopljoaaGreatEqsN

set_option linter.all false
section
namespace Go.Proofs.YtaiiboplopljoaaGreat
open Go Go.PS
theorem f73 (n : Nat) (f : Int) (hp : Heap) : evalCall Tryz.prog hints (n + 1) 73 [.int .i64 f] hp = some (.bool (decide (1 ≤ f ∧ f ≤ 4096)), hp, false) := by
  rw [evalCall_at _ _ _ hh73 rfl Tryz.func73 rfl (Nat.le_of_ble_eq_true rfl) rfl]
  by_cases c1 : 1 ≤ f
  · simp [c1]
  · simp [c1]
theorem f75 (n : Nat) (w : R3) (hp : Heap) : evalCall Tryz.prog hints (n + 1) 75 [.agg w.cells] hp = some (.agg [.int .i64 w.a, .int .i64 w.b], hp, false) := by
  rw [evalCall_at _ _ _ hh75 rfl Tryz.func75 rfl (Nat.le_of_ble_eq_true rfl) rfl]
  obtain ⟨o, a, b⟩ := w
  simp [R3.cells]
theorem f77 (n j : Nat) (x y : R3) (hp : Heap) (hj : hp[j]? = some (.cells x.cells)) : evalCall Tryz.prog hints (n + 3) 77 [.agg y.cells, .ptr (.heap j) none 0] hp = some (.bool (meets y.a y.b x.a x.b), hp, false) := by
  have e := fun hp => f78 n y.a y.b x.a x.b hp
  have e1 := fun hp => f75 (n + 1) y hp
  have e2 := fun hp => f75 (n + 1) x hp
  rw [evalCall_at _ _ _ hh77 rfl Tryz.func77 rfl (Nat.le_of_ble_eq_true rfl) rfl]
  obtain ⟨o, a, b⟩ := x
  obtain ⟨o', a', b'⟩ := y
  simp only [R3.cells] at *
  generalize both a' b' a b = B at *
  generalize meets a' b' a b = m at *
  simp [-getElem?_pos, List.getElem?_cons_zero, hj, e, e1, e2]
def tg3 (k : Nat) : Nat := match k with
  | 0 => 0
  | _ + 1 => 3
theorem tg3_ok (k : Nat) : tg3 k = 3 ∨ tg3 k = 0 ∧ k = 0 := by cases k <;> simp [tg3]
/-- The heap behind a table of slots. -/
def hpS1 (hp : Heap) (t : Tab) (k : Nat) : Heap := hp ++ [.cells [.int .i64 t.f, .sl (.mu (tg3 k)) k ((t.S.take k).flatMap R3.cells)]] ++ (t.S.take k).map fun w => PS.Node.cells w.cells
set_option maxHeartbeats 1000000 in
theorem f44 (n : Nat) (t : Tab) (g : Good t) (hp : Heap) (hn : 60 < n) : evalCall Tryz.prog hints (n + 7) 44 [.int .i64 t.f, .sl .sh t.S.length (t.S.flatMap R3.cells)] hp = some (.tup [.ptr (.heap hp.length) none 0, .int .i64 0], hpS1 hp t t.S.length, false) := by
  have hf := g.frame
  unfold frameB at hf; simp only [decide_eq_true_eq] at hf
  obtain ⟨HP, hHP⟩ : ∃ HP : Nat → Heap, HP = hpS1 hp t := ⟨_, rfl⟩
  obtain ⟨SL, hSL⟩ : ∃ SL : Nat → List PV, SL = fun k => (t.S.take k).flatMap R3.cells := ⟨_, rfl⟩
  have e99 := f73 (n + 5) t.f hp
  rw [decide_eq_true (show 1 ≤ t.f ∧ t.f ≤ 4096 by omega)] at e99
  rw [evalCall_at _ _ _ hh44 rfl Tryz.func44 rfl (Nat.le_of_ble_eq_true rfl) rfl]
  have lX := flat_len R3.len t.S
  have rr := fun k h => flat_row R3.len t.S k h
  generalize t.S.flatMap R3.cells = X at *
  have h0 : hp ++ [PS.Node.cells [.int .i64 t.f, .sl (.mu 0) 0 []]] = HP 0 := by rw [hHP]; simp [hpS1, tg3]
  simp [-getElem?_pos, List.getElem?_cons_zero, e99, h0]
  rw [iter_count (fun k => { fr := [(0, .int .i64 t.f), (6, .ptr (.heap hp.length) none 0), (15, .sl .sh t.S.length X), (16, .int .i64 t.S.length), (17, .int .i64 k)], hp := HP k, base := hp.length, dirty := false }) (.exit 0, { fr := [(0, .int .i64 t.f), (6, .ptr (.heap hp.length) none 0), (15, .sl .sh t.S.length X), (16, .int .i64 t.S.length), (17, .int .i64 t.S.length), (18, .bool false)], hp := HP t.S.length, base := hp.length, dirty := false }) t.S.length]
  · simp [hHP]
  · simp
  · omega
  · intro k hk
    have r := rr k hk
    have z : k * 3 + 3 ≤ t.S.length * 3 := by omega
    have w := wrap_id (x := (k : Int) + 1) (by omega)
    have m1 : (k + 1) * 24 ≤ 140737488355328 := by omega
    have sk := g.sok t.S[k] (List.getElem_mem hk)
    unfold okS at sk; simp only [decide_eq_true_eq] at sk
    have hlk : (t.S.take k).length = k := by rw [List.length_take]; omega
    have hS : SL (k + 1) = SL k ++ t.S[k].cells := by
      rw [hSL]; simp only
      rw [List.take_succ_eq_append_getElem hk, List.flatMap_append]; simp
    have lS : (SL k).length = k * 3 := by
      rw [hSL]; simp only
      rw [flat_len R3.len, hlk]
    have aS : (SL k).all storable = true := by rw [hSL]; exact flat_all (f := R3.cells) (fun _ => rfl) _
    have oS : (SL k).map outCell = SL k := by rw [hSL]; exact flat_out (f := R3.cells) (fun _ => rfl) _
    have hla : ∀ c : PS.Node, (HP k ++ [c])[(HP k).length]? = some c := fun c => by simp
    have hob : ∀ c : PS.Node, (HP k ++ [c])[hp.length]? = some (.cells [.int .i64 t.f, .sl (.mu (tg3 k)) k (SL k)]) := fun c => by rw [hHP, hSL]; simp [hpS1]
    have hle : hp.length < (HP k).length := by rw [hHP]; simp [hpS1]
    have hb : ¬ (HP k).length < hp.length := by omega
    have hset : (HP k ++ [PS.Node.cells t.S[k].cells]).set hp.length (.cells [.int .i64 t.f, .sl (.mu 3) (k + 1) (SL (k + 1))]) = HP (k + 1) := by
      rw [hHP, hSL]
      simp only [hpS1]
      rw [List.take_succ_eq_append_getElem hk]
      simp only [List.map_append, List.map_cons, List.map_nil, List.append_assoc, List.singleton_append]
      rw [List.set_append_right _ _ (Nat.le_refl _), Nat.sub_self]; rfl
    have ge : hp.length < (HP k ++ [PS.Node.cells t.S[k].cells]).length := by rw [List.length_append]; omega
    have e100 := f75 (n + 5) t.S[k] (HP k ++ [PS.Node.cells t.S[k].cells])
    have e98 := f74 (n + 4) t.S[k].a t.S[k].b t.f (HP k ++ [PS.Node.cells t.S[k].cells])
    rw [decide_eq_true (show 0 ≤ t.S[k].a ∧ t.S[k].a < t.S[k].b ∧ t.S[k].b ≤ t.f by omega)] at e98
    have e101 := f76 (n + 4) 77 [.ptr (.heap (HP k).length) none 0] (fun y => meets y.a y.b t.S[k].a t.S[k].b) (t.S.take k) ((HP k ++ [PS.Node.cells t.S[k].cells]).set hp.length (.cells [.int .i64 t.f, .sl (.ow (tg3 k)) k (SL k)])) (by omega) (by omega) rfl (fun y _ => ⟨_, f77 (n + 1) _ t.S[k] y _ (by rw [List.getElem?_set_ne (by omega)]; exact hla _)⟩)
    have hany : ((t.S.take k).any fun y => meets y.a y.b t.S[k].a t.S[k].b) = false := by
      rw [List.any_eq_false]
      intro y hy
      obtain ⟨j, hj, rfl⟩ := List.getElem_of_mem hy
      have hjk : j < k := by omega
      have p := List.pairwise_iff_getElem.1 g.spair j k (by omega) hk hjk
      rw [List.getElem_take]
      unfold pairS at p
      rw [meets_comm, p]; simp
    have hSe : (t.S.take k).flatMap R3.cells = SL k := by rw [hSL]
    rw [hany, hlk, hSe] at e101
    have hsg : ∀ c : PS.Node, ((HP k ++ [PS.Node.cells t.S[k].cells]).set hp.length c)[hp.length]? = some c := fun c => by rw [List.getElem?_set_self ge]
    have t3 := tg3_ok k
    have c1 : ¬ t.S[k].o < 1 := by omega
    have c2 : ¬ 8 < t.S[k].o := by omega
    rw [hS] at hset
    clear hHP hSL hS hSe sk hany
    generalize t.S[k] = x at *
    obtain ⟨o, a, b⟩ := x
    simp only [R3.cells] at *
    generalize SL k = S at *
    generalize tg3 k = q at *
    simp [-getElem?_pos, List.getElem?_cons_zero, hk, lX, r, z, w, m1, lS, aS, oS, hla, hob, hb, hset, e100, e98, e101, t3, c1, c2, ge, hsg]
  · simp
  · simp
end Go.Proofs.YtaiiboplopljoaaGreat
end

section
namespace Go.Proofs.YtaiiboplopljoaaGreat
open Go Go.PS
/-- An owner's window, the last one if there were two. -/
def winF (l : List R3) (o : Nat) : Sp := l.foldl (fun s w => if w.o = (o : Int) then ⟨w.a, w.b⟩ else s) ⟨0, 0⟩
theorem winF_snoc (l : List R3) (w : R3) (o : Nat) : winF (l ++ [w]) o = if w.o = (o : Int) then ⟨w.a, w.b⟩ else winF l o := by
  unfold winF; rw [List.foldl_append]; rfl
def WN (l : List R3) : List PV := ((List.range 9).map (winF l)).flatMap Sp.cells
def PCc (t : Tab) (Z : List PV) (l : List R3) (p q : PV) : List PV := [.int .i64 t.f, .sl (.mu 0) 0 [], .sl (.mu 0) 0 [], .sl (.mu 10) t.C.length Z] ++ WN l ++ [p, q]
theorem WN_eq (l : List R3) : WN l = [.int .i64 (winF l 0).a, .int .i64 (winF l 0).b, .int .i64 (winF l 1).a, .int .i64 (winF l 1).b, .int .i64 (winF l 2).a, .int .i64 (winF l 2).b, .int .i64 (winF l 3).a, .int .i64 (winF l 3).b, .int .i64 (winF l 4).a, .int .i64 (winF l 4).b, .int .i64 (winF l 5).a, .int .i64 (winF l 5).b, .int .i64 (winF l 6).a, .int .i64 (winF l 6).b, .int .i64 (winF l 7).a, .int .i64 (winF l 7).b, .int .i64 (winF l 8).a, .int .i64 (winF l 8).b] := rfl
theorem pc_set (t : Tab) (Z : List PV) (l : List R3) (p q : PV) (w : R3) (j : Nat) (hj : j < 9) (hw : w.o = (j : Int)) : ((PCc t Z l p q).set (4 + j * 2) (.int .i64 w.a)).set (4 + j * 2 + 1) (.int .i64 w.b) = PCc t Z (l ++ [w]) p q := by
  have h : ∀ o : Nat, winF (l ++ [w]) o = if j = o then ⟨w.a, w.b⟩ else winF l o := fun o => by
    rw [winF_snoc, hw]
    by_cases c : j = o
    · rw [if_pos c, if_pos (by omega)]
    · rw [if_neg c, if_neg (by omega)]
  unfold PCc
  rw [WN_eq, WN_eq]
  simp only [h]
  have hc : j = 0 ∨ j = 1 ∨ j = 2 ∨ j = 3 ∨ j = 4 ∨ j = 5 ∨ j = 6 ∨ j = 7 ∨ j = 8 := by omega
  rcases hc with rfl | rfl | rfl | rfl | rfl | rfl | rfl | rfl | rfl <;> rfl
theorem pc_p (t : Tab) (Z : List PV) (l : List R3) (p q r : PV) : (PCc t Z l p q).set 22 r = PCc t Z l r q := rfl
theorem pc_q (t : Tab) (Z : List PV) (l : List R3) (p q r : PV) : (PCc t Z l p q).set 23 r = PCc t Z l p r := rfl
def rgsT (t : Tab) : List R3 := rgsK t.C t.C.length
def hpP1 (hp : Heap) (t : Tab) (p q : PV) : Heap := hp ++ [.cells (PCc t (t.C.flatMap Cl.cells) t.W p q)]
/-- The heap behind a plan. -/
def hpP (hp : Heap) (t : Tab) : Heap := hpR (hpS1 (hpP1 hp t (.ptr (.heap (hp.length + 1)) none 0) (.ptr (.heap (hp.length + t.S.length + 3)) none 0)) t t.S.length) (rgsT t)
theorem hpS1_len (hp : Heap) (t : Tab) (k : Nat) (h : k ≤ t.S.length) : (hpS1 hp t k).length = hp.length + 1 + k := by
  unfold hpS1; simp; omega
theorem hpS1_set (hp : Heap) (t : Tab) (k i : Nat) (c : PS.Node) (h : i < hp.length) : (hpS1 hp t k).set i c = hpS1 (hp.set i c) t k := by
  unfold hpS1
  rw [List.append_assoc, List.append_assoc, List.set_append_left _ _ h]
theorem hpR_set (hp : Heap) (l : List R3) (i : Nat) (c : PS.Node) (h : i < hp.length) : (hpR hp l).set i c = hp.set i c ++ [.map (keysR l) (valsR l), .cells [.mp hp.length]] := by
  unfold hpR
  rw [List.set_append_left _ _ h]
theorem hpS1_get (hp : Heap) (t : Tab) (k i : Nat) (h : i < hp.length) : (hpS1 hp t k)[i]? = hp[i]? := by
  unfold hpS1
  rw [List.append_assoc, List.getElem?_append_left h]
theorem hpR_get (hp : Heap) (l : List R3) (i : Nat) (h : i < hp.length) : (hpR hp l)[i]? = hp[i]? := by
  unfold hpR
  rw [List.getElem?_append_left h]
theorem rgsT_none (t : Tab) (g : Good t) : (List.range (rgsT t).length).find? (badR (rgsT t)) = none := by
  have hl : (rgsT t).length = t.C.length := rgsK_len (Nat.le_refl _)
  rw [List.find?_eq_none]
  intro k hk
  have hk : k < t.C.length := by rw [hl] at hk; exact List.mem_range.1 hk
  have hf := g.frame
  unfold frameB at hf; simp only [decide_eq_true_eq] at hf
  have e := rgsK_at (l := t.C) (Nat.le_refl _) k hk hk
  have hk' : k < (rgsT t).length := by omega
  have ek : (rgsT t)[k] = rgOf t.C[k] k := by
    have : (rgsT t)[k]? = some (rgOf t.C[k] k) := e
    rw [List.getElem?_eq_getElem hk'] at this
    exact Option.some.inj this
  have ck := g.cok t.C[k] (List.getElem_mem hk)
  have hm : mayR (rgsT t)[k] = true := by
    rw [ek]; unfold mayR rgOf; unfold Cl.ok at ck
    simp only [decide_eq_true_eq]; omega
  have hs : sameR (rgsT t) k (rgsT t)[k] = false := by
    unfold sameR
    rw [List.any_eq_false]
    intro y hy
    obtain ⟨i, hi, rfl⟩ := List.getElem_of_mem hy
    have hik : i < k := by rw [List.length_take] at hi; omega
    have hi' : i < t.C.length := by omega
    have ei := rgsK_at (l := t.C) (Nat.le_refl _) i hi' hi'
    have hi2 : i < (rgsT t).length := by omega
    have ei : (rgsT t)[i] = rgOf t.C[i] i := by
      have : (rgsT t)[i]? = some (rgOf t.C[i] i) := ei
      rw [List.getElem?_eq_getElem hi2] at this
      exact Option.some.inj this
    rw [List.getElem_take, ei, ek]
    unfold rgOf
    simp only [decide_eq_true_eq]; omega
  have hx : meetR (rgsT t) k (rgsT t)[k] = false := by
    unfold meetR
    rw [List.any_eq_false]
    intro y hy
    obtain ⟨i, hi, rfl⟩ := List.getElem_of_mem hy
    have hik : i < k := by rw [List.length_take] at hi; omega
    have hi2 : i < (rgsT t).length := by omega
    have p := rgs_apart t g
    rw [List.pairwise_map] at p
    have := List.pairwise_iff_getElem.1 p i k hi2 hk' hik
    rw [List.getElem_take]
    show ¬ meetS (sp (rgsT t)[i]) (sp (rgsT t)[k]) = true
    have t2 : meetS (sp (rgsT t)[i]) (sp (rgsT t)[k]) = false := this
    rw [t2]; simp
  unfold badR
  rw [stR_at hk', hm, hs, hx]; simp
set_option maxHeartbeats 2000000 in
theorem f25 (n : Nat) (t : Tab) (g : Good t) (hp : Heap) (hn : 60 < n) : evalCall Tryz.prog hints (n + 20) 25 [.agg t.cells] hp = some (.tup [.ptr (.heap hp.length) none 0, .int .i64 0], hpP hp t, false) := by
  have hf := g.frame
  unfold frameB at hf; simp only [decide_eq_true_eq] at hf
  obtain ⟨H28, e28⟩ : ∃ H, evalCall Tryz.prog hints (n + 19) 24 [.agg t.cells] hp = some (.bool (decide ((faults t).length = 0)), H, false) := f24 (n + 8) t hp (by omega)
  rw [decide_eq_true (show (faults t).length = 0 by rw [g.nil]; rfl)] at e28
  have e29 : ∀ H, evalCall Tryz.prog hints (n + 19) 46 [.agg t.cells] H = some (.sl (.mu 3) t.C.length ((rgsT t).flatMap R3.cells), H, false) := fun H => f46 (n + 18) t H (by omega) (fun h => by rw [h] at hf; simp at hf) (by omega)
  have hrl : (rgsT t).length = t.C.length := rgsK_len (Nat.le_refl _)
  have e19 : ∀ H, evalCall Tryz.prog hints (n + 19) 45 [.sl .sh t.C.length ((rgsT t).flatMap R3.cells)] H = some (.tup [.ptr (.heap (H.length + 1)) none 0, .int .i64 0], hpR H (rgsT t), false) := fun H => by
    have := f45g (n + 11) (rgsT t) H (by omega) (by omega)
    rw [rgsT_none t g, hrl] at this
    exact this
  have e70 : ∀ H, evalCall Tryz.prog hints (n + 19) 44 [.int .i64 t.f, .sl .sh t.S.length (t.S.flatMap R3.cells)] H = _ := fun H => f44 (n + 12) t g H (by omega)
  rw [evalCall_at _ _ _ hh25 rfl Tryz.func25 rfl (Nat.le_of_ble_eq_true rfl) rfl]
  have lC := flat_len Cl.len t.C
  have oC := flat_out (f := Cl.cells) (fun _ => rfl) t.C
  have aC := flat_all (f := Cl.cells) (fun _ => rfl) t.C
  have m1 : t.C.length * 80 ≤ 140737488355328 := by omega
  have hla : ∀ c : PS.Node, (hp ++ [c])[hp.length]? = some c := fun c => by simp
  have hst : ∀ c d : PS.Node, (hp ++ [c]).set hp.length d = hp ++ [d] := fun c d => by simp
  have lX := flat_len R3.len t.W
  have rr := fun k h => flat_row R3.len t.W k h
  have pG : ((rgsT t).flatMap R3.cells).all plain1 = true := by rw [List.all_flatMap]; simp [R3.cells, plain1]
  have oG := flat_out (f := R3.cells) (fun _ => rfl) (rgsT t)
  obtain ⟨PC, hPC⟩ : ∃ PC : Nat → List PV, PC = fun k => PCc t (t.C.flatMap Cl.cells) (t.W.take k) .nilp .nilp := ⟨_, rfl⟩
  obtain ⟨R, hR⟩ : ∃ R, R = hpP hp t := ⟨_, rfl⟩
  rw [← hR]
  simp only [Tab.cells_eq] at e28 e29 ⊢
  generalize (rgsT t).flatMap R3.cells = G at *
  generalize hY : t.S.flatMap R3.cells = Y at *
  generalize hX : t.W.flatMap R3.cells = X at *
  generalize hZ : t.C.flatMap Cl.cells = Z at *
  have h0 : [PV.int .i64 t.f, .sl (.mu 0) 0 [], .sl (.mu 0) 0 [], .sl (.mu 10) t.C.length Z, .int .i64 0, .int .i64 0, .int .i64 0, .int .i64 0, .int .i64 0, .int .i64 0, .int .i64 0, .int .i64 0, .int .i64 0, .int .i64 0, .int .i64 0, .int .i64 0, .int .i64 0, .int .i64 0, .int .i64 0, .int .i64 0, .int .i64 0, .int .i64 0, .nilp, .nilp] = PC 0 := by rw [hPC]; rfl
  simp [-getElem?_pos, List.getElem?_cons_zero, e28, lC, oC, aC, m1, hla, hst, h0]
  have lP : (PC t.W.length).length = 24 := by rw [hPC]; rfl
  obtain ⟨P1, hP1⟩ : ∃ P1, P1 = PCc t Z t.W (.ptr (.heap (hp.length + 1)) none 0) .nilp := ⟨_, rfl⟩
  have lP1 : P1.length = 24 := by rw [hP1]; rfl
  obtain ⟨H1, hH1⟩ : ∃ H1, H1 = hpS1 (hp ++ [.cells P1]) t t.S.length := ⟨_, rfl⟩
  have g1 : (hpS1 (hp ++ [PS.Node.cells (PC t.W.length)]) t t.S.length)[hp.length]? = some (.cells (PC t.W.length)) := by
    rw [hpS1_get _ _ _ _ (by simp)]; simp
  have s1 : (hpS1 (hp ++ [PS.Node.cells (PC t.W.length)]) t t.S.length).set hp.length (.cells ((PC t.W.length).set 22 (.ptr (.heap (hp.length + 1)) none 0))) = H1 := by
    rw [hpS1_set _ _ _ _ _ (by simp), hst, hPC]
    simp only
    rw [List.take_length, pc_p, hH1, hP1]
  have lH1 : H1.length = hp.length + t.S.length + 2 := by
    rw [hH1, hpS1_len _ _ _ (Nat.le_refl _)]; simp; omega
  have g2 : (hpR H1 (rgsT t))[hp.length]? = some (.cells P1) := by
    rw [hpR_get _ _ _ (by omega), hH1, hpS1_get _ _ _ _ (by simp)]; simp
  have s2 : (hpR H1 (rgsT t)).set hp.length (.cells (P1.set 23 (.ptr (.heap (H1.length + 1)) none 0))) = R := by
    rw [hpR_set _ _ _ _ (by omega), hH1, hpS1_set _ _ _ _ _ (by simp), hst, hR]
    unfold hpP hpP1 hpR
    rw [hZ, hP1, pc_q]
    rw [hpS1_len _ _ _ (Nat.le_refl _), hpS1_len _ _ _ (Nat.le_refl _)]
    simp only [List.length_append, List.length_cons, List.length_nil]
    rw [show hp.length + (0 + 1) + 1 + t.S.length + 1 = hp.length + t.S.length + 3 by omega]
  rw [iter_count (fun k => { fr := [(1, .box [.int .i64 t.f, .sl .sh t.W.length X, .sl .sh t.S.length Y, .sl .sh t.C.length Z]), (4, .ptr (.heap hp.length) none 0), (29, .sl .sh t.W.length X), (30, .int .i64 t.W.length), (31, .int .i64 k)], hp := hp ++ [.cells (PC k)], base := hp.length, dirty := false }) (.exit 0, { fr := [(1, .box [.int .i64 t.f, .sl .sh t.W.length X, .sl .sh t.S.length Y, .sl .sh t.C.length Z]), (4, .ptr (.heap hp.length) none 0), (29, .sl .sh t.W.length X), (30, .int .i64 t.W.length), (31, .int .i64 t.W.length), (32, .bool false)], hp := hp ++ [.cells (PC t.W.length)], base := hp.length, dirty := false }) t.W.length]
  · simp [-getElem?_pos, List.getElem?_cons_zero, e70, g1, s1, lP, e29, pG, e19, g2, s2, lP1, oG]
  · simp
  · omega
  · intro k hk
    have r := rr k hk
    have z : k * 3 + 3 ≤ t.W.length * 3 := by omega
    have w := wrap_id (x := (k : Int) + 1) (by omega)
    have wk := g.wok t.W[k] (List.getElem_mem hk)
    unfold okW at wk; simp only [decide_eq_true_eq] at wk
    obtain ⟨j, hj⟩ : ∃ j : Nat, (j : Int) = t.W[k].o := ⟨t.W[k].o.toNat, by omega⟩
    have hj9 : j < 9 := by omega
    have hj9i : (j : Int) < 9 := by omega
    have hj24 : 4 + j * 2 + 2 ≤ 24 := by omega
    have ps := pc_set t Z (t.W.take k) .nilp .nilp t.W[k] j hj9 hj.symm
    have hps : ((PC k).set (4 + j * 2) (.int .i64 t.W[k].a)).set (4 + j * 2 + 1) (.int .i64 t.W[k].b) = PC (k + 1) := by
      rw [hPC]; simp only
      rw [List.take_succ_eq_append_getElem hk]; exact ps
    have lP : (PC k).length = 24 := by rw [hPC]; rfl
    clear ps wk s1 g1
    rw [← hps]
    clear hps
    generalize PC k = Q at *
    generalize t.W[k] = x at *
    obtain ⟨o, a, b⟩ := x
    simp only [R3.cells] at *
    subst hj
    simp [-getElem?_pos, List.getElem?_cons_zero, hk, lX, r, z, w, hla, hst, hj9, hj9i, hj24, lP]
  · simp
  · simp
end Go.Proofs.YtaiiboplopljoaaGreat
end

section
namespace Go.Proofs.YtaiiboplopljoaaGreat
open Go Go.PS
/-- What is read of a plan's object. -/
structure PlanO (t : Tab) (Z P : List PV) (js jr : Nat) : Prop where
  len : P.length = 24
  p0 : P[0]? = some (.int .i64 t.f)
  p3 : P[3]? = some (.sl (.mu 10) t.C.length Z)
  p4 : P[4]? = some (.int .i64 (winF t.W 0).a)
  p22 : P[22]? = some (.ptr (.heap js) none 0)
  p23 : P[23]? = some (.ptr (.heap jr) none 0)
  win : ∀ j, j < 9 → (P.drop (4 + j * 2)).take 2 = (winF t.W j).cells
theorem planO (t : Tab) (Z : List PV) (js jr : Nat) : PlanO t Z (PCc t Z t.W (.ptr (.heap js) none 0) (.ptr (.heap jr) none 0)) js jr := by
  refine ⟨rfl, rfl, rfl, rfl, rfl, rfl, fun j hj => ?_⟩
  unfold PCc
  rw [WN_eq]
  have hc : j = 0 ∨ j = 1 ∨ j = 2 ∨ j = 3 ∨ j = 4 ∨ j = 5 ∨ j = 6 ∨ j = 7 ∨ j = 8 := by omega
  rcases hc with rfl | rfl | rfl | rfl | rfl | rfl | rfl | rfl | rfl <;> rfl
/-- A plan in a heap. -/
structure PlanAt (t : Tab) (hp : Heap) (j : Nat) (P : List PV) (js jr jm : Nat) : Prop where
  o : PlanO t (t.C.flatMap Cl.cells) P js jr
  hj : hp[j]? = some (.cells P)
  hs : hp[js]? = some (.cells [.int .i64 t.f, .sl (.mu (tg3 t.S.length)) t.S.length (t.S.flatMap R3.cells)])
  hr : hp[jr]? = some (.cells [.mp jm])
  hm : hp[jm]? = some (.map (keysR (rgsT t)) (valsR (rgsT t)))
theorem planAt (t : Tab) (hp : Heap) : PlanAt t (hpP hp t) hp.length (PCc t (t.C.flatMap Cl.cells) t.W (.ptr (.heap (hp.length + 1)) none 0) (.ptr (.heap (hp.length + t.S.length + 3)) none 0)) (hp.length + 1) (hp.length + t.S.length + 3) (hp.length + t.S.length + 2) := by
  have l1 : (hpS1 (hpP1 hp t (.ptr (.heap (hp.length + 1)) none 0) (.ptr (.heap (hp.length + t.S.length + 3)) none 0)) t t.S.length).length = hp.length + t.S.length + 2 := by
    rw [hpS1_len _ _ _ (Nat.le_refl _)]; unfold hpP1; simp; omega
  refine ⟨planO _ _ _ _, ?_, ?_, ?_, ?_⟩
  · unfold hpP
    rw [hpR_get _ _ _ (by omega), hpS1_get _ _ _ _ (by unfold hpP1; simp)]
    unfold hpP1; simp
  · unfold hpP
    rw [hpR_get _ _ _ (by omega)]
    unfold hpS1 hpP1
    rw [List.take_length]
    simp
  · unfold hpP hpR
    rw [List.getElem?_append_right (by omega), l1, show hp.length + t.S.length + 3 - (hp.length + t.S.length + 2) = 1 by omega]
    rfl
  · unfold hpP hpR
    rw [List.getElem?_append_right (by omega), l1, Nat.sub_self]
    rfl
section
variable {t : Tab} {hp : Heap} {j js jr jm : Nat} {P : List PV}
theorem f47 (n : Nat) (a : PlanAt t hp j P js jr jm) : evalCall Tryz.prog hints (n + 1) 47 [.ptr (.heap j) none 0] hp = some (.int .i64 t.C.length, hp, false) := by
  obtain ⟨⟨o1, o2, o3, o4, o5, o6, o7⟩, a2, a3, a4, a5⟩ := a
  rw [evalCall_at _ _ _ hh47 rfl Tryz.func47 rfl (Nat.le_of_ble_eq_true rfl) rfl]
  generalize t.C.flatMap Cl.cells = Z at *
  simp [-getElem?_pos, List.getElem?_cons_zero, a2, o1, o3]
/-- Is there such a client? -/
def isC (t : Tab) (o : Int) : Bool := decide (1 ≤ o ∧ o ≤ (t.C.length : Int))
def Cl.zero : Cl := ⟨0, 0, 0, 0, 0, 0, 0, 0, 0, 0⟩
def clO (t : Tab) (o : Int) : Cl := if isC t o = true then (t.C[(o - 1).toNat]?).getD Cl.zero else Cl.zero
def winO (t : Tab) (o : Int) : Sp := if 0 ≤ o ∧ o ≤ (t.C.length : Int) then winF t.W o.toNat else ⟨0, 0⟩
def whenO (t : Tab) (w o : Int) : Int := if isC t o = true ∧ (w = 1 ∨ w = 2) then (winF t.W 0).a + 2 * (o - 1) + (w - 1) else -1
set_option maxHeartbeats 1000000 in
theorem f26 (n : Nat) (a : PlanAt t hp j P js jr jm) (hC : t.C.length ≤ 8) (o : Int) : evalCall Tryz.prog hints (n + 2) 26 [.ptr (.heap j) none 0, .int .i64 o] hp = some (.tup [.agg (clO t o).cells, .int .i64 (if isC t o = true then 0 else 7)], hp, false) := by
  have e := f47 n a
  obtain ⟨⟨o1, o2, o3, o4, o5, o6, o7⟩, a2, a3, a4, a5⟩ := a
  rw [evalCall_at _ _ _ hh26 rfl Tryz.func26 rfl (Nat.le_of_ble_eq_true rfl) rfl]
  unfold clO
  have lC := flat_len Cl.len t.C
  by_cases c1 : o < 1
  · rw [show isC t o = false from decide_eq_false (by omega)]
    simp [-getElem?_pos, List.getElem?_cons_zero, c1, Cl.zero, Cl.cells]
  · by_cases c2 : (t.C.length : Int) < o
    · rw [show isC t o = false from decide_eq_false (by omega)]
      simp [-getElem?_pos, List.getElem?_cons_zero, c1, e, c2, Cl.zero, Cl.cells]
    · rw [show isC t o = true from decide_eq_true (by omega), if_pos rfl]
      obtain ⟨k, rfl⟩ : ∃ k : Nat, o = (k : Int) + 1 := ⟨(o - 1).toNat, by omega⟩
      have hk : k < t.C.length := by omega
      rw [show ((k : Int) + 1 - 1).toNat = k by omega, List.getElem?_eq_getElem hk]
      simp only [Option.getD_some]
      have r := flat_row Cl.len t.C k hk
      have z : k * 10 + 10 ≤ t.C.length * 10 := by omega
      have w := wrap_id (x := (k : Int)) (by omega)
      generalize t.C.flatMap Cl.cells = Z at *
      generalize t.C[k] = x at *
      obtain ⟨x1, x2, x3, x4, x5, x6, x7, x8, x9, x10⟩ := x
      simp only [Cl.cells] at *
      simp [-getElem?_pos, List.getElem?_cons_zero, c1, e, c2, a2, o1, o3, lC, r, z, w, hk]
theorem f28 (n : Nat) (a : PlanAt t hp j P js jr jm) (hC : t.C.length ≤ 8) (o : Int) : evalCall Tryz.prog hints (n + 2) 28 [.ptr (.heap j) none 0, .int .i64 o] hp = some (.agg (winO t o).cells, hp, false) := by
  have e := f47 n a
  obtain ⟨⟨o1, o2, o3, o4, o5, o6, o7⟩, a2, a3, a4, a5⟩ := a
  rw [evalCall_at _ _ _ hh28 rfl Tryz.func28 rfl (Nat.le_of_ble_eq_true rfl) rfl]
  unfold winO
  by_cases c1 : o < 0
  · rw [if_neg (by omega)]
    simp [-getElem?_pos, List.getElem?_cons_zero, c1, Sp.cells]
  · by_cases c2 : (t.C.length : Int) < o
    · rw [if_neg (by omega)]
      simp [-getElem?_pos, List.getElem?_cons_zero, c1, e, c2, Sp.cells]
    · rw [if_pos (by omega)]
      obtain ⟨k, rfl⟩ : ∃ k : Nat, o = (k : Int) := ⟨o.toNat, by omega⟩
      have hk : k < 9 := by omega
      have hki : (k : Int) < 9 := by omega
      have c2' : ¬ t.C.length < k := by omega
      have r := o7 k hk
      have z : 4 + k * 2 + 2 ≤ 24 := by omega
      rw [show ((k : Int)).toNat = k by omega]
      generalize winF t.W k = w at *
      obtain ⟨x, y⟩ := w
      simp only [Sp.cells] at *
      simp [-getElem?_pos, List.getElem?_cons_zero, c1, e, c2, c2', a2, o1, r, z, hk, hki]
theorem f27 (n : Nat) (a : PlanAt t hp j P js jr jm) (hC : t.C.length ≤ 8) (hw : 0 ≤ (winF t.W 0).a ∧ (winF t.W 0).a ≤ 5000) (w o : Int) : evalCall Tryz.prog hints (n + 2) 27 [.ptr (.heap j) none 0, .int .i64 w, .int .i64 o] hp = some (.int .i64 (whenO t w o), hp, false) := by
  have e := f47 n a
  obtain ⟨⟨o1, o2, o3, o4, o5, o6, o7⟩, a2, a3, a4, a5⟩ := a
  rw [evalCall_at _ _ _ hh27 rfl Tryz.func27 rfl (Nat.le_of_ble_eq_true rfl) rfl]
  unfold whenO
  generalize winF t.W 0 = q at *
  by_cases c1 : o < 1
  · rw [if_neg (fun h => by have := of_decide_eq_true h.1; omega)]
    simp [-getElem?_pos, List.getElem?_cons_zero, c1]
  · by_cases c2 : (t.C.length : Int) < o
    · rw [if_neg (fun h => by have := of_decide_eq_true h.1; omega)]
      simp [-getElem?_pos, List.getElem?_cons_zero, c1, e, c2]
    · have hi : isC t o = true := decide_eq_true (by omega)
      rw [hi]
      have w1 := wrap_id (x := o - 1) (by omega)
      have w2 := wrap_id (x := 2 * (o - 1)) (by omega)
      have w3 := wrap_id (x := q.a + 2 * (o - 1)) (by omega)
      have w4 := wrap_id (x := q.a + 2 * (o - 1) + 1) (by omega)
      by_cases d1 : w = 1
      · subst d1
        simp [-getElem?_pos, List.getElem?_cons_zero, c1, e, c2, a2, o1, o4, w1, w2, w3]
      · by_cases d2 : w = 2
        · subst d2
          simp [-getElem?_pos, List.getElem?_cons_zero, c1, e, c2, a2, o1, o4, w1, w2, w3, w4]
        · have d1' : (w != 1) = true := by simp [d1]
          have d2' : (w != 2) = true := by simp [d2]
          simp [-getElem?_pos, List.getElem?_cons_zero, c1, e, c2, d1', d2', d1, d2]
end
end Go.Proofs.YtaiiboplopljoaaGreat
end

section
namespace Go.Proofs.YtaiiboplopljoaaGreat
open Go Go.PS
theorem wins_uniq {l : List R3} (h : l.Pairwise fun y x => pairW x y = false) {x y : R3} (hx : x ∈ l) (hy : y ∈ l) (e : x.o = y.o) : x = y := by
  obtain ⟨i, hi, rfl⟩ := List.getElem_of_mem hx
  obtain ⟨j, hj, rfl⟩ := List.getElem_of_mem hy
  have p := List.pairwise_iff_getElem.1 h
  have key : ∀ i j (hi : i < l.length) (hj : j < l.length), i < j → l[i].o ≠ l[j].o := fun i j hi hj hij e => by
    have := p i j hi hj hij
    unfold pairW at this
    rw [Bool.or_eq_false_iff] at this
    exact of_decide_eq_false this.1 e.symm
  by_cases c : i = j
  · subst c; rfl
  · rcases Nat.lt_or_ge i j with h | h
    · exact absurd e (key i j hi hj h)
    · exact absurd e.symm (key j i hj hi (by omega))
theorem winF_of {o : Nat} {w : R3} (hw : w.o = (o : Int)) : ∀ (l : List R3) (s : Sp), (∀ x ∈ l, x.o = (o : Int) → x = w) → (w ∈ l ∨ s = wsp w) → l.foldl (fun s w => if w.o = (o : Int) then (⟨w.a, w.b⟩ : Sp) else s) s = wsp w
  | [], s, _, h2 => by
    rcases h2 with h | h
    · simp at h
    · exact h
  | x :: l, s, h1, h2 => by
    rw [List.foldl_cons]
    refine winF_of hw l _ (fun y hy => h1 y (List.mem_cons_of_mem _ hy)) ?_
    by_cases c : x.o = (o : Int)
    · right
      rw [if_pos c, h1 x (by simp) c]; rfl
    · rw [if_neg c]
      rcases h2 with h | h
      · rcases List.mem_cons.1 h with e | e
        · subst e; exact absurd hw c
        · exact .inl e
      · exact .inr h
/-- An owner's window. -/
theorem win_good {t : Tab} (g : Good t) (o : Nat) (ho : o ≤ t.C.length) : ∃ w ∈ t.W, w.o = (o : Int) ∧ winF t.W o = wsp w ∧ rowO t.W (o : Int) = w := by
  have h := g.own o ho
  rw [List.any_eq_true] at h
  obtain ⟨w, hw, e⟩ := h
  have e := of_decide_eq_true e
  refine ⟨w, hw, e, ?_, ?_⟩
  · exact winF_of e t.W _ (fun x hx hxo => wins_uniq g.wpair hx hw (by rw [hxo, e])) (.inl hw)
  · have hh : hasO t.W (o : Int) = true := by
      unfold hasO ownI
      cases hx : idx (fun r : R3 => decide (r.o = (o : Int))) t.W with
      | none =>
        have := idx_none.1 hx
        rw [List.any_eq_true.2 ⟨w, hw, by simp [e]⟩] at this
        cases this
      | some k => rfl
    unfold hasO at hh
    unfold rowO
    cases hx : ownI t.W (o : Int) with
    | none => rw [hx] at hh; cases hh
    | some k =>
      obtain ⟨hk, e2⟩ := idx_lt hx
      simp only [List.getElem?_eq_getElem hk, Option.getD_some]
      exact wins_uniq g.wpair (List.getElem_mem hk) hw (by rw [e]; simpa using e2)
theorem win_b {t : Tab} (g : Good t) (o : Nat) (ho : o ≤ t.C.length) : 0 ≤ (winF t.W o).a ∧ (winF t.W o).a < (winF t.W o).b ∧ (winF t.W o).b ≤ t.f := by
  obtain ⟨w, hw, _, e, _⟩ := win_good g o ho
  have := g.wok w hw
  unfold okW at this; simp only [decide_eq_true_eq] at this
  rw [e]; unfold wsp; simp only; omega
section
variable {t : Tab} {hp : Heap} {j js jr jm : Nat} {P : List PV}
end
end Go.Proofs.YtaiiboplopljoaaGreat
end

section
namespace Go.Proofs.YtaiiboplopljoaaGreat
open Go Go.PS
section
variable {t : Tab} {hp : Heap} {j js jr jm : Nat} {P : List PV}
end
set_option maxHeartbeats 1000000 in
theorem f19 (n : Nat) (t : Tab) (o : Int) (hp : Heap) (hl : t.W.length ≤ 40) (hn : 60 < n) : evalCall Tryz.prog hints (n + 1) 19 [.agg t.cells, .int .i64 o] hp = some (.agg (wsp (rowO t.W o)).cells, hp, false) := by
  rw [evalCall_at _ _ _ hh19 rfl Tryz.func19 rfl (Nat.le_of_ble_eq_true rfl) rfl]
  have lX := flat_len R3.len t.W
  have g0 := fun k h => flat_get R3.len t.W k h 0 (by omega)
  have g1 := fun k h => flat_get R3.len t.W k h 1 (by omega)
  have g2 := fun k h => flat_get R3.len t.W k h 2 (by omega)
  unfold rowO ownI
  rw [← idx_range]
  simp only [Tab.cells_eq]
  generalize t.S.flatMap R3.cells = Y at *
  generalize t.C.flatMap Cl.cells = Z at *
  generalize t.W.flatMap R3.cells = X at *
  simp
  rw [iter_idx (fun k => { fr := [(1, .int .i64 o), (2, .box [.int .i64 t.f, .sl .sh t.W.length X, .sl .sh t.S.length Y, .sl .sh t.C.length Z]), (4, .box [.int .i64 0, .int .i64 0]), (5, .int .i64 k)], hp := hp, base := hp.length, dirty := false }) (fun k => (t.W[k]?).any fun r => decide (r.o = o)) (fun k => (.ret, { fr := [(4, .box (wsp ((t.W[k]?).getD ⟨0, 0, 0⟩)).cells)], hp := hp, base := hp.length, dirty := false })) (.exit 0, { fr := [(1, .int .i64 o), (2, .box [.int .i64 t.f, .sl .sh t.W.length X, .sl .sh t.S.length Y, .sl .sh t.C.length Z]), (4, .box [.int .i64 0, .int .i64 0]), (5, .int .i64 t.W.length), (10, .bool false)], hp := hp, base := hp.length, dirty := false }) t.W.length]
  · cases (List.range t.W.length).find? _ <;> simp [wsp, Sp.cells]
  · simp
  · omega
  · intro k hk
    have g0 := g0 k hk
    have g1 := g1 k hk
    have g2 := g2 k hk
    have w := wrap_id (x := (k : Int) + 1) (by omega)
    rw [List.getElem?_eq_getElem hk]
    simp only [Option.any_some, Option.getD_some]
    generalize t.W[k] = x at *
    obtain ⟨o', a, b⟩ := x
    simp only [R3.cells, wsp, Sp.cells, Nat.add_zero, List.getElem?_cons_zero, List.getElem?_cons_succ] at *
    by_cases c : o' = o
    · have c' : (o' == o) = true := by simp [c]
      rw [decide_eq_true c]
      simp [-getElem?_pos, List.getElem?_cons_zero, hk, lX, g0, g1, g2, w, c']
    · have c' : (o' == o) = false := by simp [c]
      rw [decide_eq_false c]
      simp [-getElem?_pos, List.getElem?_cons_zero, hk, lX, g0, g1, g2, w, c']
  · simp
  · simp
  · simp
theorem f18 (n : Nat) (t : Tab) (g : Good t) (w o : Int) (hp : Heap) (hw : 1 ≤ w ∧ w ≤ 2) (ho : 1 ≤ o ∧ o ≤ (t.C.length : Int)) (hn : 60 < n) : evalCall Tryz.prog hints (n + 2) 18 [.agg t.cells, .int .i64 w, .int .i64 o] hp = some (.int .i64 (whenO t w o), hp, false) := by
  have hf := g.frame
  unfold frameB at hf; simp only [decide_eq_true_eq] at hf
  have e := f19 n t 0 hp (by omega) hn
  obtain ⟨wi, _, _, h1, h2⟩ := win_good g 0 (by omega)
  have wb := win_b g 0 (by omega)
  rw [show ((0 : Nat) : Int) = 0 from rfl] at h2
  rw [h2, ← h1] at e
  have hW : whenO t w o = (winF t.W 0).a + 2 * (o - 1) + (w - 1) := by
    unfold whenO
    rw [if_pos ⟨decide_eq_true ho, by omega⟩]
  rw [evalCall_at _ _ _ hh18 rfl Tryz.func18 rfl (Nat.le_of_ble_eq_true rfl) rfl]
  rw [hW]
  clear h1 h2 hW
  generalize winF t.W 0 = s at *
  obtain ⟨x, y⟩ := s
  simp only [Sp.cells, Tab.cells_eq] at *
  have w1 := wrap_id (x := 2 * o) (by omega)
  have w2 := wrap_id (x := x + 2 * o) (by omega)
  have w3 := wrap_id (x := x + 2 * o - 3) (by omega)
  have w4 := wrap_id (x := x + 2 * o - 3 + w) (by omega)
  have he : x + 2 * (o - 1) + (w - 1) = x + 2 * o - 3 + w := by omega
  rw [he]
  generalize t.S.flatMap R3.cells = Y at *
  generalize t.C.flatMap Cl.cells = Z at *
  generalize t.W.flatMap R3.cells = X at *
  simp [-getElem?_pos, List.getElem?_cons_zero, e, w1, w2, w3, w4]
end Go.Proofs.YtaiiboplopljoaaGreat
end

section
namespace Go.Proofs.YtaiiboplopljoaaGreat
open Go Go.PS
theorem wins_off {t : Tab} (g : Good t) {x y : R3} (hx : x ∈ t.W) (hy : y ∈ t.W) (h : ¬ (x.b ≤ y.a ∨ y.b ≤ x.a)) : x = y := by
  obtain ⟨i, hi, rfl⟩ := List.getElem_of_mem hx
  obtain ⟨j, hj, rfl⟩ := List.getElem_of_mem hy
  have oi := g.wok _ hx
  have oj := g.wok _ hy
  unfold okW at oi oj; simp only [decide_eq_true_eq] at oi oj
  have p := List.pairwise_iff_getElem.1 g.wpair
  have key : ∀ i j (hi : i < t.W.length) (hj : j < t.W.length), i < j → 0 ≤ t.W[i].a → 0 ≤ t.W[j].a → t.W[i].a < t.W[i].b → t.W[j].a < t.W[j].b → t.W[i].b ≤ t.W[j].a ∨ t.W[j].b ≤ t.W[i].a := fun i j hi hj hij h1 h2 h3 h4 => by
    have := p i j hi hj hij
    unfold pairW at this
    rw [Bool.or_eq_false_iff] at this
    have m := this.2
    unfold meets holds at m
    rw [Bool.eq_false_iff] at m
    simp only [ne_eq, Bool.and_eq_true, Bool.or_eq_true, decide_eq_true_eq] at m
    omega
  by_cases c : i = j
  · subst c; rfl
  · rcases Nat.lt_or_ge i j with h' | h'
    · have := key i j hi hj h' (by omega) (by omega) (by omega) (by omega); omega
    · have := key j i hj hi (by omega) (by omega) (by omega) (by omega) (by omega); omega
end Go.Proofs.YtaiiboplopljoaaGreat
end

section
namespace Go.Proofs.YtaiiboplopljoaaGreat
open Go Go.PS
/-- Counts that are 0 or 1. -/
def bl (p : Nat → Bool) : List PV := (List.range 9).map fun o => .int .i64 (if p o = true then 1 else 0)
/-- What is due at an offset. -/
def dD (a : Int) (N : Nat) (x : Int) : Int × Int := if x - a < 0 then (0, 0) else if (N : Int) < (x - a) / 2 + 1 then (0, 0) else (1 + (x - a) % 2, (x - a) / 2 + 1)
def lD (a : Int) (N k : Nat) : Int × Int := if k = 0 then (0, 0) else dD a N ((k : Int) - 1)
theorem io_long {t : Tab} (g : Good t) : (winF t.W 0).a + 2 * (t.C.length : Int) ≤ (winF t.W 0).b := by
  obtain ⟨w, hw, w1, w2, _⟩ := win_good g 0 (by omega)
  have ok := g.wok w hw
  rw [w2]
  unfold wsp; simp only
  have key : ∀ l : List R3, ioW t 0 l = false → (∀ x ∈ l, x.o = 0 → x = w) → w ∈ l → w.a + 2 * (t.C.length : Int) ≤ w.b := by
    intro l
    induction l with
    | nil => intro _ _ h; simp at h
    | cons x l ih =>
      intro h1 h2 h3
      rw [ioW, if_pos rfl] at h1
      by_cases c : x.o = 0
      · rw [if_pos c, h2 x (by simp) c, ok, Bool.true_and] at h1
        have := of_decide_eq_false h1
        omega
      · rw [if_neg c] at h1
        refine ih h1 (fun y hy => h2 y (List.mem_cons_of_mem _ hy)) ?_
        rcases List.mem_cons.1 h3 with e | e
        · subst e; exact absurd w1 c
        · exact e
  exact key t.W g.io (fun x hx e => wins_uniq g.wpair hx hw (by rw [e, w1]; rfl)) hw
end Go.Proofs.YtaiiboplopljoaaGreat
end
