/-
  What functions of this program compute, as equations about the evaluator. No condition but those stated.
-/
import Derived.Test.YtknoiemnpllapaaGreatEqsI

set_option linter.all false
section
namespace Go.Proofs.YtknoiemnpllapaaGreat
open Go Go.PS
/-- The program's own words for what may be. -/
def inB (x a b : Int) : Bool := decide (a ≤ x ∧ x ≤ b)
theorem f145 (n : Nat) (x a b : Int) (hp : Heap) : evalCall Tryz.prog hints (n + 1) 145 [.int .i64 x, .int .i64 a, .int .i64 b] hp = some (.bool (inB x a b), hp, false) := by
  rw [evalCall_at _ _ _ hh145 rfl Tryz.func145 rfl (Nat.le_of_ble_eq_true rfl) rfl]
  unfold inB
  by_cases h : a ≤ x <;> simp [h]
theorem f103 (n : Nat) (a b : Int) (hp : Heap) : evalCall Tryz.prog hints (n + 1) 103 [.agg [.int .i64 a, .int .i64 b]] hp = some (.bool (decide (0 ≤ a ∧ a < b)), hp, false) := by
  rw [evalCall_at _ _ _ hh103 rfl Tryz.func103 rfl (Nat.le_of_ble_eq_true rfl) rfl]
  by_cases h : 0 ≤ a
  · simp [h]
  · simp [h]
theorem f50 (n : Nat) (a b m : Int) (hp : Heap) : evalCall Tryz.prog hints (n + 2) 50 [.agg [.int .i64 a, .int .i64 b], .int .i64 m] hp = some (.bool (decide (0 ≤ a ∧ a < b ∧ b ≤ m)), hp, false) := by
  have e := fun hp => f103 n a b hp
  rw [evalCall_at _ _ _ hh50 rfl Tryz.func50 rfl (Nat.le_of_ble_eq_true rfl) rfl]
  by_cases h1 : 0 ≤ a
  · by_cases h2 : a < b
    · simp [e, h1, h2]
    · simp [e, h1, h2]
  · simp [e, h1]
def both (a b c d : Int) : Int × Int := if meets a b c d = true then (max a c, min b d) else (0, 0)
theorem meets_max (a b c d : Int) : meets a b c d = (decide (0 ≤ a ∧ a < b) && decide (0 ≤ c ∧ c < d) && decide (0 ≤ max a c ∧ max a c < min b d)) := by
  unfold meets holds
  rw [Bool.eq_iff_iff]
  simp only [Bool.and_eq_true, Bool.or_eq_true, decide_eq_true_eq]
  omega
theorem f54 (n : Nat) (a b c d : Int) (hp : Heap) : evalCall Tryz.prog hints (n + 2) 54 [.agg [.int .i64 a, .int .i64 b], .agg [.int .i64 c, .int .i64 d]] hp = some (.tup [.agg [.int .i64 (both a b c d).1, .int .i64 (both a b c d).2], .bool (meets a b c d)], hp, false) := by
  have e1 := fun hp => f103 n a b hp
  have e2 := fun hp => f103 n c d hp
  have e3 := fun hp => f103 n (max a c) (min b d) hp
  have hm := meets_max a b c d
  unfold both
  have m1 : (if a < c then c else a) = max a c := by rw [Int.max_def]; split <;> split <;> omega
  have m2 : (if d < b then d else b) = min b d := by rw [Int.min_def]; split <;> split <;> omega
  rw [evalCall_at _ _ _ hh54 rfl Tryz.func54 rfl (Nat.le_of_ble_eq_true rfl) rfl]
  generalize decide (0 ≤ a ∧ a < b) = x at *
  generalize decide (0 ≤ c ∧ c < d) = y at *
  generalize decide (0 ≤ max a c ∧ max a c < min b d) = z at *
  generalize meets a b c d = q at *
  generalize max a c = m at *
  generalize min b d = k at *
  subst hm
  cases x
  · simp [e1]
  · cases y
    · simp [e1, e2]
    · cases z <;> simp [e1, e2, e3, m1, m2]
theorem f210 (n : Nat) (a m : Int) (hp : Heap) (w : IntKind.i64.wrap (a + m) = a + m) : evalCall Tryz.prog hints (n + 1) 210 [.int .i64 a, .int .i64 m] hp = some (.agg [.int .i64 a, .int .i64 (a + m)], hp, false) := by
  rw [evalCall_at _ _ _ hh210 rfl Tryz.func210 rfl (Nat.le_of_ble_eq_true rfl) rfl]
  simp [w]
/-- Have two clients something both? -/
def shareC (x y : Cl) : Bool := decide (x.id = y.id) || decide (x.irq = y.irq) || meets x.base (x.base + x.size) y.base (y.base + y.size) || meets x.hb (x.hb + x.hn) y.hb (y.hb + y.hn)
theorem f96 (n : Nat) (t : Tab) (hp : Heap) : evalCall Tryz.prog hints (n + 2) 96 [.agg t.cells] hp = some (.bool (frameB t), hp, false) := by
  have e1 := fun hp => f145 n t.f 1 4096 hp
  have e2 := fun hp => f145 n (t.C.length : Int) 1 8 hp
  rw [evalCall_at _ _ _ hh96 rfl Tryz.func96 rfl (Nat.le_of_ble_eq_true rfl) rfl]
  unfold inB at e1 e2
  obtain ⟨f, W, S, C⟩ := t
  simp only [Tab.cells, frameB] at *
  generalize W.flatMap R3.cells = X at *
  generalize S.flatMap R3.cells = Y at *
  generalize C.flatMap Cl.cells = Z at *
  generalize W.length = nW at *
  generalize S.length = nS at *
  generalize C.length = nC at *
  by_cases c1 : 1 ≤ f
  · by_cases c2 : f ≤ 4096
    · by_cases c3 : (1 : Int) ≤ nC
      · by_cases c4 : (nC : Int) ≤ 8
        · by_cases c5 : (nW : Int) ≤ 9
          · simp [c1, c2, c3, c4, c5, e1, e2]
          · simp [c1, c2, c3, c4, c5, e1, e2]
        · simp [c1, c2, c3, c4, e1, e2]
      · simp [c1, c2, c3, e1, e2]
    · simp [c1, c2, e1]
  · simp [c1, e1]
theorem f151 (n : Nat) (t : Tab) (w : R3) (hp : Heap) : evalCall Tryz.prog hints (n + 3) 151 [.agg t.cells, .agg w.cells] hp = some (.bool (okW t w), hp, false) := by
  have e1 := fun hp => f145 (n + 1) w.o 0 (t.C.length : Int) hp
  have e2 := fun hp => f50 n w.a w.b t.f hp
  rw [evalCall_at _ _ _ hh151 rfl Tryz.func151 rfl (Nat.le_of_ble_eq_true rfl) rfl]
  unfold inB at e1
  have hk : okW t w = (decide (0 ≤ w.o ∧ w.o ≤ (t.C.length : Int)) && decide (0 ≤ w.a ∧ w.a < w.b ∧ w.b ≤ t.f)) := by
    unfold okW; rw [Bool.eq_iff_iff]; simp only [Bool.and_eq_true, decide_eq_true_eq]; omega
  rw [hk]
  obtain ⟨f, W, S, C⟩ := t
  obtain ⟨o, a, b⟩ := w
  simp only [Tab.cells, R3.cells] at *
  generalize W.flatMap _ = X at *
  generalize S.flatMap _ = Y at *
  generalize C.flatMap Cl.cells = Z at *
  generalize decide (0 ≤ o ∧ o ≤ (C.length : Int)) = p at *
  generalize decide (0 ≤ a ∧ a < b ∧ b ≤ f) = q at *
  clear hk
  cases p <;> simp [e1, e2]
theorem f147 (n : Nat) (t : Tab) (w : R3) (hp : Heap) (hf : t.f ≤ 4096) : evalCall Tryz.prog hints (n + 3) 147 [.agg t.cells, .agg w.cells] hp = some (.bool (okS t w), hp, false) := by
  have e1 := fun hp => f145 (n + 1) w.o 1 (t.C.length : Int) hp
  have e2 := fun hp => f50 n w.a w.b t.f hp
  rw [evalCall_at _ _ _ hh147 rfl Tryz.func147 rfl (Nat.le_of_ble_eq_true rfl) rfl]
  unfold inB at e1
  have hk : okS t w = (decide (1 ≤ w.o ∧ w.o ≤ (t.C.length : Int)) && (decide (0 ≤ w.a ∧ w.a < w.b ∧ w.b ≤ t.f) && decide (4 ≤ w.b - w.a))) := by
    unfold okS; rw [Bool.eq_iff_iff]; simp only [Bool.and_eq_true, decide_eq_true_eq]; omega
  have w1 : 0 ≤ w.a ∧ w.a < w.b ∧ w.b ≤ t.f → IntKind.i64.wrap (w.b - w.a) = w.b - w.a := fun h => wrap_id (by omega)
  rw [hk]
  obtain ⟨f, W, S, C⟩ := t
  obtain ⟨o, a, b⟩ := w
  simp only [Tab.cells, R3.cells] at *
  generalize W.flatMap _ = X at *
  generalize S.flatMap _ = Y at *
  generalize C.flatMap Cl.cells = Z at *
  generalize decide (1 ≤ o ∧ o ≤ (C.length : Int)) = p at *
  clear hk
  by_cases hq : 0 ≤ a ∧ a < b ∧ b ≤ f
  · have w1 := w1 hq
    rw [decide_eq_true hq] at e2 ⊢
    cases p <;> simp [e1, e2, w1]
  · rw [decide_eq_false hq] at e2 ⊢
    cases p <;> simp [e1, e2]
end Go.Proofs.YtknoiemnpllapaaGreat
end

section
namespace Go.PS
theorem iter_idxI {body : St → Option (Ex × St)} (s : Nat → St) (p : Nat → Bool) (hit : Nat → Ex × St) (out : Ex × St) : ∀ (N fuel : Nat) (st : St), st = s 0 → N < fuel →
    (∀ k, k < N → (∀ j, j < k → p j = false) → body (s k) = some (cond (p k) (hit k) (.normal, s (k + 1)))) → body (s N) = some out → (∀ k, (hit k).1 = .normal → False) → (out.1 = .normal → False) →
    iter body fuel st = some (match (List.range N).find? p with | some k => hit k | none => out)
  | _, 0, _, _, h, _, _, _, _ => by omega
  | 0, fuel + 1, st, h0, _, _, he, _, hn => by
    subst h0
    simp only [iter, he]
    split
    · rename_i h; cases h; exact (hn rfl).elim
    · rfl
  | N + 1, fuel + 1, st, h0, hf, hs, he, hn1, hn2 => by
    subst h0
    have h0 := hs 0 (by omega) (fun j hj => absurd hj (by omega))
    rw [find_succ]
    cases hp : p 0 with
    | true =>
      rw [hp] at h0
      simp only [cond_true] at h0
      simp only [iter, h0, if_true]
      split
      · rename_i h; exact (hn1 0 (by rw [Option.some.inj h])).elim
      · rfl
    | false =>
      rw [hp] at h0
      simp only [cond_false] at h0
      simp only [iter, h0, Bool.false_eq_true, if_false]
      rw [iter_idxI (fun k => s (k + 1)) (fun k => p (k + 1)) (fun k => hit (k + 1)) out N fuel _ rfl (by omega) (fun k hk hj => hs (k + 1) (by omega) (fun j hj' => by
        match j, hj' with
        | 0, _ => exact hp
        | j + 1, h => exact hj j (by omega))) he (fun k => hn1 (k + 1)) hn2]
      cases (List.range N).find? fun k => p (k + 1) <;> rfl
end Go.PS
namespace Go.Proofs.YtknoiemnpllapaaGreat
open Go Go.PS
/-- Places. -/
structure Sp where
  a : Int
  b : Int
def Sp.cells (c : Sp) : List PV := [.int .i64 c.a, .int .i64 c.b]
theorem Sp.len (c : Sp) : c.cells.length = 2 := rfl
def Sp.is (c : Sp) : Bool := decide (0 ≤ c.a ∧ c.a < c.b)
def meetS (x y : Sp) : Bool := meets x.a x.b y.a y.b
def mayR (r : R3) : Bool := decide (1 ≤ r.o ∧ r.o ≤ 8 ∧ 128 ≤ r.a ∧ r.a < 16384 ∧ 1 ≤ r.b ∧ r.b ≤ 16384 - r.a)
def sp (r : R3) : Sp := ⟨r.a, r.a + r.b⟩
theorem f55 (n : Nat) (r : R3) (hp : Heap) : evalCall Tryz.prog hints (n + 1) 55 [.agg r.cells] hp = some (.bool (mayR r), hp, false) := by
  rw [evalCall_at _ _ _ hh55 rfl Tryz.func55 rfl (Nat.le_of_ble_eq_true rfl) rfl]
  unfold mayR
  obtain ⟨o, a, b⟩ := r
  simp only [R3.cells] at *
  by_cases c1 : 1 ≤ o
  · by_cases c2 : o ≤ 8
    · by_cases c3 : 128 ≤ a
      · by_cases c4 : a < 16384
        · have w := wrap_id (x := 16384 - a) (by omega)
          by_cases c5 : 1 ≤ b
          · simp [c1, c2, c3, c4, c5, w]
          · simp [c1, c2, c3, c4, c5]
        · simp [c1, c2, c3, c4]
      · simp [c1, c2, c3]
    · simp [c1, c2]
  · simp [c1]
theorem f56 (n : Nat) (r : R3) (hp : Heap) (h : mayR r = true) : evalCall Tryz.prog hints (n + 1) 56 [.agg r.cells] hp = some (.agg (sp r).cells, hp, false) := by
  unfold mayR at h; simp only [decide_eq_true_eq] at h
  have w := wrap_id (x := r.a + r.b) (by omega)
  rw [evalCall_at _ _ _ hh56 rfl Tryz.func56 rfl (Nat.le_of_ble_eq_true rfl) rfl]
  unfold sp Sp.cells
  clear h
  obtain ⟨o, a, b⟩ := r
  simp only [R3.cells] at *
  simp [w]
theorem f107 (n : Nat) (s : Sp) (hp : Heap) : evalCall Tryz.prog hints (n + 2) 107 [.agg s.cells] hp = some (.bool (!s.is), hp, false) := by
  have e := fun hp => f103 n s.a s.b hp
  rw [evalCall_at _ _ _ hh107 rfl Tryz.func107 rfl (Nat.le_of_ble_eq_true rfl) rfl]
  unfold Sp.is Sp.cells
  generalize decide (0 ≤ s.a ∧ s.a < s.b) = d at *
  simp [e]
theorem f165 (n j : Nat) (x y : Sp) (hp : Heap) (hj : hp[j]? = some (.cells x.cells)) : evalCall Tryz.prog hints (n + 3) 165 [.agg y.cells, .ptr (.heap j) none 0] hp = some (.bool (meetS y x), hp, false) := by
  have e := fun hp => f54 n y.a y.b x.a x.b hp
  rw [evalCall_at _ _ _ hh165 rfl Tryz.func165 rfl (Nat.le_of_ble_eq_true rfl) rfl]
  unfold meetS
  obtain ⟨a, b⟩ := x
  obtain ⟨a', b'⟩ := y
  simp only [Sp.cells] at *
  generalize both a' b' a b = B at *
  generalize meets a' b' a b = m at *
  simp [-getElem?_pos, List.getElem?_cons_zero, hj, e]
set_option maxHeartbeats 1000000 in
theorem f164 (n g : Nat) (cap : List PV) (q : Sp → Bool) (l : List Sp) (hp : Heap) (hl : l.length ≤ 40) (hn : 60 < n) (ho : (hints g).own = none) (hg : ∀ x ∈ l, ∃ H, evalCall Tryz.prog hints n g (.agg x.cells :: cap) hp = some (.bool (q x), H, false)) :
    evalCall Tryz.prog hints (n + 1) 164 [.sl .sh l.length (l.flatMap Sp.cells), .fn g cap] hp = some (.int .i64 (idxI (idx q l)), hp, false) := by
  rw [evalCall_at _ _ _ hh164 rfl Tryz.func164 rfl (Nat.le_of_ble_eq_true rfl) rfl]
  have lX := flat_len Sp.len l
  have rr := fun k h => flat_row Sp.len l k h
  rw [← idx_range]
  generalize l.flatMap Sp.cells = X at *
  simp
  rw [iter_idx (fun k => { fr := [(0, .sl .sh l.length X), (1, .fn g cap), (7, .int .i64 l.length), (8, .int .i64 k)], hp := hp, base := hp.length, dirty := false }) (fun k => (l[k]?).any q) (fun k => (.ret, { fr := [(4, .int .i64 k)], hp := hp, base := hp.length, dirty := false })) (.exit 0, { fr := [(0, .sl .sh l.length X), (1, .fn g cap), (7, .int .i64 l.length), (8, .int .i64 l.length), (9, .bool false)], hp := hp, base := hp.length, dirty := false }) l.length]
  · cases (List.range l.length).find? _ <;> simp [idxI]
  · simp
  · omega
  · intro k hk
    have r := rr k hk
    obtain ⟨H, e⟩ := hg l[k] (List.getElem_mem hk)
    have z : k * 2 + 2 ≤ l.length * 2 := by omega
    have w := wrap_id (x := (k : Int) + 1) (by omega)
    rw [List.getElem?_eq_getElem hk]
    simp only [Option.any_some]
    generalize q l[k] = b at *
    generalize l[k] = x at *
    obtain ⟨f, c⟩ := x
    simp only [Sp.cells] at *
    cases b <;> simp [hk, lX, r, e, z, w, ho]
  · simp
  · simp
  · simp
theorem any_idxI' {α : Type} (q : α → Bool) (l : List α) : l.any q = decide (0 ≤ idxI (idx q l)) := by
  cases hi : idx q l with
  | none => rw [idx_none.1 hi]; simp [idxI]
  | some k =>
    obtain ⟨h1, h2⟩ := idx_lt hi
    rw [List.any_eq_true.2 ⟨_, List.getElem_mem h1, h2⟩]
    simp [idxI]
theorem f106 (n g : Nat) (cap : List PV) (q : Sp → Bool) (l : List Sp) (hp : Heap) (hl : l.length ≤ 40) (hn : 60 < n) (ho : (hints g).own = none) (hg : ∀ x ∈ l, ∃ H, evalCall Tryz.prog hints n g (.agg x.cells :: cap) hp = some (.bool (q x), H, false)) :
    evalCall Tryz.prog hints (n + 2) 106 [.sl .sh l.length (l.flatMap Sp.cells), .fn g cap] hp = some (.bool (l.any q), hp, false) := by
  have e := f164 n g cap q l hp hl hn ho hg
  rw [evalCall_at _ _ _ hh106 rfl Tryz.func106 rfl (Nat.le_of_ble_eq_true rfl) rfl]
  generalize l.flatMap Sp.cells = X at *
  rw [any_idxI']
  generalize idxI (idx q l) = i at *
  simp [e, ho]
end Go.Proofs.YtknoiemnpllapaaGreat
end

section
namespace Go.Proofs.YtknoiemnpllapaaGreat
open Go Go.PS
def meetAt (l : List Sp) (k : Nat) : Bool := (l[k]?).any fun x => (l.take k).any fun y => meetS y x
def fst83 (l : List Sp) : Int × Int := match (List.range l.length).find? (meetAt l) with
  | some k => ((l[k]?).elim (-1) fun x => idxI (idx (fun y => meetS y x) (l.take k)), k)
  | none => (-1, -1)
def hpS (hp : Heap) (l : List Sp) (k : Nat) : Heap := hp ++ (l.take k).map fun s => PS.Node.cells s.cells
theorem hpS_succ (hp : Heap) (l : List Sp) (k : Nat) (h : k < l.length) : hpS hp l (k + 1) = hpS hp l k ++ [PS.Node.cells l[k].cells] := by
  unfold hpS; rw [List.take_succ_eq_append_getElem h, List.map_append, ← List.append_assoc]; rfl
set_option maxHeartbeats 1000000 in
theorem f105 (n : Nat) (l : List Sp) (hp : Heap) (hl : l.length ≤ 40) (hn : 60 < n) :
    ∃ H, evalCall Tryz.prog hints (n + 5) 105 [.sl .sh l.length (l.flatMap Sp.cells)] hp = some (.tup [.int .i64 (fst83 l).1, .int .i64 (fst83 l).2], H, false) := by
  obtain ⟨HP, hHP⟩ : ∃ HP : Nat → Heap, HP = hpS hp l := ⟨_, rfl⟩
  have h0 : HP 0 = hp := by rw [hHP]; unfold hpS; simp
  have hS : ∀ k (h : k < l.length), HP k ++ [PS.Node.cells l[k].cells] = HP (k + 1) := fun k h => by rw [hHP]; exact (hpS_succ hp l k h).symm
  have e := fun k (h : k < l.length) => f164 (n + 3) 165 [.ptr (.heap (HP k).length) none 0] (fun y => meetS y l[k]) (l.take k) (HP (k + 1)) (by rw [List.length_take]; omega) (by omega) rfl (fun y _ => ⟨_, f165 n (HP k).length l[k] y _ (by rw [← hS k h]; simp)⟩)
  refine ⟨match (List.range l.length).find? (meetAt l) with | some k => HP (k + 1) | none => HP l.length, ?_⟩
  rw [evalCall_at _ _ _ hh105 rfl Tryz.func105 rfl (Nat.le_of_ble_eq_true rfl) rfl]
  have lX := flat_len Sp.len l
  have rr := fun k h => flat_row Sp.len l k h
  have ft := fun k => flat_take Sp.len l k
  generalize l.flatMap Sp.cells = X at *
  simp
  rw [iter_idx (fun k => { fr := [(0, .sl .sh l.length X), (7, .sl .sh l.length X), (8, .int .i64 l.length), (9, .int .i64 k)], hp := HP k, base := hp.length, dirty := false }) (meetAt l) (fun k => (.ret, { fr := [(2, .int .i64 ((l[k]?).elim (-1) fun x => idxI (idx (fun y => meetS y x) (l.take k)))), (3, .int .i64 k)], hp := HP (k + 1), base := hp.length, dirty := false })) (.exit 0, { fr := [(0, .sl .sh l.length X), (7, .sl .sh l.length X), (8, .int .i64 l.length), (9, .int .i64 l.length), (10, .bool false)], hp := HP l.length, base := hp.length, dirty := false }) l.length]
  · unfold fst83
    cases (List.range l.length).find? (meetAt l) <;> simp
  · simp [h0]
  · omega
  · intro k hk
    have r := rr k hk
    have e := e k hk
    have hS := hS k hk
    have hlast : ∀ c : PS.Node, (HP k ++ [c])[(HP k).length]? = some c := fun c => by simp
    have hb : ¬ (HP k).length < hp.length := by rw [hHP]; unfold hpS; simp
    have z : k * 2 + 2 ≤ l.length * 2 := by omega
    have w := wrap_id (x := (k : Int) + 1) (by omega)
    have k1 : (k : Int) ≤ l.length := by omega
    have hlt : (l.take k).length = k := by rw [List.length_take]; omega
    rw [← ft k, hlt] at e
    have hm : meetAt l k = decide (0 ≤ idxI (idx (fun y => meetS y l[k]) (l.take k))) := by
      unfold meetAt; rw [List.getElem?_eq_getElem hk]; exact any_idxI' _ _
    rw [hm, List.getElem?_eq_getElem hk]
    simp only [Option.elim_some]
    generalize idxI (idx (fun y => meetS y l[k]) (l.take k)) = i at *
    clear hm ft rr
    generalize l[k] = x at *
    obtain ⟨f, c⟩ := x
    simp only [Sp.cells] at *
    by_cases c : 0 ≤ i
    · simp [-getElem?_pos, List.getElem?_cons_zero, hk, k1, lX, r, e, z, w, hS, hlast, hb, c]
    · simp [-getElem?_pos, List.getElem?_cons_zero, hk, k1, lX, r, e, z, w, hS, hlast, hb, c]
  · simp
  · simp
  · simp
/-- No two spans meet, and all are spans. -/
def apartB (l : List Sp) : Bool := !((List.range l.length).any (meetAt l)) && !(l.any fun s => !s.is)
theorem find_lt {p : Nat → Bool} {N k : Nat} (h : (List.range N).find? p = some k) : k < N ∧ p k = true :=
  ⟨List.mem_range.1 (List.mem_of_find?_eq_some h), by simpa using List.find?_some h⟩
theorem fst83_lt (l : List Sp) : decide ((fst83 l).1 < 0) = !((List.range l.length).any (meetAt l)) := by
  unfold fst83
  cases h : (List.range l.length).find? (meetAt l) with
  | none =>
    have : (List.range l.length).any (meetAt l) = false := by
      rw [Bool.eq_false_iff]; intro c
      obtain ⟨k, hk, e⟩ := List.any_eq_true.1 c
      have := List.find?_eq_none.1 h k hk
      exact this e
    rw [this]; rfl
  | some k =>
    obtain ⟨h1, h2⟩ := find_lt h
    have : (List.range l.length).any (meetAt l) = true := List.any_eq_true.2 ⟨k, List.mem_range.2 h1, h2⟩
    rw [this]
    show decide (((l[k]?).elim (-1) fun x => idxI (idx (fun y => meetS y x) (l.take k))) < 0) = false
    unfold meetAt at h2
    rw [List.getElem?_eq_getElem h1] at h2 ⊢
    simp only [Option.any_some, Option.elim_some] at *
    rw [any_idxI', decide_eq_true_eq] at h2
    exact decide_eq_false (by omega)
theorem f57 (n : Nat) (l : List Sp) (hp : Heap) (hl : l.length ≤ 40) (hn : 60 < n) :
    evalCall Tryz.prog hints (n + 6) 57 [.sl .sh l.length (l.flatMap Sp.cells)] hp = some (.bool (apartB l), hp, false) := by
  obtain ⟨H, e1⟩ := f105 n l hp hl hn
  have e2 : evalCall Tryz.prog hints (n + 5) 106 [.sl .sh l.length (l.flatMap Sp.cells), .fn 107 []] hp = _ := f106 (n + 3) 107 [] (fun s => !s.is) l hp hl (by omega) rfl (fun x _ => ⟨_, f107 (n + 1) x hp⟩)
  rw [evalCall_at _ _ _ hh57 rfl Tryz.func57 rfl (Nat.le_of_ble_eq_true rfl) rfl]
  unfold apartB
  rw [← fst83_lt]
  generalize l.flatMap Sp.cells = X at *
  generalize l.any _ = b at *
  generalize (fst83 l).1 = i at *
  generalize (fst83 l).2 = i2 at *
  by_cases c : i < 0
  · simp [e1, e2, c]
  · simp [e1, e2, c]
end Go.Proofs.YtknoiemnpllapaaGreat
end

section
namespace Go.Proofs.YtknoiemnpllapaaGreat
open Go Go.PS
set_option maxHeartbeats 2000000 in
theorem f163 (n : Nat) (x y : Cl) (hp : Heap) (hx : x.ok) (hy : y.ok) : evalCall Tryz.prog hints (n + 3) 163 [.agg x.cells, .agg y.cells] hp = some (.bool (shareC x y), hp, false) := by
  unfold Cl.ok at hx hy
  have e1 := fun hp => f210 (n + 1) x.base x.size hp (wrap_id (by omega))
  have e2 := fun hp => f210 (n + 1) y.base y.size hp (wrap_id (by omega))
  have e3 := fun hp => f210 (n + 1) x.hb x.hn hp (wrap_id (by omega))
  have e4 := fun hp => f210 (n + 1) y.hb y.hn hp (wrap_id (by omega))
  have e5 := fun hp => f54 n x.base (x.base + x.size) y.base (y.base + y.size) hp
  have e6 := fun hp => f54 n x.hb (x.hb + x.hn) y.hb (y.hb + y.hn) hp
  rw [evalCall_at _ _ _ hh163 rfl Tryz.func163 rfl (Nat.le_of_ble_eq_true rfl) rfl]
  unfold shareC
  clear hx hy
  obtain ⟨x1, x2, x3, x4, x5, x6, x7, x8, x9, x10⟩ := x
  obtain ⟨y1, y2, y3, y4, y5, y6, y7, y8, y9, y10⟩ := y
  simp only [Cl.cells] at *
  generalize both x1 _ _ _ = B1 at *
  generalize both x9 _ _ _ = B2 at *
  generalize meets x1 _ _ _ = m1 at *
  generalize meets x9 _ _ _ = m2 at *
  by_cases c1 : x7 = y7
  · have c1' : (x7 == y7) = true := by simp [c1]
    simp [e1, e2, e3, e4, e5, e6, c1']
    simp [c1]
  · have c1' : (x7 == y7) = false := by simp [c1]
    by_cases c2 : x8 = y8
    · have c2' : (x8 == y8) = true := by simp [c2]
      simp [e1, e2, e3, e4, e5, e6, c1', c2']
      simp [c2]
    · have c2' : (x8 == y8) = false := by simp [c2]
      cases m1 <;> simp [e1, e2, e3, e4, e5, e6, c1', c2', c1, c2]
set_option maxHeartbeats 2000000 in
theorem f159 (n : Nat) (c : Cl) (hp : Heap) : evalCall Tryz.prog hints (n + 2) 159 [.agg c.cells] hp = some (.bool (decide c.ok), hp, false) := by
  have r := ring_le c.q
  have e0 := fun hp => f208 n c.q hp
  have i := fun x a b hp => f145 n x a b hp
  unfold inB at i
  rw [evalCall_at _ _ _ hh159 rfl Tryz.func159 rfl (Nat.le_of_ble_eq_true rfl) rfl]
  have hk : decide c.ok = decide (32 ≤ c.size ∧ c.size ≤ 1024 ∧ 128 ≤ c.base ∧ c.base ≤ 16384 - c.size ∧ ring c.q ≠ 0 ∧ 0 ≤ c.at_ ∧ c.at_ ≤ c.size - ring c.q ∧ 1 ≤ c.n ∧ c.n ≤ 16 ∧ 0 ≤ c.pr ∧ c.pr ≤ 16 ∧ 0 ≤ c.id ∧ c.id ≤ 255 ∧ 0 ≤ c.irq ∧ c.irq ≤ 255 ∧ 0 ≤ c.hn ∧ c.hn ≤ 64 ∧ 0 ≤ c.hb ∧ c.hb ≤ 512 - c.hn) := decide_eq_decide.2 Iff.rfl
  rw [hk]
  clear hk
  obtain ⟨base, size, q, at_, nn, pr, id, irq, hb, hn⟩ := c
  simp only [Cl.cells] at *
  by_cases h1 : 32 ≤ size ∧ size ≤ 1024
  · have d1 := decide_eq_true h1
    have w1 := wrap_id (x := 16384 - size) (by omega)
    by_cases h2 : 128 ≤ base ∧ base ≤ 16384 - size
    · have d2 := decide_eq_true h2
      by_cases h3 : ring q = 0
      · have h3' : (ring q == 0) = true := by simp [h3]
        simp [i, e0, d1, w1, d2, h3']
        simp [h3]
      · have h3' : (ring q == 0) = false := by simp [h3]
        have w2 := wrap_id (x := size - ring q) (by omega)
        by_cases h4 : 0 ≤ at_ ∧ at_ ≤ size - ring q
        · have d4 := decide_eq_true h4
          by_cases h5 : 1 ≤ nn ∧ nn ≤ 16
          · have d5 := decide_eq_true h5
            by_cases h6 : 0 ≤ pr ∧ pr ≤ 16
            · have d6 := decide_eq_true h6
              by_cases h7 : 0 ≤ id ∧ id ≤ 255
              · have d7 := decide_eq_true h7
                by_cases h8 : 0 ≤ irq ∧ irq ≤ 255
                · have d8 := decide_eq_true h8
                  by_cases h9 : 0 ≤ hn ∧ hn ≤ 64
                  · have d9 := decide_eq_true h9
                    have w3 := wrap_id (x := 512 - hn) (by omega)
                    by_cases h10 : 0 ≤ hb ∧ hb ≤ 512 - hn
                    · have d10 := decide_eq_true h10
                      simp [i, e0, d1, w1, d2, h3', w2, d4, d5, d6, d7, d8, d9, w3, d10]
                      all_goals first | omega | (rw [Bool.eq_iff_iff]; simp only [Bool.and_eq_true, decide_eq_true_eq]; omega) | (rw [decide_eq_true_iff]; omega) | (rw [decide_eq_false_iff_not]; omega)
                    · have d10 := decide_eq_false h10
                      simp [i, e0, d1, w1, d2, h3', w2, d4, d5, d6, d7, d8, d9, w3, d10]
                      all_goals first | omega | (rw [Bool.eq_iff_iff]; simp only [Bool.and_eq_true, decide_eq_true_eq]; omega) | (rw [decide_eq_true_iff]; omega) | (rw [decide_eq_false_iff_not]; omega)
                  · have d9 := decide_eq_false h9
                    simp [i, e0, d1, w1, d2, h3', w2, d4, d5, d6, d7, d8, d9]
                    all_goals first | omega | (rw [Bool.eq_iff_iff]; simp only [Bool.and_eq_true, decide_eq_true_eq]; omega) | (rw [decide_eq_true_iff]; omega) | (rw [decide_eq_false_iff_not]; omega)
                · have d8 := decide_eq_false h8
                  simp [i, e0, d1, w1, d2, h3', w2, d4, d5, d6, d7, d8]
                  all_goals first | omega | (rw [Bool.eq_iff_iff]; simp only [Bool.and_eq_true, decide_eq_true_eq]; omega) | (rw [decide_eq_true_iff]; omega) | (rw [decide_eq_false_iff_not]; omega)
              · have d7 := decide_eq_false h7
                simp [i, e0, d1, w1, d2, h3', w2, d4, d5, d6, d7]
                all_goals first | omega | (rw [Bool.eq_iff_iff]; simp only [Bool.and_eq_true, decide_eq_true_eq]; omega) | (rw [decide_eq_true_iff]; omega) | (rw [decide_eq_false_iff_not]; omega)
            · have d6 := decide_eq_false h6
              simp [i, e0, d1, w1, d2, h3', w2, d4, d5, d6]
              all_goals first | omega | (rw [Bool.eq_iff_iff]; simp only [Bool.and_eq_true, decide_eq_true_eq]; omega) | (rw [decide_eq_true_iff]; omega) | (rw [decide_eq_false_iff_not]; omega)
          · have d5 := decide_eq_false h5
            simp [i, e0, d1, w1, d2, h3', w2, d4, d5]
            all_goals first | omega | (rw [Bool.eq_iff_iff]; simp only [Bool.and_eq_true, decide_eq_true_eq]; omega) | (rw [decide_eq_true_iff]; omega) | (rw [decide_eq_false_iff_not]; omega)
        · have d4 := decide_eq_false h4
          simp [i, e0, d1, w1, d2, h3', w2, d4]
          all_goals first | omega | (rw [Bool.eq_iff_iff]; simp only [Bool.and_eq_true, decide_eq_true_eq]; omega) | (rw [decide_eq_true_iff]; omega) | (rw [decide_eq_false_iff_not]; omega)
    · have d2 := decide_eq_false h2
      simp [i, e0, d1, w1, d2]
      all_goals first | omega | (rw [Bool.eq_iff_iff]; simp only [Bool.and_eq_true, decide_eq_true_eq]; omega) | (rw [decide_eq_true_iff]; omega) | (rw [decide_eq_false_iff_not]; omega)
  · have d1 := decide_eq_false h1
    simp [i, d1]
    all_goals first | omega | (rw [Bool.eq_iff_iff]; simp only [Bool.and_eq_true, decide_eq_true_eq]; omega) | (rw [decide_eq_true_iff]; omega) | (rw [decide_eq_false_iff_not]; omega)
end Go.Proofs.YtknoiemnpllapaaGreat
end
