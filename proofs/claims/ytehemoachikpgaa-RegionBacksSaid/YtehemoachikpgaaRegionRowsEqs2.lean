/-
  What functions of this program compute, as equations about the evaluator. No condition but those stated.
-/
import Derived.Test.YtehemoachikpgaaRegionRowsEqs
set_option linter.all false
section
namespace Go.Proofs.Ytehemoachikpgaa
open Go Go.PS Go.Shelf Go.Sort
def Try.sortRg_ren : Go.Shelf.Ren := ⟨fun | 6 => 58 | 15 => 81 | 14 => 80 | 28 => 115 | 29 => 116 | 20 => 107 | 21 => 108 | 22 => 109 | 23 => 110 | 24 => 111 | 25 => 112 | 26 => 113 | 27 => 114 | 46 => 138 | 47 => 139 | 48 => 140 | 49 => 141 | 50 => 142 | 57 => 144 | n => n, fun | 22 => 33 | 24 => 24 | 25 => 102 | 3 => 3 | 39 => 124 | 0 => 0 | 53 => 151 | 55 => 153 | 4 => 4 | 46 => 144 | 45 => 143 | 50 => 148 | 5 => 5 | 9 => 9 | 66 => 161 | 70 => 165 | 76 => 168 | 77 => 30 | n => n, fun | n => n⟩
theorem Try.sortRg : Go.Proofs.SlLaysF0.n6 Try.prog Try.sortRg_ren := {
  mixed := by kernel_rfl
  f6 := ⟨Try.f58.name, by decide, Try.func58.trans (congrArg some (by kernel_rfl))⟩
  f14 := ⟨Try.f80.name, by decide, Try.func80.trans (congrArg some (by kernel_rfl))⟩
  f15 := Try.func81.trans (congrArg some (by kernel_rfl))
  f20 := ⟨Try.f107.name, by decide, Try.func107.trans (congrArg some (by kernel_rfl))⟩
  f21 := ⟨Try.f108.name, by decide, Try.func108.trans (congrArg some (by kernel_rfl))⟩
  f22 := ⟨Try.f109.name, by decide, Try.func109.trans (congrArg some (by kernel_rfl))⟩
  f23 := ⟨Try.f110.name, by decide, Try.func110.trans (congrArg some (by kernel_rfl))⟩
  f24 := ⟨Try.f111.name, by decide, Try.func111.trans (congrArg some (by kernel_rfl))⟩
  f25 := ⟨Try.f112.name, by decide, Try.func112.trans (congrArg some (by kernel_rfl))⟩
  f26 := ⟨Try.f113.name, by decide, Try.func113.trans (congrArg some (by kernel_rfl))⟩
  f27 := ⟨Try.f114.name, by decide, Try.func114.trans (congrArg some (by kernel_rfl))⟩
  f28 := Try.func115.trans (congrArg some (by kernel_rfl))
  f29 := Try.func116.trans (congrArg some (by kernel_rfl))
  f46 := ⟨Try.f138.name, by decide, Try.func138.trans (congrArg some (by kernel_rfl))⟩
  f47 := Try.func139.trans (congrArg some (by kernel_rfl))
  f48 := Try.func140.trans (congrArg some (by kernel_rfl))
  f49 := ⟨Try.f141.name, by decide, Try.func141.trans (congrArg some (by kernel_rfl))⟩
  f50 := ⟨Try.f142.name, by decide, Try.func142.trans (congrArg some (by kernel_rfl))⟩
  f57 := ⟨Try.f144.name, by decide, Try.func144.trans (congrArg some (by kernel_rfl))⟩
  t0 := Try.underlying0
  a0 := Try.isAgg0
  z0 := Try.sizeOf0
  v0 := Try.zeroValue0
  t3 := Try.underlying3
  a3 := Try.isAgg3
  z3 := Try.sizeOf3
  v3 := Try.zeroValue3
  t4 := Try.underlying4
  a4 := Try.isAgg4
  z4 := Try.sizeOf4
  v4 := Try.zeroValue4
  t5 := Try.underlying5
  a5 := Try.isAgg5
  z5 := Try.sizeOf5
  v5 := Try.zeroValue5
  t9 := Try.underlying9
  a9 := Try.isAgg9
  z9 := Try.sizeOf9
  v9 := Try.zeroValue9
  t22 := Try.underlying33
  a22 := Try.isAgg33
  z22 := Try.sizeOf33
  v22 := Try.zeroValue33
  t25 := Try.underlying102
  a25 := Try.isAgg102
  z25 := Try.sizeOf102
  v25 := Try.zeroValue102
  t39 := Try.underlying124
  a39 := Try.isAgg124
  z39 := Try.sizeOf124
  v39 := Try.zeroValue124
  t45 := Try.underlying143
  a45 := Try.isAgg143
  z45 := Try.sizeOf143
  v45 := Try.zeroValue143
  t46 := Try.underlying144
  a46 := Try.isAgg144
  z46 := Try.sizeOf144
  v46 := Try.zeroValue144
  t50 := Try.underlying148
  a50 := Try.isAgg148
  z50 := Try.sizeOf148
  v50 := Try.zeroValue148
  t53 := Try.underlying151
  a53 := Try.isAgg151
  z53 := Try.sizeOf151
  v53 := Try.zeroValue151
  t55 := Try.underlying153
  a55 := Try.isAgg153
  z55 := Try.sizeOf153
  v55 := Try.zeroValue153
  t66 := Try.underlying161
  a66 := Try.isAgg161
  z66 := Try.sizeOf161
  v66 := Try.zeroValue161
  t70 := Try.underlying165
  a70 := Try.isAgg165
  z70 := Try.sizeOf165
  v70 := Try.zeroValue165
  t76 := Try.underlying168
  a76 := Try.isAgg168
  z76 := Try.sizeOf168
  v76 := Try.zeroValue168
  t77 := Try.underlying30
  a77 := Try.isAgg30
  z77 := Try.sizeOf30
  v77 := Try.zeroValue30 }
def Try.cmpRg_ren : Go.Shelf.Ren := ⟨fun | 5 => 60 | 7 => 82 | n => n, fun | 22 => 3 | 3 => 3 | 4 => 4 | n => n, fun | n => n⟩
theorem Try.cmpRg : Go.Proofs.SlLaysC2.n5 Try.prog Try.cmpRg_ren := {
  mixed := by kernel_rfl
  f5 := ⟨Try.f60.name, by decide, Try.func60.trans (congrArg some (by kernel_rfl))⟩
  f7 := ⟨Try.f82.name, by decide, Try.func82.trans (congrArg some (by kernel_rfl))⟩
  t3 := Try.underlying3
  a3 := Try.isAgg3
  z3 := Try.sizeOf3
  v3 := Try.zeroValue3
  t4 := Try.underlying4
  a4 := Try.isAgg4
  z4 := Try.sizeOf4
  v4 := Try.zeroValue4
  t22 := Try.underlying3
  a22 := Try.isAgg3
  z22 := Try.sizeOf3
  v22 := Try.zeroValue3 }
set_option maxHeartbeats 1000000 in
theorem closure59 (a b c a' b' c' : Int) (W : World) : Calls Try.prog 59 #[.agg #[.int .i64 a, .int .i64 b, .int .i64 c], .agg #[.int .i64 a', .int .i64 b', .int .i64 c']] W fun e w' => e = .returned (.int .i64 (Lib.compareInt b b')) ∧ ∃ q os', w' = grow (W.drewN q) os' := by
  have hcon := fun W' => AnyG.cmp_Compare_int Try.cmpRg b b' W'
  change ∀ W', Calls Try.prog 60 _ _ _ at hcon
  generalize Lib.compareInt b b' = r at hcon ⊢
  go_enter Try.func59, Try.ntmps59
  go_wp2_with (go_at_call 60; refine (hcon _).mono ?_; rintro e w' ⟨rfl, rfl⟩)
  go_ret
  exact ⟨rfl, 0, _, by rw [alloc_eq_grow, alloc_eq_grow, grow_grow]; rfl⟩
theorem sortAt58 : SortAt Try.prog 58 59 3 1 := by
  refine sortAt Try.sortRg (s := 3) (g := 59) (key := 1) Try.isAgg24 Try.sizeOf24 (enters_of Try.func59 (by kernel_rfl) rfl) ?_
  intro x y hx hy W
  obtain ⟨a, b, c, rfl⟩ : ∃ a b c, x = [a, b, c] := by
    match x, hx with
    | [a, b, c], _ => exact ⟨a, b, c, rfl⟩
  obtain ⟨a', b', c', rfl⟩ : ∃ a b c, y = [a, b, c] := by
    match y, hy with
    | [a, b, c], _ => exact ⟨a, b, c, rfl⟩
  exact closure59 a b c a' b' c' W
theorem prims : PrimSound Try.prog hints := ⟨fun f k h => by
    unfold hints at h
    split at h <;> first | (cases h; done),
  fun f k h => by
    unfold hints at h
    split at h <;> first | (cases h; done) | (have e : (59, 3, 1) = k := Option.some.inj h; subst e; exact sortAt58)⟩
end Go.Proofs.Ytehemoachikpgaa
end

section
namespace Go.PS
theorem iter_idxI {body : St → Option (Ex × St)} (s : Nat → St) (p : Nat → Bool) (hit : Nat → Ex × St) (out : Ex × St) : ∀ (N fuel : Nat) (st : St), st = s 0 → N < fuel →
    (∀ k, k < N → (∀ j, j < k → p j = false) → body (s k) = some (cond (p k) (hit k) (.normal, s (k + 1)))) → body (s N) = some out → (∀ k, (hit k).1 = .normal → False) → (out.1 = .normal → False) →
    iter body fuel st = some (match (List.range N).find? p with | some k => hit k | none => out)
  | _, 0, _, _, h, _, _, _, _ => by omega
  | 0, fuel + 1, st, h0, _, _, he, _, hn => by
    subst h0
    simp only [iter, he]
    split
    · rename_i h; cases h; exact (hn rfl).elim
    · rfl
  | N + 1, fuel + 1, st, h0, hf, hs, he, hn1, hn2 => by
    subst h0
    have h0 := hs 0 (by omega) (fun j hj => absurd hj (by omega))
    rw [find_succ]
    cases hp : p 0 with
    | true =>
      rw [hp] at h0
      simp only [cond_true] at h0
      simp only [iter, h0, if_true]
      split
      · rename_i h; exact (hn1 0 (by rw [Option.some.inj h])).elim
      · rfl
    | false =>
      rw [hp] at h0
      simp only [cond_false] at h0
      simp only [iter, h0, Bool.false_eq_true, if_false]
      rw [iter_idxI (fun k => s (k + 1)) (fun k => p (k + 1)) (fun k => hit (k + 1)) out N fuel _ rfl (by omega) (fun k hk hj => hs (k + 1) (by omega) (fun j hj' => by
        match j, hj' with
        | 0, _ => exact hp
        | j + 1, h => exact hj j (by omega))) he (fun k => hn1 (k + 1)) hn2]
      cases (List.range N).find? fun k => p (k + 1) <;> rfl
end Go.PS
namespace Go.Proofs.Ytehemoachikpgaa
open Go Go.PS
/-- Places. -/
structure Sp where
  a : Int
  b : Int
def Sp.cells (c : Sp) : List PV := [.int .i64 c.a, .int .i64 c.b]
theorem Sp.len (c : Sp) : c.cells.length = 2 := rfl
def Sp.is (c : Sp) : Bool := decide (0 ≤ c.a ∧ c.a < c.b)
def meetS (x y : Sp) : Bool := meets x.a x.b y.a y.b
def mayR (r : R3) : Bool := decide (1 ≤ r.o ∧ r.o ≤ 8 ∧ 128 ≤ r.a ∧ r.a < 16384 ∧ 1 ≤ r.b ∧ r.b ≤ 16384 - r.a)
def sp (r : R3) : Sp := ⟨r.a, r.a + r.b⟩
theorem f61 (n : Nat) (r : R3) (hp : Heap) : evalCall Try.prog hints (n + 1) 61 [.agg r.cells] hp = some (.bool (mayR r), hp, false) := by
  rw [evalCall_at _ _ _ hh61 rfl Try.func61 rfl (Nat.le_of_ble_eq_true rfl) rfl]
  unfold mayR
  obtain ⟨o, a, b⟩ := r
  simp only [R3.cells] at *
  by_cases c1 : 1 ≤ o
  · by_cases c2 : o ≤ 8
    · by_cases c3 : 128 ≤ a
      · by_cases c4 : a < 16384
        · have w := wrap_id (x := 16384 - a) (by omega)
          by_cases c5 : 1 ≤ b
          · simp [c1, c2, c3, c4, c5, w]
          · simp [c1, c2, c3, c4, c5]
        · simp [c1, c2, c3, c4]
      · simp [c1, c2, c3]
    · simp [c1, c2]
  · simp [c1]
theorem f57 (n : Nat) (r : R3) (hp : Heap) (h : mayR r = true) : evalCall Try.prog hints (n + 1) 57 [.agg r.cells] hp = some (.agg (sp r).cells, hp, false) := by
  unfold mayR at h; simp only [decide_eq_true_eq] at h
  have w := wrap_id (x := r.a + r.b) (by omega)
  rw [evalCall_at _ _ _ hh57 rfl Try.func57 rfl (Nat.le_of_ble_eq_true rfl) rfl]
  unfold sp Sp.cells
  clear h
  obtain ⟨o, a, b⟩ := r
  simp only [R3.cells] at *
  simp [w]
theorem f23 (n : Nat) (r : R3) (hp : Heap) (h : mayR r = true) : evalCall Try.prog hints (n + 1) 23 [.agg r.cells] hp = some (.agg (sp r).cells, hp, false) := by
  unfold mayR at h; simp only [decide_eq_true_eq] at h
  have w := wrap_id (x := r.a + r.b) (by omega)
  rw [evalCall_at _ _ _ hh23 rfl Try.func23 rfl (Nat.le_of_ble_eq_true rfl) rfl]
  unfold sp Sp.cells
  clear h
  obtain ⟨o, a, b⟩ := r
  simp only [R3.cells] at *
  simp [w]
theorem f85 (n : Nat) (s : Sp) (hp : Heap) : evalCall Try.prog hints (n + 2) 85 [.agg s.cells] hp = some (.bool (!s.is), hp, false) := by
  have e := fun hp => f79 n s.a s.b hp
  rw [evalCall_at _ _ _ hh85 rfl Try.func85 rfl (Nat.le_of_ble_eq_true rfl) rfl]
  unfold Sp.is Sp.cells
  generalize decide (0 ≤ s.a ∧ s.a < s.b) = d at *
  simp [e]
theorem f118 (n j : Nat) (x y : Sp) (hp : Heap) (hj : hp[j]? = some (.cells x.cells)) : evalCall Try.prog hints (n + 3) 118 [.agg y.cells, .ptr (.heap j) none 0] hp = some (.bool (meetS y x), hp, false) := by
  have e := fun hp => f103 n y.a y.b x.a x.b hp
  rw [evalCall_at _ _ _ hh118 rfl Try.func118 rfl (Nat.le_of_ble_eq_true rfl) rfl]
  unfold meetS
  obtain ⟨a, b⟩ := x
  obtain ⟨a', b'⟩ := y
  simp only [Sp.cells] at *
  generalize both a' b' a b = B at *
  generalize meets a' b' a b = m at *
  simp [-getElem?_pos, List.getElem?_cons_zero, hj, e]
set_option maxHeartbeats 1000000 in
theorem f117 (n g : Nat) (cap : List PV) (q : Sp → Bool) (l : List Sp) (hp : Heap) (hl : l.length ≤ 40) (hn : 60 < n) (ho : (hints g).own = none) (hg : ∀ x ∈ l, ∃ H, evalCall Try.prog hints n g (.agg x.cells :: cap) hp = some (.bool (q x), H, false)) :
    evalCall Try.prog hints (n + 1) 117 [.sl .sh l.length (l.flatMap Sp.cells), .fn g cap] hp = some (.int .i64 (idxI (idx q l)), hp, false) := by
  rw [evalCall_at _ _ _ hh117 rfl Try.func117 rfl (Nat.le_of_ble_eq_true rfl) rfl]
  have lX := flat_len Sp.len l
  have rr := fun k h => flat_row Sp.len l k h
  rw [← idx_range]
  generalize l.flatMap Sp.cells = X at *
  simp
  rw [iter_idx (fun k => { fr := [(0, .sl .sh l.length X), (1, .fn g cap), (7, .int .i64 l.length), (8, .int .i64 k)], hp := hp, base := hp.length, dirty := false }) (fun k => (l[k]?).any q) (fun k => (.ret, { fr := [(4, .int .i64 k)], hp := hp, base := hp.length, dirty := false })) (.exit 0, { fr := [(0, .sl .sh l.length X), (1, .fn g cap), (7, .int .i64 l.length), (8, .int .i64 l.length), (9, .bool false)], hp := hp, base := hp.length, dirty := false }) l.length]
  · cases (List.range l.length).find? _ <;> simp [idxI]
  · simp
  · omega
  · intro k hk
    have r := rr k hk
    obtain ⟨H, e⟩ := hg l[k] (List.getElem_mem hk)
    have z : k * 2 + 2 ≤ l.length * 2 := by omega
    have w := wrap_id (x := (k : Int) + 1) (by omega)
    rw [List.getElem?_eq_getElem hk]
    simp only [Option.any_some]
    generalize q l[k] = b at *
    generalize l[k] = x at *
    obtain ⟨f, c⟩ := x
    simp only [Sp.cells] at *
    cases b <;> simp [hk, lX, r, e, z, w, ho]
  · simp
  · simp
  · simp
theorem any_idxI' {α : Type} (q : α → Bool) (l : List α) : l.any q = decide (0 ≤ idxI (idx q l)) := by
  cases hi : idx q l with
  | none => rw [idx_none.1 hi]; simp [idxI]
  | some k =>
    obtain ⟨h1, h2⟩ := idx_lt hi
    rw [List.any_eq_true.2 ⟨_, List.getElem_mem h1, h2⟩]
    simp [idxI]
theorem f84 (n g : Nat) (cap : List PV) (q : Sp → Bool) (l : List Sp) (hp : Heap) (hl : l.length ≤ 40) (hn : 60 < n) (ho : (hints g).own = none) (hg : ∀ x ∈ l, ∃ H, evalCall Try.prog hints n g (.agg x.cells :: cap) hp = some (.bool (q x), H, false)) :
    evalCall Try.prog hints (n + 2) 84 [.sl .sh l.length (l.flatMap Sp.cells), .fn g cap] hp = some (.bool (l.any q), hp, false) := by
  have e := f117 n g cap q l hp hl hn ho hg
  rw [evalCall_at _ _ _ hh84 rfl Try.func84 rfl (Nat.le_of_ble_eq_true rfl) rfl]
  generalize l.flatMap Sp.cells = X at *
  rw [any_idxI']
  generalize idxI (idx q l) = i at *
  simp [e, ho]
end Go.Proofs.Ytehemoachikpgaa
end

section
namespace Go.Proofs.Ytehemoachikpgaa
open Go Go.PS
def meetAt (l : List Sp) (k : Nat) : Bool := (l[k]?).any fun x => (l.take k).any fun y => meetS y x
def fst83 (l : List Sp) : Int × Int := match (List.range l.length).find? (meetAt l) with
  | some k => ((l[k]?).elim (-1) fun x => idxI (idx (fun y => meetS y x) (l.take k)), k)
  | none => (-1, -1)
def hpS (hp : Heap) (l : List Sp) (k : Nat) : Heap := hp ++ (l.take k).map fun s => PS.Node.cells s.cells
theorem hpS_succ (hp : Heap) (l : List Sp) (k : Nat) (h : k < l.length) : hpS hp l (k + 1) = hpS hp l k ++ [PS.Node.cells l[k].cells] := by
  unfold hpS; rw [List.take_succ_eq_append_getElem h, List.map_append, ← List.append_assoc]; rfl
set_option maxHeartbeats 1000000 in
theorem f83 (n : Nat) (l : List Sp) (hp : Heap) (hl : l.length ≤ 40) (hn : 60 < n) :
    ∃ H, evalCall Try.prog hints (n + 5) 83 [.sl .sh l.length (l.flatMap Sp.cells)] hp = some (.tup [.int .i64 (fst83 l).1, .int .i64 (fst83 l).2], H, false) := by
  obtain ⟨HP, hHP⟩ : ∃ HP : Nat → Heap, HP = hpS hp l := ⟨_, rfl⟩
  have h0 : HP 0 = hp := by rw [hHP]; unfold hpS; simp
  have hS : ∀ k (h : k < l.length), HP k ++ [PS.Node.cells l[k].cells] = HP (k + 1) := fun k h => by rw [hHP]; exact (hpS_succ hp l k h).symm
  have e := fun k (h : k < l.length) => f117 (n + 3) 118 [.ptr (.heap (HP k).length) none 0] (fun y => meetS y l[k]) (l.take k) (HP (k + 1)) (by rw [List.length_take]; omega) (by omega) rfl (fun y _ => ⟨_, f118 n (HP k).length l[k] y _ (by rw [← hS k h]; simp)⟩)
  refine ⟨match (List.range l.length).find? (meetAt l) with | some k => HP (k + 1) | none => HP l.length, ?_⟩
  rw [evalCall_at _ _ _ hh83 rfl Try.func83 rfl (Nat.le_of_ble_eq_true rfl) rfl]
  have lX := flat_len Sp.len l
  have rr := fun k h => flat_row Sp.len l k h
  have ft := fun k => flat_take Sp.len l k
  generalize l.flatMap Sp.cells = X at *
  simp
  rw [iter_idx (fun k => { fr := [(0, .sl .sh l.length X), (7, .sl .sh l.length X), (8, .int .i64 l.length), (9, .int .i64 k)], hp := HP k, base := hp.length, dirty := false }) (meetAt l) (fun k => (.ret, { fr := [(2, .int .i64 ((l[k]?).elim (-1) fun x => idxI (idx (fun y => meetS y x) (l.take k)))), (3, .int .i64 k)], hp := HP (k + 1), base := hp.length, dirty := false })) (.exit 0, { fr := [(0, .sl .sh l.length X), (7, .sl .sh l.length X), (8, .int .i64 l.length), (9, .int .i64 l.length), (10, .bool false)], hp := HP l.length, base := hp.length, dirty := false }) l.length]
  · unfold fst83
    cases (List.range l.length).find? (meetAt l) <;> simp
  · simp [h0]
  · omega
  · intro k hk
    have r := rr k hk
    have e := e k hk
    have hS := hS k hk
    have hlast : ∀ c : PS.Node, (HP k ++ [c])[(HP k).length]? = some c := fun c => by simp
    have hb : ¬ (HP k).length < hp.length := by rw [hHP]; unfold hpS; simp
    have z : k * 2 + 2 ≤ l.length * 2 := by omega
    have w := wrap_id (x := (k : Int) + 1) (by omega)
    have k1 : (k : Int) ≤ l.length := by omega
    have hlt : (l.take k).length = k := by rw [List.length_take]; omega
    rw [← ft k, hlt] at e
    have hm : meetAt l k = decide (0 ≤ idxI (idx (fun y => meetS y l[k]) (l.take k))) := by
      unfold meetAt; rw [List.getElem?_eq_getElem hk]; exact any_idxI' _ _
    rw [hm, List.getElem?_eq_getElem hk]
    simp only [Option.elim_some]
    generalize idxI (idx (fun y => meetS y l[k]) (l.take k)) = i at *
    clear hm ft rr
    generalize l[k] = x at *
    obtain ⟨f, c⟩ := x
    simp only [Sp.cells] at *
    by_cases c : 0 ≤ i
    · simp [-getElem?_pos, List.getElem?_cons_zero, hk, k1, lX, r, e, z, w, hS, hlast, hb, c]
    · simp [-getElem?_pos, List.getElem?_cons_zero, hk, k1, lX, r, e, z, w, hS, hlast, hb, c]
  · simp
  · simp
  · simp
/-- No two spans meet, and all are spans. -/
def apartB (l : List Sp) : Bool := !((List.range l.length).any (meetAt l)) && !(l.any fun s => !s.is)
theorem find_lt {p : Nat → Bool} {N k : Nat} (h : (List.range N).find? p = some k) : k < N ∧ p k = true :=
  ⟨List.mem_range.1 (List.mem_of_find?_eq_some h), by simpa using List.find?_some h⟩
theorem fst83_lt (l : List Sp) : decide ((fst83 l).1 < 0) = !((List.range l.length).any (meetAt l)) := by
  unfold fst83
  cases h : (List.range l.length).find? (meetAt l) with
  | none =>
    have : (List.range l.length).any (meetAt l) = false := by
      rw [Bool.eq_false_iff]; intro c
      obtain ⟨k, hk, e⟩ := List.any_eq_true.1 c
      have := List.find?_eq_none.1 h k hk
      exact this e
    rw [this]; rfl
  | some k =>
    obtain ⟨h1, h2⟩ := find_lt h
    have : (List.range l.length).any (meetAt l) = true := List.any_eq_true.2 ⟨k, List.mem_range.2 h1, h2⟩
    rw [this]
    show decide (((l[k]?).elim (-1) fun x => idxI (idx (fun y => meetS y x) (l.take k))) < 0) = false
    unfold meetAt at h2
    rw [List.getElem?_eq_getElem h1] at h2 ⊢
    simp only [Option.any_some, Option.elim_some] at *
    rw [any_idxI', decide_eq_true_eq] at h2
    exact decide_eq_false (by omega)
theorem f62 (n : Nat) (l : List Sp) (hp : Heap) (hl : l.length ≤ 40) (hn : 60 < n) :
    evalCall Try.prog hints (n + 6) 62 [.sl .sh l.length (l.flatMap Sp.cells)] hp = some (.bool (apartB l), hp, false) := by
  obtain ⟨H, e1⟩ := f83 n l hp hl hn
  have e2 : evalCall Try.prog hints (n + 5) 84 [.sl .sh l.length (l.flatMap Sp.cells), .fn 85 []] hp = _ := f84 (n + 3) 85 [] (fun s => !s.is) l hp hl (by omega) rfl (fun x _ => ⟨_, f85 (n + 1) x hp⟩)
  rw [evalCall_at _ _ _ hh62 rfl Try.func62 rfl (Nat.le_of_ble_eq_true rfl) rfl]
  unfold apartB
  rw [← fst83_lt]
  generalize l.flatMap Sp.cells = X at *
  generalize l.any _ = b at *
  generalize (fst83 l).1 = i at *
  generalize (fst83 l).2 = i2 at *
  by_cases c : i < 0
  · simp [e1, e2, c]
  · simp [e1, e2, c]
end Go.Proofs.Ytehemoachikpgaa
end

section
namespace Go.Proofs.Ytehemoachikpgaa
open Go Go.PS
theorem any_range_tk {α : Type} (p : α → Bool) (l : List α) (i : Nat) (h : i ≤ l.length) : ((List.range i).any fun k => (l[k]?).any p) = (l.take i).any p := by
  rw [← any_range p (l.take i), List.length_take, Nat.min_eq_left h]
  rw [Bool.eq_iff_iff, List.any_eq_true, List.any_eq_true]
  constructor
  · rintro ⟨k, hk, e⟩
    have hk' := List.mem_range.1 hk
    refine ⟨k, hk, ?_⟩
    rw [List.getElem?_take_of_lt hk']; exact e
  · rintro ⟨k, hk, e⟩
    have hk' := List.mem_range.1 hk
    refine ⟨k, hk, ?_⟩
    rw [List.getElem?_take_of_lt hk'] at e; exact e
def sameR (l : List R3) (k : Nat) (r : R3) : Bool := (l.take k).any fun y => decide (y.o = r.o)
def meetR (l : List R3) (k : Nat) (r : R3) : Bool := (l.take k).any fun y => meetS (sp y) (sp r)
/-- What is wrong with a row, by those ahead of it. -/
def stR (l : List R3) (k : Nat) : Int := match l[k]? with
  | none => 0
  | some r => if mayR r = false then 2 else if sameR l k r = true then 15 else if meetR l k r = true then 11 else 0
def badR (l : List R3) (k : Nat) : Bool := decide (stR l k ≠ 0)
def chk (l : List R3) : Int := match (List.range l.length).find? (badR l) with
  | some k => stR l k
  | none => 0
theorem stR_at {l : List R3} {k : Nat} (hk : k < l.length) : stR l k = if mayR l[k] = false then 2 else if sameR l k l[k] = true then 15 else if meetR l k l[k] = true then 11 else 0 := by
  unfold stR; rw [List.getElem?_eq_getElem hk]
theorem badR_may {l : List R3} {k : Nat} (hk : k < l.length) (h : badR l k = false) : mayR l[k] = true := by
  unfold badR at h
  simp only [ne_eq, decide_eq_false_iff_not, Decidable.not_not] at h
  rw [stR_at hk] at h
  cases hm : mayR l[k] with
  | true => rfl
  | false => rw [hm, if_pos rfl] at h; cases h
set_option maxHeartbeats 2000000 in
theorem f20 (n : Nat) (l : List R3) (hp : Heap) (hl : l.length ≤ 20) (hn : 60 < n) : evalCall Try.prog hints (n + 4) 20 [.sl .sh l.length (l.flatMap R3.cells)] hp = some (.int .i64 (chk l), hp, false) := by
  rw [evalCall_at _ _ _ hh20 rfl Try.func20 rfl (Nat.le_of_ble_eq_true rfl) rfl]
  have lX := flat_len R3.len l
  have rr := fun k h => flat_row R3.len l k h
  have g0 := fun k h => flat_get R3.len l k h 0 (by omega)
  have e23 := fun r (h : mayR r = true) => f23 (n + 2) r hp h
  have e63 := fun a b c d => f63 n a b c d hp
  unfold chk
  generalize l.flatMap R3.cells = X at *
  simp
  rw [iter_idxI (fun k => { fr := [(0, .sl .sh l.length X), (3, .int .i64 k)], hp := hp, base := hp.length, dirty := false }) (badR l) (fun k => (.ret, { fr := [(2, .int .i64 (stR l k))], hp := hp, base := hp.length, dirty := false })) (.exit 0, { fr := [(0, .sl .sh l.length X), (3, .int .i64 l.length), (10, .bool false)], hp := hp, base := hp.length, dirty := false }) l.length]
  · cases (List.range l.length).find? (badR l) <;> simp
  · simp
  · omega
  · intro k hk inv
    have r := rr k hk
    have hmay : ∀ j (h : j < k), mayR (l[j]'(by omega)) = true := fun j h => badR_may (by omega) (inv j h)
    have z : k * 3 + 3 ≤ l.length * 3 := by omega
    have w := wrap_id (x := (k : Int) + 1) (by omega)
    have hb : badR l k = decide (stR l k ≠ 0) := rfl
    rw [hb, stR_at hk]
    unfold sameR meetR
    rw [← any_range_tk _ l k (by omega), ← any_range_tk _ l k (by omega)]
    by_cases m : mayR l[k] = true
    · have mm := m
      unfold mayR at mm; simp only [decide_eq_true_eq] at mm
      rw [if_neg (by rw [m]; simp)]
      have e23k := e23 l[k] m
      obtain ⟨A, hA⟩ : ∃ A, A = (List.range k).any fun j => (l[j]?).any fun y => decide (y.o = l[k].o) := ⟨_, rfl⟩
      obtain ⟨B, hB⟩ : ∃ B, B = (List.range k).any fun j => (l[j]?).any fun y => meetS (sp y) (sp l[k]) := ⟨_, rfl⟩
      rw [← hA, ← hB]
      generalize l[k] = x at *
      obtain ⟨o, a, b⟩ := x
      simp only [R3.cells, sp, Sp.cells] at *
      have c1 : ¬ o < 1 := by omega
      have c2 : ¬ 8 < o := by omega
      have c3 : ¬ a < 128 := by omega
      have c4 : ¬ 16383 < a := by omega
      have c5 : ¬ b < 1 := by omega
      have c6 : ¬ 16384 - a < b := by omega
      have w1 := wrap_id (x := 16384 - a) (by omega)
      simp [-getElem?_pos, List.getElem?_cons_zero, hk, lX, r, z, c1, c2, c3, c4, c5, c6, w1]
      rw [iter_find' (fun j => { fr := [(0, .sl .sh l.length X), (3, .int .i64 k), (4, .box [.int .i64 o, .int .i64 a, .int .i64 b]), (5, .int .i64 j)], hp := hp, base := hp.length, dirty := false }) (fun j => (l[j]?).any fun y => decide (y.o = o)) (.ret, { fr := [(2, .int .i64 15)], hp := hp, base := hp.length, dirty := false }) (.exit 2, { fr := [(0, .sl .sh l.length X), (3, .int .i64 k), (4, .box [.int .i64 o, .int .i64 a, .int .i64 b]), (5, .int .i64 k), (50, .bool false)], hp := hp, base := hp.length, dirty := false }) k _ _ (by simp) (by omega) ?_ (by simp) (by simp) (by simp), ← hA]
      · cases A with
        | true => simp
        | false =>
          simp [-getElem?_pos, List.getElem?_cons_zero]
          rw [iter_find' (fun j => { fr := [(0, .sl .sh l.length X), (3, .int .i64 k), (4, .box [.int .i64 o, .int .i64 a, .int .i64 b]), (6, .int .i64 j)], hp := hp, base := hp.length, dirty := false }) (fun j => (l[j]?).any fun y => meetS ⟨y.a, y.a + y.b⟩ ⟨a, a + b⟩) (.ret, { fr := [(2, .int .i64 11)], hp := hp, base := hp.length, dirty := false }) (.exit 4, { fr := [(0, .sl .sh l.length X), (3, .int .i64 k), (4, .box [.int .i64 o, .int .i64 a, .int .i64 b]), (6, .int .i64 k), (63, .bool false)], hp := hp, base := hp.length, dirty := false }) k _ _ (by simp) (by omega) ?_ (by simp) (by simp) (by simp), ← hB]
          · cases B <;> simp [w]
          · intro j hj
            have hj' : j < l.length := by omega
            have rj := rr j hj'
            have ej := e23 l[j] (hmay j hj)
            have zj : j * 3 + 3 ≤ l.length * 3 := by omega
            have wj := wrap_id (x := (j : Int) + 1) (by omega)
            rw [List.getElem?_eq_getElem hj']
            simp only [Option.any_some]
            unfold meetS
            generalize l[j] = y at *
            obtain ⟨o', a', b'⟩ := y
            simp only at *
            have em := e63 a' (a' + b') a (a + b)
            generalize meets a' (a' + b') a (a + b) = mm at *
            cases mm <;> simp [-getElem?_pos, List.getElem?_cons_zero, hj, hj', lX, rj, zj, ej, e23k, em, wj]
      · intro j hj
        have hj' : j < l.length := by omega
        have gj := g0 j hj'
        have wj := wrap_id (x := (j : Int) + 1) (by omega)
        rw [List.getElem?_eq_getElem hj']
        simp only [Option.any_some]
        generalize l[j] = y at *
        obtain ⟨o', a', b'⟩ := y
        simp only [Nat.add_zero, List.getElem?_cons_zero] at gj
        by_cases c : o' = o
        · have c' : (o' == o) = true := by simp [c]
          rw [decide_eq_true c]
          simp [-getElem?_pos, List.getElem?_cons_zero, hj, hj', lX, gj, c', wj]
        · have c' : (o' == o) = false := by simp [c]
          rw [decide_eq_false c]
          simp [-getElem?_pos, List.getElem?_cons_zero, hj, hj', lX, gj, c', wj]
    · have mm := m
      unfold mayR at mm; simp only [decide_eq_true_eq] at mm
      rw [if_pos (by simpa using m)]
      generalize l[k] = x at *
      obtain ⟨o, a, b⟩ := x
      simp only [R3.cells] at *
      by_cases c1 : o < 1
      · simp [-getElem?_pos, List.getElem?_cons_zero, hk, lX, r, z, c1]
      by_cases c2 : 8 < o
      · simp [-getElem?_pos, List.getElem?_cons_zero, hk, lX, r, z, c1, c2]
      by_cases c3 : a < 128
      · simp [-getElem?_pos, List.getElem?_cons_zero, hk, lX, r, z, c1, c2, c3]
      by_cases c4 : 16383 < a
      · simp [-getElem?_pos, List.getElem?_cons_zero, hk, lX, r, z, c1, c2, c3, c4]
      by_cases c5 : b < 1
      · simp [-getElem?_pos, List.getElem?_cons_zero, hk, lX, r, z, c1, c2, c3, c4, c5]
      have c6 : 16384 - a < b := by omega
      have w1 := wrap_id (x := 16384 - a) (by omega)
      simp [-getElem?_pos, List.getElem?_cons_zero, hk, lX, r, z, c1, c2, c3, c4, c5, c6, w1]
  · simp
  · simp
  · simp
end Go.Proofs.Ytehemoachikpgaa
end

section
namespace Go.Proofs.Ytehemoachikpgaa
open Go Go.PS
theorem findK_int {α : Type} (f : α → Int) (x : Int) : ∀ l : List α, findK (.int .i64 x) (l.map fun r => PV.int .i64 (f r)) = some (idx (fun r => decide (f r = x)) l)
  | [] => rfl
  | r :: l => by
    rw [List.map_cons, findK, sameK, if_pos rfl, idx, findK_int f x l]
    by_cases c : f r = x
    · have : (x == f r) = true := by simp [c]
      rw [this, if_pos (decide_eq_true c)]
    · have : (x == f r) = false := by rw [beq_eq_false_iff_ne]; exact fun h => c h.symm
      rw [this, if_neg (by simp [c])]
      cases idx (fun r => decide (f r = x)) l <;> rfl
def keysR (l : List R3) : List PV := l.map fun r => .int .i64 r.o
def valsR (l : List R3) : List PV := l.map fun r => .agg r.cells
def hpR (hp : Heap) (l : List R3) : Heap := hp ++ [.map (keysR l) (valsR l), .cells [.mp hp.length]]
theorem apart_snoc (l : List Sp) (s : Sp) (h : apartB l = true) : apartB (l ++ [s]) = (!(l.any fun y => meetS y s) && s.is) := by
  unfold apartB at *
  rw [Bool.and_eq_true] at h
  obtain ⟨h1, h2⟩ := h
  have sing : ∀ {α : Type} (a : α) (p : α → Bool), [a].any p = p a := fun a p => by simp
  rw [List.length_append, List.length_singleton, List.range_succ, List.any_append, List.any_append, sing, sing]
  have e1 : ((List.range l.length).any (meetAt (l ++ [s]))) = (List.range l.length).any (meetAt l) := by
    rw [Bool.eq_iff_iff, List.any_eq_true, List.any_eq_true]
    constructor
    · rintro ⟨k, hk, e⟩
      have hk' := List.mem_range.1 hk
      refine ⟨k, hk, ?_⟩
      unfold meetAt at *
      rw [List.getElem?_append_left hk', List.take_append_of_le_length (by omega)] at e
      exact e
    · rintro ⟨k, hk, e⟩
      have hk' := List.mem_range.1 hk
      refine ⟨k, hk, ?_⟩
      unfold meetAt at *
      rw [List.getElem?_append_left hk', List.take_append_of_le_length (by omega)]
      exact e
  have e2 : meetAt (l ++ [s]) l.length = l.any fun y => meetS y s := by
    unfold meetAt
    rw [List.getElem?_append_right (Nat.le_refl _)]
    simp
  rw [e1, e2]
  have h1' : (List.range l.length).any (meetAt l) = false := by simpa using h1
  have h2' : (l.any fun s => !s.is) = false := by simpa using h2
  rw [h1', h2']
  simp
theorem sp_is {r : R3} (h : mayR r = true) : (sp r).is = true := by
  unfold mayR at h; simp only [decide_eq_true_eq] at h
  unfold sp Sp.is; simp only [decide_eq_true_eq]; omega
theorem badR_ok {l : List R3} {k : Nat} (hk : k < l.length) (h : badR l k = false) : mayR l[k] = true ∧ sameR l k l[k] = false ∧ meetR l k l[k] = false := by
  unfold badR at h
  simp only [ne_eq, decide_eq_false_iff_not, Decidable.not_not] at h
  rw [stR_at hk] at h
  cases hm : mayR l[k] with
  | false => rw [hm, if_pos rfl] at h; cases h
  | true =>
    rw [hm, if_neg (by simp)] at h
    cases hs : sameR l k l[k] with
    | true => rw [hs, if_pos rfl] at h; cases h
    | false =>
      rw [hs, if_neg (by simp)] at h
      cases hx : meetR l k l[k] with
      | true => rw [hx, if_pos rfl] at h; cases h
      | false => exact ⟨rfl, rfl, rfl⟩
theorem apart_pre {l : List R3} : ∀ {k : Nat}, k ≤ l.length → (∀ j, j < k → badR l j = false) → apartB ((l.take k).map sp) = true
  | 0, _, _ => rfl
  | k + 1, hk, h => by
    obtain ⟨h1, h2, h3⟩ := badR_ok (show k < l.length by omega) (h k (by omega))
    rw [List.take_succ_eq_append_getElem (by omega), List.map_append, List.map_singleton]
    rw [apart_snoc _ _ (apart_pre (by omega) fun j hj => h j (by omega)), sp_is h1, Bool.and_true, List.any_map]
    unfold meetR at h3
    show (!((l.take k).any fun y => meetS (sp y) (sp l[k]))) = true
    rw [h3]; rfl
end Go.Proofs.Ytehemoachikpgaa
end

section
namespace Go.Proofs.Ytehemoachikpgaa
open Go Go.PS
theorem flat_spl (l : List R3) : (l.map sp).flatMap Sp.cells = l.flatMap fun r => (sp r).cells := by rw [List.flatMap_map]
set_option maxHeartbeats 2000000 in
theorem f19g (n : Nat) (l : List R3) (hp : Heap) (hl : l.length ≤ 20) (hn : 60 < n) : evalCall Try.prog hints (n + 8) 19 [.sl .sh l.length (l.flatMap R3.cells)] hp = match (List.range l.length).find? (badR l) with
    | some k => some (.tup [.nilp, .int .i64 (stR l k)], hpR hp (l.take k), false)
    | none => some (.tup [.ptr (.heap (hp.length + 1)) none 0, .int .i64 0], hpR hp l, false) := by
  obtain ⟨HP, hHP⟩ : ∃ HP : Nat → Heap, HP = fun k => hpR hp (l.take k) := ⟨_, rfl⟩
  obtain ⟨SL, hSL⟩ : ∃ SL : Nat → List PV, SL = fun k => ((l.take k).map sp).flatMap Sp.cells := ⟨_, rfl⟩
  rw [evalCall_at _ _ _ hh19 rfl Try.func19 rfl (Nat.le_of_ble_eq_true rfl) rfl]
  have lX := flat_len R3.len l
  have rr := fun k h => flat_row R3.len l k h
  have e61 := fun k (h : k < l.length) => f61 (n + 6) l[k] (HP k)
  have e57 := fun k (h : k < l.length) (m : mayR l[k] = true) => f57 (n + 6) l[k] (HP k) m
  have h0 : hp ++ [PS.Node.map [] []] ++ [PS.Node.cells [.mp hp.length]] = HP 0 := by rw [hHP]; simp [hpR, keysR, valsR]
  have h0' : hp ++ [PS.Node.map [] [], PS.Node.cells [.mp hp.length]] = HP 0 := by rw [hHP]; simp [hpR, keysR, valsR]
  generalize l.flatMap R3.cells = X at *
  simp [h0, h0']
  rw [iter_idxI (fun k => { fr := [(4, .ptr (.heap (hp.length + 1)) none 0), (5, .sl (.mu 2) k (SL k)), (13, .sl .sh l.length X), (14, .int .i64 l.length), (15, .int .i64 k)], hp := HP k, base := hp.length, dirty := false }) (badR l) (fun k => (.ret, { fr := [(2, .nilp), (3, .int .i64 (stR l k))], hp := HP k, base := hp.length, dirty := false })) (.exit 0, { fr := [(4, .ptr (.heap (hp.length + 1)) none 0), (5, .sl (.mu 2) l.length (SL l.length)), (13, .sl .sh l.length X), (14, .int .i64 l.length), (15, .int .i64 l.length), (16, .bool false)], hp := HP l.length, base := hp.length, dirty := false }) l.length]
  · rw [hHP]
    cases (List.range l.length).find? (badR l) <;> simp
  · simp [hSL]
  · omega
  · intro k hk inv
    have r := rr k hk
    have e61 := e61 k hk
    have hlk : (l.take k).length = k := by rw [List.length_take]; omega
    have hmp : (HP k)[hp.length]? = some (.map (keysR (l.take k)) (valsR (l.take k))) := by rw [hHP]; simp [hpR]
    have hob : (HP k)[hp.length + 1]? = some (.cells [.mp hp.length]) := by rw [hHP]; simp [hpR]
    have hset : (HP k).set hp.length (.map (keysR (l.take k) ++ [.int .i64 l[k].o]) (valsR (l.take k) ++ [.agg l[k].cells])) = HP (k + 1) := by
      rw [hHP]; simp only [hpR]
      rw [List.take_succ_eq_append_getElem hk]
      simp only [keysR, valsR, List.map_append, List.map_cons, List.map_nil]
      rw [List.set_append_right _ _ (Nat.le_refl _), Nat.sub_self]; rfl
    have fk := findK_int R3.o l[k].o (l.take k)
    have ap := apart_pre (Nat.le_of_lt hk) inv
    have e62 := f62 (n + 1) ((l.take (k + 1)).map sp) (HP k) (by simp; omega) (by omega)
    have hS1 : SL (k + 1) = SL k ++ (sp l[k]).cells := by
      rw [hSL]; simp only
      rw [List.take_succ_eq_append_getElem hk, List.map_append, List.flatMap_append]; simp
    have lS : (SL k).length = k * 2 := by
      rw [hSL]; simp only
      rw [flat_len Sp.len, List.length_map, hlk]
    have aS : (SL k).all storable = true := by rw [hSL]; exact flat_all (f := Sp.cells) (fun _ => rfl) _
    have hSe : ((l.take (k + 1)).map sp).flatMap Sp.cells = SL (k + 1) := by rw [hSL]
    have hle : ((l.take (k + 1)).map sp).length = k + 1 := by simp; omega
    rw [hSe, hle, hS1, List.take_succ_eq_append_getElem hk, List.map_append, List.map_singleton, apart_snoc _ _ ap, List.any_map] at e62
    have hmm : ((l.take k).any ((fun y => meetS y (sp l[k])) ∘ sp)) = meetR l k l[k] := rfl
    rw [hmm] at e62
    have z : k * 3 + 3 ≤ l.length * 3 := by omega
    have w := wrap_id (x := (k : Int) + 1) (by omega)
    have m1 : (k + 1) * 16 ≤ 140737488355328 := by omega
    have hb : badR l k = decide (stR l k ≠ 0) := rfl
    have fk' : findK (.int .i64 l[k].o) (keysR (l.take k)) = _ := fk
    have e57 := e57 k hk
    have his := fun (h : mayR l[k] = true) => sp_is h
    rw [hb, stR_at hk]
    clear hHP hSL inv ap hb hSe hle hmm fk
    cases hm : mayR l[k] with
    | false =>
      rw [hm] at e61
      rw [if_pos rfl]
      generalize l[k] = x at *
      obtain ⟨o, a, b⟩ := x
      simp only [R3.cells] at *
      simp [-getElem?_pos, List.getElem?_cons_zero, hk, lX, r, z, e61]
    | true =>
      rw [hm] at e61
      have e57 := e57 hm
      have his := his hm
      rw [if_neg (by simp)]
      cases hs : sameR l k l[k] with
      | true =>
        rw [if_pos rfl]
        cases hi : idx (fun r : R3 => decide (r.o = l[k].o)) (l.take k) with
        | none =>
          have := idx_none.1 hi
          unfold sameR at hs
          rw [hs] at this; cases this
        | some j =>
          obtain ⟨hj, _⟩ := idx_lt hi
          have hv : (valsR (l.take k))[j]? = some (.agg ((l.take k)[j]).cells) := by
            unfold valsR
            rw [List.getElem?_map, List.getElem?_eq_getElem hj]; rfl
          rw [hi] at fk'
          generalize (l.take k)[j] = y at *
          generalize l[k] = x at *
          obtain ⟨o, a, b⟩ := x
          obtain ⟨o', a', b'⟩ := y
          simp only [R3.cells] at *
          simp [-getElem?_pos, List.getElem?_cons_zero, hk, lX, r, z, e61, hob, hmp, fk', hv]
      | false =>
        rw [if_neg (by simp)]
        have hi : idx (fun r : R3 => decide (r.o = l[k].o)) (l.take k) = none := idx_none.2 hs
        rw [hi] at fk'
        rw [his, Bool.and_true] at e62
        generalize meetR l k l[k] = M at *
        generalize l[k] = x at *
        obtain ⟨o, a, b⟩ := x
        simp only [R3.cells, sp, Sp.cells] at *
        rw [hS1]
        generalize SL k = S at *
        cases M with
        | true =>
          simp [-getElem?_pos, List.getElem?_cons_zero, hk, lX, r, z, e61, hob, hmp, fk', e57, lS, aS, m1, e62]
        | false =>
          simp [-getElem?_pos, List.getElem?_cons_zero, hk, lX, r, z, e61, hob, hmp, fk', e57, lS, aS, m1, e62, hset, w]
  · simp
  · simp
  · simp
end Go.Proofs.Ytehemoachikpgaa
end

section
namespace Go.Proofs.Ytehemoachikpgaa
open Go Go.PS
theorem fst_some {x : Option (PV × Heap × Bool)} {v : PV} {d : Bool} (h : x.map (fun r => (r.1, r.2.2)) = some (v, d)) : ∃ H, x = some (v, H, d) := by
  cases x with
  | none => cases h
  | some r =>
    obtain ⟨a, H, e⟩ := r
    simp only [Option.map_some, Option.some.injEq, Prod.mk.injEq] at h
    exact ⟨H, by rw [h.1, h.2]⟩
/-- An owner's row. -/
def ownI (l : List R3) (o : Int) : Option Nat := idx (fun r : R3 => decide (r.o = o)) l
def rowO (l : List R3) (o : Int) : R3 := match ownI l o with
  | some k => (l[k]?).getD ⟨0, 0, 0⟩
  | none => ⟨0, 0, 0⟩
def hasO (l : List R3) (o : Int) : Bool := (ownI l o).isSome
def errO (l : List R3) (o : Int) : Int := if hasO l o = true then 0 else 7
theorem f13 (n i j : Nat) (l : List R3) (o : Int) (hp : Heap) (hj : hp[j]? = some (.cells [.mp i])) (hi : hp[i]? = some (.map (keysR l) (valsR l))) :
    evalCall Try.prog hints (n + 1) 13 [.ptr (.heap j) none 0, .int .i64 o] hp = some (.tup [.agg (rowO l o).cells, .int .i64 (errO l o)], hp, false) := by
  have fk : findK (.int .i64 o) (keysR l) = some (ownI l o) := findK_int R3.o o l
  rw [evalCall_at _ _ _ hh13 rfl Try.func13 rfl (Nat.le_of_ble_eq_true rfl) rfl]
  unfold rowO errO hasO
  cases hx : ownI l o with
  | none =>
    rw [hx] at fk
    simp [-getElem?_pos, List.getElem?_cons_zero, hj, hi, fk, R3.cells]
  | some k =>
    rw [hx] at fk
    obtain ⟨hk, _⟩ := idx_lt hx
    have hv : (valsR l)[k]? = some (.agg (l[k]).cells) := by
      unfold valsR
      rw [List.getElem?_map, List.getElem?_eq_getElem hk]; rfl
    simp only [List.getElem?_eq_getElem hk, Option.getD_some, Option.isSome_some, if_true]
    generalize l[k] = x at *
    obtain ⟨o', a, b⟩ := x
    simp only [R3.cells] at *
    simp [-getElem?_pos, List.getElem?_cons_zero, hj, hi, fk, hv]
set_option maxHeartbeats 1000000 in
theorem f21 (n : Nat) (l : List R3) (o : Int) (hp : Heap) (hl : l.length ≤ 40) (hn : 60 < n) : evalCall Try.prog hints (n + 1) 21 [.sl .sh l.length (l.flatMap R3.cells), .int .i64 o] hp = some (.agg (rowO l o).cells, hp, false) := by
  rw [evalCall_at _ _ _ hh21 rfl Try.func21 rfl (Nat.le_of_ble_eq_true rfl) rfl]
  have lX := flat_len R3.len l
  have rr := fun k h => flat_row R3.len l k h
  have g0 := fun k h => flat_get R3.len l k h 0 (by omega)
  unfold rowO ownI
  rw [← idx_range]
  generalize l.flatMap R3.cells = X at *
  simp
  rw [iter_idx (fun k => { fr := [(0, .sl .sh l.length X), (1, .int .i64 o), (4, .box [.int .i64 0, .int .i64 0, .int .i64 0]), (5, .int .i64 k)], hp := hp, base := hp.length, dirty := false }) (fun k => (l[k]?).any fun r => decide (r.o = o)) (fun k => (.ret, { fr := [(4, .box ((l[k]?).getD ⟨0, 0, 0⟩).cells)], hp := hp, base := hp.length, dirty := false })) (.exit 0, { fr := [(0, .sl .sh l.length X), (1, .int .i64 o), (4, .box [.int .i64 0, .int .i64 0, .int .i64 0]), (5, .int .i64 l.length), (9, .bool false)], hp := hp, base := hp.length, dirty := false }) l.length]
  · cases (List.range l.length).find? _ <;> simp [R3.cells]
  · simp
  · omega
  · intro k hk
    have r := rr k hk
    have g := g0 k hk
    have z : k * 3 + 3 ≤ l.length * 3 := by omega
    have w := wrap_id (x := (k : Int) + 1) (by omega)
    rw [List.getElem?_eq_getElem hk]
    simp only [Option.any_some, Option.getD_some]
    generalize l[k] = x at *
    obtain ⟨o', a, b⟩ := x
    simp only [R3.cells, Nat.add_zero, List.getElem?_cons_zero] at *
    by_cases c : o' = o
    · have c' : (o' == o) = true := by simp [c]
      rw [decide_eq_true c]
      simp [-getElem?_pos, List.getElem?_cons_zero, hk, lX, r, g, z, w, c']
    · have c' : (o' == o) = false := by simp [c]
      rw [decide_eq_false c]
      simp [-getElem?_pos, List.getElem?_cons_zero, hk, lX, r, g, z, w, c']
  · simp
  · simp
  · simp
theorem rowO_may {l : List R3} {o : Int} (hm : ∀ r ∈ l, mayR r = true) (h : hasO l o = true) : mayR (rowO l o) = true ∧ (rowO l o).o = o := by
  unfold hasO at h
  unfold rowO
  cases hx : ownI l o with
  | none => rw [hx] at h; cases h
  | some k =>
    obtain ⟨hk, e⟩ := idx_lt hx
    simp only [List.getElem?_eq_getElem hk, Option.getD_some]
    exact ⟨hm _ (List.getElem_mem hk), by simpa using e⟩
theorem rowO_no {l : List R3} {o : Int} (h : hasO l o = false) : rowO l o = ⟨0, 0, 0⟩ := by
  unfold hasO at h
  unfold rowO
  cases hx : ownI l o with
  | none => rfl
  | some k => rw [hx] at h; cases h
theorem hasO_pos {l : List R3} {o : Int} (hm : ∀ r ∈ l, mayR r = true) (h : hasO l o = true) : 1 ≤ o ∧ o ≤ 8 := by
  obtain ⟨h1, h2⟩ := rowO_may hm h
  unfold mayR at h1; simp only [decide_eq_true_eq] at h1
  omega
/-- The place of an address. -/
def mapR (l : List R3) (o a m : Int) : Int × Int :=
  if hasO l o = false then (0, 7) else if m < 0 then (0, 2) else if a < 0 then (0, 6) else if (rowO l o).b < a then (0, 6) else if (rowO l o).b - a < m then (0, 6) else ((rowO l o).a + a, 0)
theorem f14 (n i j : Nat) (l : List R3) (o a m : Int) (hp : Heap) (hj : hp[j]? = some (.cells [.mp i])) (hi : hp[i]? = some (.map (keysR l) (valsR l))) (hm : ∀ r ∈ l, mayR r = true) :
    evalCall Try.prog hints (n + 2) 14 [.ptr (.heap j) none 0, .int .i64 o, .int .i64 a, .int .i64 m] hp = some (.tup [.int .i64 (mapR l o a m).1, .int .i64 (mapR l o a m).2], hp, false) := by
  have e := f13 n i j l o hp hj hi
  have rm := fun h => (rowO_may (o := o) hm h).1
  rw [evalCall_at _ _ _ hh14 rfl Try.func14 rfl (Nat.le_of_ble_eq_true rfl) rfl]
  unfold mapR
  unfold errO at e
  cases hh : hasO l o with
  | false =>
    rw [hh, if_neg (by simp)] at e
    generalize rowO l o = r at *
    obtain ⟨r1, r2, r3⟩ := r
    simp only [R3.cells] at *
    simp [-getElem?_pos, List.getElem?_cons_zero, e]
  | true =>
    rw [hh, if_pos rfl] at e
    have rm := rm hh
    unfold mayR at rm; simp only [decide_eq_true_eq] at rm
    generalize rowO l o = r at *
    obtain ⟨r1, r2, r3⟩ := r
    simp only [R3.cells] at *
    by_cases c1 : m < 0
    · simp [-getElem?_pos, List.getElem?_cons_zero, e, c1]
    by_cases c2 : a < 0
    · simp [-getElem?_pos, List.getElem?_cons_zero, e, c1, c2]
    by_cases c3 : r3 < a
    · simp [-getElem?_pos, List.getElem?_cons_zero, e, c1, c2, c3]
    have w1 := wrap_id (x := r3 - a) (by omega)
    have w2 := wrap_id (x := r2 + a) (by omega)
    by_cases c4 : r3 - a < m
    · simp [-getElem?_pos, List.getElem?_cons_zero, e, c1, c2, c3, c4, w1]
    · simp [-getElem?_pos, List.getElem?_cons_zero, e, c1, c2, c3, c4, w1, w2]
theorem f24 (n : Nat) (l : List R3) (o a m : Int) (hp : Heap) (hl : l.length ≤ 40) (hn : 60 < n) (hm : ∀ r ∈ l, mayR r = true) :
    evalCall Try.prog hints (n + 2) 24 [.sl .sh l.length (l.flatMap R3.cells), .int .i64 o, .int .i64 a, .int .i64 m] hp = some (.tup [.int .i64 (mapR l o a m).1, .int .i64 (mapR l o a m).2], hp, false) := by
  have e := f21 n l o hp hl hn
  have rm := fun h => (rowO_may (o := o) hm h)
  have rn := fun h => (rowO_no (l := l) (o := o) h)
  have ps := fun h => (hasO_pos (o := o) hm h)
  rw [evalCall_at _ _ _ hh24 rfl Try.func24 rfl (Nat.le_of_ble_eq_true rfl) rfl]
  unfold mapR
  generalize l.flatMap R3.cells = X at *
  cases hh : hasO l o with
  | false =>
    rw [rn hh] at *
    simp only [R3.cells] at *
    simp [-getElem?_pos, List.getElem?_cons_zero, e]
  | true =>
    have rm' := (rm hh).1
    have ro := (rm hh).2
    have ps := ps hh
    unfold mayR at rm'; simp only [decide_eq_true_eq] at rm'
    clear rm rn
    generalize rowO l o = r at *
    obtain ⟨r1, r2, r3⟩ := r
    simp only [R3.cells] at *
    have c0 : (r1 == 0) = false := by simp; omega
    by_cases c1 : m < 0
    · simp [-getElem?_pos, List.getElem?_cons_zero, e, c0, c1]
    by_cases c2 : a < 0
    · simp [-getElem?_pos, List.getElem?_cons_zero, e, c0, c1, c2]
    by_cases c3 : r3 < a
    · simp [-getElem?_pos, List.getElem?_cons_zero, e, c0, c1, c2, c3]
    have w1 := wrap_id (x := r3 - a) (by omega)
    have w2 := wrap_id (x := r2 + a) (by omega)
    by_cases c4 : r3 - a < m
    · simp [-getElem?_pos, List.getElem?_cons_zero, e, c0, c1, c2, c3, c4, w1]
    · simp [-getElem?_pos, List.getElem?_cons_zero, e, c0, c1, c2, c3, c4, w1, w2]
theorem f18 (n i j : Nat) (l : List R3) (o : Int) (hp : Heap) (hj : hp[j]? = some (.cells [.mp i])) (hi : hp[i]? = some (.map (keysR l) (valsR l))) (hm : ∀ r ∈ l, mayR r = true) :
    evalCall Try.prog hints (n + 2) 18 [.ptr (.heap j) none 0, .int .i64 o] hp = some (.agg (sp (rowO l o)).cells, hp, false) := by
  have e := f13 n i j l o hp hj hi
  have e57 := fun h => f57 n (rowO l o) hp h
  have rm := fun h => (rowO_may (o := o) hm h).1
  have rn := fun h => (rowO_no (l := l) (o := o) h)
  rw [evalCall_at _ _ _ hh18 rfl Try.func18 rfl (Nat.le_of_ble_eq_true rfl) rfl]
  unfold errO at e
  cases hh : hasO l o with
  | false =>
    rw [hh, if_neg (by simp)] at e
    rw [rn hh] at *
    simp only [R3.cells, sp, Sp.cells] at *
    simp [-getElem?_pos, List.getElem?_cons_zero, e]
  | true =>
    rw [hh, if_pos rfl] at e
    have e57 := e57 (rm hh)
    clear rm rn
    generalize rowO l o = r at *
    obtain ⟨r1, r2, r3⟩ := r
    simp only [R3.cells, sp, Sp.cells] at *
    simp [-getElem?_pos, List.getElem?_cons_zero, e, e57]
end Go.Proofs.Ytehemoachikpgaa
end

section
namespace Go.Proofs.Ytehemoachikpgaa
open Go Go.PS
theorem chk_some {l : List R3} {k : Nat} (h : (List.range l.length).find? (badR l) = some k) : chk l = stR l k ∧ stR l k ≠ 0 := by
  obtain ⟨h1, h2⟩ := find_lt h
  unfold chk
  rw [h]
  exact ⟨rfl, by unfold badR at h2; simpa using h2⟩
theorem chk_none {l : List R3} (h : (List.range l.length).find? (badR l) = none) : chk l = 0 ∧ ∀ r ∈ l, mayR r = true := by
  unfold chk
  rw [h]
  refine ⟨rfl, fun r hr => ?_⟩
  obtain ⟨i, hi, rfl⟩ := List.getElem_of_mem hr
  have := List.find?_eq_none.1 h i (List.mem_range.2 hi)
  exact badR_may hi (by simpa using this)
set_option maxHeartbeats 2000000 in
theorem f5 (n : Nat) (L : List R3) (o a m : Int) (hL : L.length ≤ maxLen) : fstR (evalCall Try.prog hints (n + 200) 5 [.sl .sh L.length (L.flatMap R3.cells), .int .i64 o, .int .i64 a, .int .i64 m] []) = some (.bool true) := by
  obtain ⟨l, hl⟩ : ∃ l, l = L.take 20 := ⟨_, rfl⟩
  have ll : l.length ≤ 20 := by rw [hl, List.length_take]; omega
  have ln : l.length = min L.length 20 := by rw [hl, List.length_take, Nat.min_comm]
  have hT : (L.flatMap R3.cells).take (l.length * 3) = l.flatMap R3.cells := by
    rw [flat_take R3.len, hl, List.length_take, Nat.min_comm, ]
    congr 1
    rw [List.take_eq_take_iff]; omega
  have hm : (if (20 : Int) < L.length then (20 : Int) else L.length) = (l.length : Int) := by split <;> omega
  have e19 : evalCall Try.prog hints (n + 199) 19 [.sl .sh l.length (l.flatMap R3.cells)] [] = _ := f19g (n + 191) l [] ll (by omega)
  have e20 : evalCall Try.prog hints (n + 199) 20 [.sl .sh l.length (l.flatMap R3.cells)] [] = _ := f20 (n + 195) l [] ll (by omega)
  have e20' : ∀ hp, evalCall Try.prog hints (n + 199) 20 [.sl .sh l.length (l.flatMap R3.cells)] hp = _ := fun hp => f20 (n + 195) l hp ll (by omega)
  rw [evalCall_at _ _ _ hh5 rfl Try.func5 rfl (Nat.le_of_ble_eq_true rfl) rfl]
  have lX := flat_len R3.len L
  have le : (l.length : Int) ≤ L.length := by omega
  have le' : l.length ≤ L.length := by omega
  cases hk : (List.range l.length).find? (badR l) with
  | some k =>
    obtain ⟨h1, h2⟩ := chk_some hk
    obtain ⟨H, e16⟩ := fst_some (live16b (n + 99))
    rw [hk] at e19
    simp only at e19
    rw [h1] at e20'
    generalize l.flatMap R3.cells = X at *
    generalize L.flatMap R3.cells = Y at *
    have h2' : (stR l k != 0) = true := by simp [h2]
    generalize stR l k = s at *
    simp [-getElem?_pos, List.getElem?_cons_zero, lX, le, le', hm, hT, e19, e20', e16, h2, h2']
  | none =>
    obtain ⟨h1, h2⟩ := chk_none hk
    rw [hk] at e19
    simp only at e19
    rw [h1] at e20'
    have e14 := f14 (n + 197) 0 1 l o a m (hpR [] l) rfl rfl h2
    have e24 := f24 (n + 197) l o a m (hpR [] l) (by omega) (by omega) h2
    have e18 := f18 (n + 197) 0 1 l o (hpR [] l) rfl rfl h2
    obtain ⟨H, e16⟩ := fst_some (live16a (n + 99) (keysR l) (valsR l) [.mp 0])
    have hpe : hpR [] l = [.map (keysR l) (valsR l), .cells [.mp 0]] := rfl
    rw [← hpe] at e16
    clear hpe
    have rm := fun h => rowO_may (o := o) h2 h
    have rn := fun h => rowO_no (l := l) (o := o) h
    have key : (o < 1 → mapR l o a m = (0, 7)) ∧ ((mapR l o a m).2 = 0 → (sp (rowO l o)).a ≤ (mapR l o a m).1 ∧ (mapR l o a m).1 ≤ (sp (rowO l o)).b ∧ m ≤ (sp (rowO l o)).b - (mapR l o a m).1 ∧ IntKind.i64.wrap ((sp (rowO l o)).b - (mapR l o a m).1) = (sp (rowO l o)).b - (mapR l o a m).1) := by
      refine ⟨fun ho => ?_, fun hq => ?_⟩
      · have : hasO l o = false := by
          cases hh : hasO l o with
          | false => rfl
          | true => have := hasO_pos h2 hh; omega
        unfold mapR; rw [if_pos this]
      · cases hh : hasO l o with
        | false => unfold mapR at hq; rw [if_pos hh] at hq; cases hq
        | true =>
          have r := (rm hh).1
          unfold mayR at r; simp only [decide_eq_true_eq] at r
          unfold mapR at hq ⊢
          rw [if_neg (by rw [hh]; simp)] at hq ⊢
          unfold sp
          simp only
          split at hq
          · cases hq
          split at hq
          · cases hq
          split at hq
          · cases hq
          split at hq
          · cases hq
          rename_i c1 c2 c3 c4
          rw [if_neg c1, if_neg c2, if_neg c3, if_neg c4]
          refine ⟨by show (rowO l o).a ≤ (rowO l o).a + a; omega, by show (rowO l o).a + a ≤ (rowO l o).a + (rowO l o).b; omega, by show m ≤ (rowO l o).a + (rowO l o).b - ((rowO l o).a + a); omega, wrap_id ?_⟩
          show _ ≤ (rowO l o).a + (rowO l o).b - ((rowO l o).a + a) ∧ (rowO l o).a + (rowO l o).b - ((rowO l o).a + a) ≤ _
          omega
    obtain ⟨k1, k2⟩ := key
    generalize l.flatMap R3.cells = X at *
    generalize L.flatMap R3.cells = Y at *
    generalize hpR [] l = HP at *
    clear rm rn
    generalize sp (rowO l o) = S at *
    obtain ⟨sa, sb⟩ := S
    simp only [Sp.cells] at *
    by_cases ho : o < 1
    · rw [k1 ho] at *
      simp [-getElem?_pos, List.getElem?_cons_zero, lX, le, le', hm, hT, e19, e20', e16, e14, e24, e18, ho]
    · clear k1
      generalize (mapR l o a m).1 = p at *
      generalize (mapR l o a m).2 = q at *
      by_cases hq : q = 0
      · obtain ⟨k3, k4, k5, k6⟩ := k2 hq
        have hq' : (q != 0) = false := by simp [hq]
        simp [-getElem?_pos, List.getElem?_cons_zero, lX, le, le', hm, hT, e19, e20', e16, e14, e24, e18, ho, hq', k3, k4, k5, k6]
      · have hq' : (q != 0) = true := by simp [hq]
        simp [-getElem?_pos, List.getElem?_cons_zero, lX, le, le', hm, hT, e19, e20', e16, e14, e24, e18, ho, hq']
end Go.Proofs.Ytehemoachikpgaa
end

section
namespace Go.Proofs.Ytehemoachikpgaa
open Go Go.PS
theorem stood24 : Try.prog.stoodInHeld 24 = false := by kernel_rfl
@[simp] theorem guard24 : Try.prog.eqGuardType Try.prog.depth 24 = false := by kernel_rfl
theorem stood36 : Try.prog.stoodInHeld 36 = false := by kernel_rfl
@[simp] theorem guard36 : Try.prog.eqGuardType Try.prog.depth 36 = false := by kernel_rfl
theorem stood58 : Try.prog.stoodInHeld 58 = false := by kernel_rfl
@[simp] theorem guard58 : Try.prog.eqGuardType Try.prog.depth 58 = false := by kernel_rfl
theorem eqi3 (d : Nat) (a b : Int) : eqT Try.prog (d + 1) 3 [.int .i64 a] [.int .i64 b] = some (a == b) := by simp only [eqT, Try.underlying3]; rfl
theorem eqT24 (a b c a' b' c' : Int) : eqT Try.prog 20 24 [.int .i64 a, .int .i64 b, .int .i64 c] [.int .i64 a', .int .i64 b', .int .i64 c'] = some (a == a' && (b == b' && c == c')) := by
  show eqT Try.prog (18 + 1 + 1) 24 _ _ = _
  unfold eqT
  rw [Try.underlying24]
  simp only [stood24]
  simp [eqi3, andL]
theorem eqT36 (a b a' b' : Int) : eqT Try.prog 20 36 [.int .i64 a, .int .i64 b] [.int .i64 a', .int .i64 b'] = some (a == a' && b == b') := by
  show eqT Try.prog (18 + 1 + 1) 36 _ _ = _
  unfold eqT
  rw [Try.underlying36]
  simp only [stood36]
  simp [eqi3, andL]
theorem eqT58 (a b c d e f g h i j a' b' c' d' e' f' g' h' i' j' : Int) : eqT Try.prog 20 58 [.int .i64 a, .int .i64 b, .int .i64 c, .int .i64 d, .int .i64 e, .int .i64 f, .int .i64 g, .int .i64 h, .int .i64 i, .int .i64 j] [.int .i64 a', .int .i64 b', .int .i64 c', .int .i64 d', .int .i64 e', .int .i64 f', .int .i64 g', .int .i64 h', .int .i64 i', .int .i64 j'] = some (a == a' && (b == b' && (c == c' && (d == d' && (e == e' && (f == f' && (g == g' && (h == h' && (i == i' && j == j'))))))))) := by
  show eqT Try.prog (18 + 1 + 1) 58 _ _ = _
  unfold eqT
  rw [Try.underlying58]
  simp only [stood58]
  simp [eqi3, andL]
end Go.Proofs.Ytehemoachikpgaa
end
