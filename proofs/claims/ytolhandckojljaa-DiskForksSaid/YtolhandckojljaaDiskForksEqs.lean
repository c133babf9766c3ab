/-
  What functions of this program compute, as equations about the evaluator. No condition but those stated.
-/
import Derived.Test.YtolhandckojljaaFacts
set_option linter.all false
section
/-
  A loop that looks for something.
-/
namespace Go.PS
theorem iter_find {body : St → Option (Ex × St)} (s : Nat → St) (p : Nat → Bool) (hit out : Ex × St) : ∀ (N fuel : Nat) (st : St), st = s 0 → N < fuel →
    (∀ k, k < N → p k = false → body (s k) = some (.normal, s (k + 1))) → (∀ k, k < N → p k = true → body (s k) = some hit) → body (s N) = some out → (hit.1 = .normal → False) → (out.1 = .normal → False) →
    iter body fuel st = some (if (List.range N).any p then hit else out)
  | _, 0, _, _, h, _, _, _, _, _ => by omega
  | 0, fuel + 1, st, h0, _, _, _, he, _, hn => by
    subst h0
    simp only [iter, he]
    split
    · rename_i h; cases h; exact (hn rfl).elim
    · rfl
  | N + 1, fuel + 1, st, h0, hf, hs, hh, he, hn1, hn2 => by
    subst h0
    cases hp : p 0 with
    | true =>
      simp only [iter, hh 0 (by omega) hp]
      rw [if_pos (List.any_eq_true.2 ⟨0, by simp, hp⟩)]
      split
      · rename_i h; cases h; exact (hn1 rfl).elim
      · rfl
    | false =>
      simp only [iter, hs 0 (by omega) hp]
      rw [iter_find (fun k => s (k + 1)) (fun k => p (k + 1)) hit out N fuel _ rfl (by omega) (fun k hk => hs (k + 1) (by omega)) (fun k hk => hh (k + 1) (by omega)) he hn1 hn2]
      congr 1
      have : (List.range (N + 1)).any p = (List.range N).any fun k => p (k + 1) := by
        rw [List.range_succ_eq_map, List.any_cons, hp, Bool.false_or, List.any_map]; rfl
      rw [this]
theorem iter_find' {body : St → Option (Ex × St)} (s : Nat → St) (p : Nat → Bool) (hit out : Ex × St) (N fuel : Nat) (st : St) (h0 : st = s 0) (hN : N < fuel)
    (hs : ∀ k, k < N → body (s k) = some (cond (p k) hit (.normal, s (k + 1)))) (ho : body (s N) = some out) (h1 : hit.1 = .normal → False) (h2 : out.1 = .normal → False) :
    iter body fuel st = some (cond ((List.range N).any p) hit out) := by
  rw [iter_find s p hit out N fuel st h0 hN (fun k hk h => by rw [hs k hk, h]; rfl) (fun k hk h => by rw [hs k hk, h]; rfl) ho h1 h2]
  cases (List.range N).any p <;> rfl
theorem find_succ (p : Nat → Bool) (N : Nat) : (List.range (N + 1)).find? p = if p 0 = true then some 0 else ((List.range N).find? fun k => p (k + 1)).map (· + 1) := by
  rw [List.range_succ_eq_map, List.find?_cons]
  cases p 0 with
  | true => rfl
  | false => simp [List.find?_map]; rfl
theorem iter_idx {body : St → Option (Ex × St)} (s : Nat → St) (p : Nat → Bool) (hit : Nat → Ex × St) (out : Ex × St) : ∀ (N fuel : Nat) (st : St), st = s 0 → N < fuel →
    (∀ k, k < N → body (s k) = some (cond (p k) (hit k) (.normal, s (k + 1)))) → body (s N) = some out → (∀ k, (hit k).1 = .normal → False) → (out.1 = .normal → False) →
    iter body fuel st = some (match (List.range N).find? p with | some k => hit k | none => out)
  | _, 0, _, _, h, _, _, _, _ => by omega
  | 0, fuel + 1, st, h0, _, _, he, _, hn => by
    subst h0
    simp only [iter, he]
    split
    · rename_i h; cases h; exact (hn rfl).elim
    · rfl
  | N + 1, fuel + 1, st, h0, hf, hs, he, hn1, hn2 => by
    subst h0
    have h0 := hs 0 (by omega)
    rw [find_succ]
    cases hp : p 0 with
    | true =>
      rw [hp] at h0
      simp only [cond_true] at h0
      simp only [iter, h0, if_true]
      split
      · rename_i h; exact (hn1 0 (by rw [Option.some.inj h])).elim
      · rfl
    | false =>
      rw [hp] at h0
      simp only [cond_false] at h0
      simp only [iter, h0, Bool.false_eq_true, if_false]
      rw [iter_idx (fun k => s (k + 1)) (fun k => p (k + 1)) (fun k => hit (k + 1)) out N fuel _ rfl (by omega) (fun k hk => hs (k + 1) (by omega)) he (fun k => hn1 (k + 1)) hn2]
      cases (List.range N).find? fun k => p (k + 1) <;> rfl
/-- Where the first one is that is so. -/
def idx {α : Type} (q : α → Bool) : List α → Option Nat
  | [] => none
  | a :: l => if q a = true then some 0 else (idx q l).map (· + 1)
theorem idx_range {α : Type} (q : α → Bool) : ∀ l : List α, (List.range l.length).find? (fun k => (l[k]?).any q) = idx q l
  | [] => rfl
  | a :: l => by
    rw [List.length_cons, find_succ, idx, ← idx_range q l]
    rfl
theorem idx_lt {α : Type} {q : α → Bool} : ∀ {l : List α} {i : Nat}, idx q l = some i → ∃ h : i < l.length, q l[i] = true
  | a :: l, i, h => by
    rw [idx] at h
    split at h
    · rename_i hq; cases h; exact ⟨by simp, hq⟩
    · cases hi : idx q l with
      | none => rw [hi] at h; cases h
      | some k =>
        rw [hi] at h
        cases h
        obtain ⟨h1, h2⟩ := idx_lt hi
        exact ⟨by simp; omega, by simpa using h2⟩
theorem idx_none {α : Type} {q : α → Bool} : ∀ {l : List α}, idx q l = none ↔ l.any q = false
  | [] => by simp [idx]
  | a :: l => by
    rw [idx, List.any_cons]
    cases hq : q a with
    | true => simp
    | false =>
      simp only [Bool.false_eq_true, if_false, Bool.false_or]
      rw [← idx_none (l := l)]
      cases idx q l <;> simp
def idxI (o : Option Nat) : Int := match o with | some k => k | none => -1
end Go.PS
end

section
namespace Go.Proofs.Ytolhandckojljaa
open Go Go.PS
/-- Does the window [a, b) hold x? -/
def holds (a b x : Int) : Bool := decide (0 ≤ a ∧ a ≤ x ∧ x < b)
theorem f60 (n : Nat) (a b x : Int) (hp : Heap) : evalCall Try.prog hints (n + 1) 60 [.agg [.int .i64 a, .int .i64 b], .int .i64 x] hp = some (.bool (holds a b x), hp, false) := by
  rw [evalCall_at _ _ _ hh60 rfl Try.func60 rfl (Nat.le_of_ble_eq_true rfl) rfl]
  unfold holds
  by_cases h1 : 0 ≤ a
  · have h1' : ¬ a < 0 := by omega
    by_cases h2 : a ≤ x
    · have h2' : ¬ x < a := by omega
      simp [h1, h2, h1', h2']
    · have h2' : x < a := by omega
      simp [h1, h2, h1', h2']
  · have h1' : a < 0 := by omega
    simp [h1, h1']
theorem f59 (n : Nat) (a b : Int) (hp : Heap) : evalCall Try.prog hints (n + 2) 59 [.agg [.int .i64 a, .int .i64 b]] hp = some (.bool (decide (0 ≤ a ∧ a < b)), hp, false) := by
  have e := fun hp => f60 n a b a hp
  rw [evalCall_at _ _ _ hh59 rfl Try.func59 rfl (Nat.le_of_ble_eq_true rfl) rfl]
  simp [e, holds]
/-- Do two windows meet? -/
def meets (a b c d : Int) : Bool := decide (0 ≤ a ∧ a < b) && decide (0 ≤ c ∧ c < d) && (holds a b c || holds c d a)
theorem f34 (n : Nat) (a b c d : Int) (hp : Heap) : evalCall Try.prog hints (n + 3) 34 [.agg [.int .i64 a, .int .i64 b], .agg [.int .i64 c, .int .i64 d]] hp = some (.bool (meets a b c d), hp, false) := by
  have e1 := fun hp => f59 n a b hp
  have e2 := fun hp => f59 n c d hp
  have e3 := fun hp => f60 (n + 1) a b c hp
  have e4 := fun hp => f60 (n + 1) c d a hp
  rw [evalCall_at _ _ _ hh34 rfl Try.func34 rfl (Nat.le_of_ble_eq_true rfl) rfl]
  unfold meets
  generalize decide (0 ≤ a ∧ a < b) = x at *
  generalize decide (0 ≤ c ∧ c < d) = y at *
  generalize holds a b c = z at *
  generalize holds c d a = w at *
  cases x <;> cases y <;> cases z <;> simp [e1, e2, e3, e4]
theorem f63 (n : Nat) (a b : Int) (hp : Heap) : evalCall Try.prog hints (n + 1) 63 [.agg [.int .i64 a, .int .i64 b]] hp = some (.bool (decide (0 ≤ a ∧ a < b)), hp, false) := by
  rw [evalCall_at _ _ _ hh63 rfl Try.func63 rfl (Nat.le_of_ble_eq_true rfl) rfl]
  by_cases h : 0 ≤ a
  · simp [h]
  · simp [h]
def both (a b c d : Int) : Int × Int := if meets a b c d = true then (max a c, min b d) else (0, 0)
theorem meets_max (a b c d : Int) : meets a b c d = (decide (0 ≤ a ∧ a < b) && decide (0 ≤ c ∧ c < d) && decide (0 ≤ max a c ∧ max a c < min b d)) := by
  unfold meets holds
  rw [Bool.eq_iff_iff]
  simp only [Bool.and_eq_true, Bool.or_eq_true, decide_eq_true_eq]
  omega
theorem f39 (n : Nat) (a b c d : Int) (hp : Heap) : evalCall Try.prog hints (n + 2) 39 [.agg [.int .i64 a, .int .i64 b], .agg [.int .i64 c, .int .i64 d]] hp = some (.tup [.agg [.int .i64 (both a b c d).1, .int .i64 (both a b c d).2], .bool (meets a b c d)], hp, false) := by
  have e1 := fun hp => f63 n a b hp
  have e2 := fun hp => f63 n c d hp
  have e3 := fun hp => f63 n (max a c) (min b d) hp
  have hm := meets_max a b c d
  unfold both
  have m1 : (if a < c then c else a) = max a c := by rw [Int.max_def]; split <;> split <;> omega
  have m2 : (if d < b then d else b) = min b d := by rw [Int.min_def]; split <;> split <;> omega
  rw [evalCall_at _ _ _ hh39 rfl Try.func39 rfl (Nat.le_of_ble_eq_true rfl) rfl]
  generalize decide (0 ≤ a ∧ a < b) = x at *
  generalize decide (0 ≤ c ∧ c < d) = y at *
  generalize decide (0 ≤ max a c ∧ max a c < min b d) = z at *
  generalize meets a b c d = q at *
  generalize max a c = m at *
  generalize min b d = k at *
  subst hm
  cases x
  · simp [e1]
  · cases y
    · simp [e1, e2]
    · cases z <;> simp [e1, e2, e3, m1, m2]
structure Pt where
  o : Int
  f : Int
  c : Int
def Pt.cells (p : Pt) : List PV := [.int .i64 p.o, .int .i64 p.f, .int .i64 p.c]
theorem Pt.len (p : Pt) : p.cells.length = 3 := rfl
def okP (p : Pt) : Bool := decide (1 ≤ p.o ∧ p.o ≤ 8 ∧ 0 ≤ p.c ∧ p.c ≤ 64 ∧ 0 ≤ p.f ∧ p.f ≤ 512 - p.c)
theorem f35 (n : Nat) (p : Pt) (hp : Heap) : evalCall Try.prog hints (n + 1) 35 [.agg p.cells] hp = some (.bool (okP p), hp, false) := by
  rw [evalCall_at _ _ _ hh35 rfl Try.func35 rfl (Nat.le_of_ble_eq_true rfl) rfl]
  obtain ⟨o, f, c⟩ := p
  simp only [Pt.cells, okP]
  by_cases c1 : 1 ≤ o
  · by_cases c2 : o ≤ 8
    · by_cases c3 : 0 ≤ c
      · by_cases c4 : c ≤ 64
        · have w := wrap_id (x := 512 - c) (by omega)
          by_cases c5 : 0 ≤ f
          · simp [c1, c2, c3, c4, c5, w]
          · simp [c1, c2, c3, c4, c5]
        · simp [c1, c2, c3, c4]
      · simp [c1, c2, c3]
    · simp [c1, c2]
  · simp [c1]
theorem f62 (n j : Nat) (o : Int) (p : Pt) (hp : Heap) (hj : hp[j]? = some [.int .i64 o]) : evalCall Try.prog hints (n + 1) 62 [.agg p.cells, .ptr (.heap j) none 0] hp = some (.bool (decide (p.o = o)), hp, false) := by
  rw [evalCall_at _ _ _ hh62 rfl Try.func62 rfl (Nat.le_of_ble_eq_true rfl) rfl]
  obtain ⟨o', f, c⟩ := p
  simp only [Pt.cells]
  simp [hj]
  rw [Bool.eq_iff_iff]
  simp
def meetP (p q : Pt) : Bool := meets p.f (p.f + p.c) q.f (q.f + q.c)
theorem f38 (n j : Nat) (p q : Pt) (hp : Heap) (hq : okP q = true) (hj : hp[j]? = some [.int .i64 p.f, .int .i64 (p.f + p.c)]) : evalCall Try.prog hints (n + 3) 38 [.agg q.cells, .ptr (.heap j) none 0] hp = some (.bool (meetP p q), hp, false) := by
  have e := fun hp => f39 n p.f (p.f + p.c) q.f (q.f + q.c) hp
  unfold okP at hq
  simp only [decide_eq_true_eq] at hq
  have w := wrap_id (x := q.f + q.c) (by omega)
  rw [evalCall_at _ _ _ hh38 rfl Try.func38 rfl (Nat.le_of_ble_eq_true rfl) rfl]
  obtain ⟨o', f, c⟩ := q
  unfold meetP
  generalize both _ _ _ _ = B at *
  generalize meets _ _ _ _ = m at *
  simp only [Pt.cells]
  simp [hj, e, w]
end Go.Proofs.Ytolhandckojljaa
end

section
namespace Go.Proofs.Ytolhandckojljaa
open Go Go.PS
set_option maxHeartbeats 1000000 in
theorem f61 (n g : Nat) (cap : List PV) (q : Pt → Bool) (l : List Pt) (hp : Heap) (hl : l.length ≤ 1000) (hn : 1001 < n) (ho : (hints g).own = none) (hg : ∀ x ∈ l, evalCall Try.prog hints n g (.agg x.cells :: cap) hp = some (.bool (q x), hp, false)) :
    evalCall Try.prog hints (n + 1) 61 [.sl .sh l.length (l.flatMap Pt.cells), .fn g cap] hp = some (.int .i64 (idxI (idx q l)), hp, false) := by
  rw [evalCall_at _ _ _ hh61 rfl Try.func61 rfl (Nat.le_of_ble_eq_true rfl) rfl]
  have lX := flat_len Pt.len l
  have rr := fun k h => flat_row Pt.len l k h
  rw [← idx_range]
  generalize l.flatMap Pt.cells = X at *
  simp
  rw [iter_idx (fun k => { fr := [(0, .sl .sh l.length X), (1, .fn g cap), (7, .int .i64 l.length), (8, .int .i64 k)], hp := hp, base := hp.length, dirty := false }) (fun k => (l[k]?).any q) (fun k => (.ret, { fr := [(4, .int .i64 k)], hp := hp, base := hp.length, dirty := false })) (.exit 0, { fr := [(0, .sl .sh l.length X), (1, .fn g cap), (7, .int .i64 l.length), (8, .int .i64 l.length), (9, .bool false)], hp := hp, base := hp.length, dirty := false }) l.length]
  · cases (List.range l.length).find? _ <;> simp [idxI]
  · simp
  · omega
  · intro k hk
    have r := rr k hk
    have e := hg l[k] (List.getElem_mem hk)
    have z : k * 3 + 3 ≤ l.length * 3 := by omega
    have w := wrap_id (x := (k : Int) + 1) (by omega)
    rw [List.getElem?_eq_getElem hk]
    simp only [Option.any_some]
    generalize q l[k] = b at *
    generalize l[k] = x at *
    obtain ⟨o, f, c⟩ := x
    simp only [Pt.cells] at *
    cases b <;> simp [hk, lX, r, e, z, w, ho]
  · simp
  · simp
  · simp
theorem f37 (n g : Nat) (cap : List PV) (q : Pt → Bool) (l : List Pt) (hp : Heap) (hl : l.length ≤ 1000) (hn : 1001 < n) (ho : (hints g).own = none) (hg : ∀ x ∈ l, evalCall Try.prog hints n g (.agg x.cells :: cap) hp = some (.bool (q x), hp, false)) :
    evalCall Try.prog hints (n + 2) 37 [.sl .sh l.length (l.flatMap Pt.cells), .fn g cap] hp = some (.bool (l.any q), hp, false) := by
  have e := f61 n g cap q l hp hl hn ho hg
  rw [evalCall_at _ _ _ hh37 rfl Try.func37 rfl (Nat.le_of_ble_eq_true rfl) rfl]
  generalize l.flatMap Pt.cells = X at *
  have h : l.any q = decide (0 ≤ idxI (idx q l)) := by
    cases hi : idx q l with
    | none => rw [idx_none.1 hi]; simp [idxI]
    | some k =>
      obtain ⟨h1, h2⟩ := idx_lt hi
      rw [List.any_eq_true.2 ⟨_, List.getElem_mem h1, h2⟩]
      simp [idxI]
  rw [h]
  generalize idxI (idx q l) = i at *
  simp [e, ho]
/-- A device. -/
structure Dv where
  parts : List Pt
  sec : List PV
  job : Option Nat
  from_ : Int
  nlog : Nat
  log : List PV
  a3 : Nat
  w3 : Bool
  a4 : Nat
  w4 : Bool
  ok4 : a4 = 4 ∨ a4 = 0 ∧ nlog = 0
/-- A row that its place owns: alone, or shared. -/
def tg : Bool → Nat → Tag
  | true, a => .ow a
  | false, a => .mu a
def mt (k n : Nat) : Nat := if n = 0 then 0 else k
theorem mt_ok (k n : Nat) : mt k n = k ∨ mt k n = 0 ∧ n = 0 := by
  unfold mt; split <;> simp_all
def jobP : Option Nat → PV
  | none => .nilp
  | some j => .ptr (.heap j) none 0
def Dv.cells (d : Dv) : List PV := .sl (tg d.w3 d.a3) d.parts.length (d.parts.flatMap Pt.cells) :: (d.sec ++ [jobP d.job, .int .i64 d.from_, .sl (tg d.w4 d.a4) d.nlog d.log])
def Pt.zero : Pt := ⟨0, 0, 0⟩
/-- The part of an owner, and whether it has one. -/
def find (l : List Pt) (o : Int) : Pt × Int := match idx (fun p : Pt => decide (p.o = o)) l with
  | some k => (l.getD k Pt.zero, 0)
  | none => (Pt.zero, 7)
theorem f36nil (n : Nat) (o : Int) (hp : Heap) : evalCall Try.prog hints (n + 1) 36 [.nilp, .int .i64 o] hp = some (.tup [.agg Pt.zero.cells, .int .i64 1], hp ++ [[.int .i64 o]], false) := by
  rw [evalCall_at _ _ _ hh36 rfl Try.func36 rfl (Nat.le_of_ble_eq_true rfl) rfl]
  simp [Pt.zero, Pt.cells]
set_option maxHeartbeats 1000000 in
theorem f36 (n i : Nat) (o : Int) (d : Dv) (hp : Heap) (hi : hp[i]? = some d.cells) (hl : d.parts.length ≤ 1000) (hn : 1001 < n) : evalCall Try.prog hints (n + 3) 36 [.ptr (.heap i) none 0, .int .i64 o] hp = some (.tup [.agg (find d.parts o).1.cells, .int .i64 (find d.parts o).2], hp ++ [[.int .i64 o]], false) := by
  have hlt : i < hp.length := (List.getElem?_eq_some_iff.1 hi).1
  have hi1 : (hp ++ [[.int .i64 o]])[i]? = some d.cells := by rw [List.getElem?_append_left hlt]; exact hi
  have hj : (hp ++ [[.int .i64 o]])[hp.length]? = some [.int .i64 o] := by simp
  have hj' : ∀ x, ((hp ++ [[PV.int .i64 o]]).set i x)[hp.length]? = some [.int .i64 o] := fun x => by rw [List.getElem?_set_ne (by omega)]; exact hj
  have e := fun x => f61 (n + 1) 62 [.ptr (.heap hp.length) none 0] (fun p : Pt => decide (p.o = o)) d.parts ((hp ++ [[PV.int .i64 o]]).set i x) hl (by omega) (by rw [hh62]; rfl) (fun y _ => f62 n hp.length o y _ (hj' x))
  have e0 := f61 (n + 1) 62 [.ptr (.heap hp.length) none 0] (fun p : Pt => decide (p.o = o)) d.parts (hp ++ [[PV.int .i64 o]]) hl (by omega) (by rw [hh62]; rfl) (fun y _ => f62 n hp.length o y _ hj)
  rw [evalCall_at _ _ _ hh36 rfl Try.func36 rfl (Nat.le_of_ble_eq_true rfl) rfl]
  have lX := flat_len Pt.len d.parts
  have rr := fun k h => flat_row Pt.len d.parts k h
  unfold find
  have hx := fun k => @idx_lt Pt (fun p : Pt => decide (p.o = o)) d.parts k
  generalize idx _ d.parts = ix at *
  simp only [Dv.cells] at *
  generalize d.parts.flatMap Pt.cells = X at *
  generalize hY : (d.sec ++ _ : List PV) = Y at *
  generalize d.a3 = g at *
  generalize d.w3 = gw at *
  cases ix with
  | none =>
    simp only [idxI] at e e0 ⊢
    cases gw <;> simp [tg, hi1, e, e0, Pt.zero, Pt.cells]
  | some k =>
    obtain ⟨hk, -⟩ := hx k rfl
    have hk0 : ¬ ((k : Int) < 0) := by omega
    have r := rr k hk
    have z : k * 3 + 3 ≤ d.parts.length * 3 := by omega
    simp only [idxI] at e e0 ⊢
    have hD : d.parts.getD k Pt.zero = d.parts[k] := by rw [List.getD_eq_getElem?_getD, List.getElem?_eq_getElem hk]; rfl
    rw [hD]
    generalize d.parts[k] = x at *
    obtain ⟨o', f, c⟩ := x
    simp only [Pt.cells] at *
    cases gw <;> simp [tg, hi1, e, e0, hk, hk0, lX, r, z]
end Go.Proofs.Ytolhandckojljaa
end

section
namespace Go.Proofs.Ytolhandckojljaa
open Go Go.PS
def chkR (pre : List Pt) : List Pt → Int
  | [] => 0
  | p :: l => if okP p = false then 2 else if pre.any (fun q => decide (q.o = p.o)) = true then 15 else if pre.any (meetP p) = true then 11 else chkR (pre ++ [p]) l
def zsec : List PV := List.replicate 8192 (.int .u8 0)
def D0 (l : List Pt) : Dv := ⟨l, zsec, none, 0, 0, [], mt 3 l.length, false, 0, false, .inr ⟨rfl, rfl⟩⟩
set_option maxRecDepth 1000000 in
theorem zt97 : z97.all lasting = true := by kernel_rfl
theorem z97_D0 : z97 = (D0 []).cells := by
  simp only [z97, Dv.cells, D0, zsec, List.cons_append, List.nil_append, List.append_assoc, List.flatMap_nil, List.length_nil, jobP]
  rfl
theorem chk_step {l : List Pt} {k : Nat} (h : k < l.length) : chkR (l.take k) (l.drop k) = if okP l[k] = false then 2 else if (l.take k).any (fun q => decide (q.o = l[k].o)) = true then 15 else if (l.take k).any (meetP l[k]) = true then 11 else chkR (l.take (k + 1)) (l.drop (k + 1)) := by
  rw [List.drop_eq_getElem_cons h, chkR, List.take_succ_eq_append_getElem h]
theorem find_any (l : List Pt) (o : Int) : (find l o).2 = if l.any (fun q => decide (q.o = o)) = true then 0 else 7 := by
  unfold find
  cases h : idx (fun p : Pt => decide (p.o = o)) l with
  | none => rw [idx_none.1 h]; rfl
  | some k =>
    obtain ⟨h1, h2⟩ := idx_lt h
    rw [List.any_eq_true.2 ⟨_, List.getElem_mem h1, h2⟩]; rfl
def frN (l : List Pt) (X : List PV) (hp : Heap) (x : Nat × Heap) : St := { fr := [(4, .ptr (.heap hp.length) none 0), (12, .sl .sh l.length X), (13, .int .i64 l.length), (14, .int .i64 x.1)], hp := x.2, base := hp.length, dirty := false }
set_option maxHeartbeats 2000000 in
theorem f15 (n : Nat) (l : List Pt) (hp : Heap) (hl : l.length ≤ 100) (hn : 1101 < n) :
    ∃ H r, evalCall Try.prog hints (n + 6) 15 [.sl .sh l.length (l.flatMap Pt.cells)] hp = some (r, H, false) ∧ (chkR [] l = 0 → r = .tup [.ptr (.heap hp.length) none 0, .int .i64 0] ∧ H[hp.length]? = some (D0 l).cells ∧ hp.length < H.length ∧ ∀ j, j < hp.length → H[j]? = hp[j]?) ∧ (chkR [] l ≠ 0 → r = .tup [.nilp, .int .i64 (chkR [] l)]) := by
  obtain ⟨E, hE⟩ : ∃ E, E = chkR [] l := ⟨_, rfl⟩
  rw [← hE]
  rw [evalCall_at _ _ _ hh15 rfl Try.func15 rfl (Nat.le_of_ble_eq_true rfl) rfl]
  have lX := flat_len Pt.len l
  have rr := fun k h => flat_row Pt.len l k h
  generalize l.flatMap Pt.cells = X at *
  simp [-List.all_eq_true, zt97]
  generalize hit : iter _ _ _ = R
  refine iter_elim hit (frN l X hp) (fun x => x.1 ≤ l.length ∧ x.2[hp.length]? = some (D0 (l.take x.1)).cells ∧ hp.length < x.2.length ∧ (∀ j, j < hp.length → x.2[j]? = hp[j]?) ∧ (∀ q ∈ l.take x.1, okP q = true) ∧ chkR (l.take x.1) (l.drop x.1) = E) (fun x => l.length - x.1)
    (fun x : Heap × Bool => if x.2 then (.exit 0, { fr := [(4, .ptr (.heap hp.length) none 0), (12, .sl .sh l.length X), (13, .int .i64 l.length), (14, .int .i64 l.length), (15, .bool false)], hp := x.1, base := hp.length, dirty := false })
      else (.ret, { fr := [(2, .nilp), (3, .int .i64 E)], hp := x.1, base := hp.length, dirty := false }))
    (fun x => if x.2 then E = 0 ∧ x.1[hp.length]? = some (D0 l).cells ∧ hp.length < x.1.length ∧ ∀ j, j < hp.length → x.1[j]? = hp[j]? else E ≠ 0) (0, hp ++ [z97]) ?_ ?_ ?_ ?_ ?_
  · simp [frN]
  · refine ⟨by simp, by simp [z97_D0], by simp, fun j hj => ?_, by simp, by simp [hE]⟩
    simp only
    rw [List.getElem?_append_left hj]
  · simp only; omega
  · rintro ⟨k, H⟩ ⟨h1, h2, h3, h4, h5, h6⟩
    simp only at h1 h2 h3 h4 h5 h6
    by_cases hk : k < l.length
    · rw [chk_step hk] at h6
      have hT : (l.take k).length = k := by rw [List.length_take]; omega
      have r := rr k hk
      have z : k * 3 + 3 ≤ l.length * 3 := by omega
      have w := wrap_id (x := (k : Int) + 1) (by omega)
      have hk' : (k : Int) < l.length := by omega
      have e35 := fun hp => f35 (n + 4) l[k] hp
      have e36 := f36 (n + 2) hp.length l[k].o (D0 (l.take k)) H h2 (by simp only [D0]; omega) (by omega)
      have ff := find_any (l.take k) l[k].o
      by_cases c1 : okP l[k] = false
      · rw [if_pos c1] at h6
        right
        refine ⟨(H, false), ?_, by simp, ?_⟩
        · rw [c1] at e35
          generalize l[k] = p at *
          obtain ⟨o, f, c⟩ := p
          simp only [Pt.cells] at *
          simp [frN, hk, hk', lX, r, z, e35, h6]
        · simp only [Bool.false_eq_true, if_false]; omega
      rw [if_neg c1] at h6
      have c1' : okP l[k] = true := by simpa using c1
      rw [c1'] at e35
      by_cases c2 : (l.take k).any (fun q => decide (q.o = l[k].o)) = true
      · rw [if_pos c2] at h6 ff
        right
        refine ⟨(H, false), ?_, by simp, ?_⟩
        · simp only [D0] at e36
          rw [ff] at e36
          generalize (find (l.take k) l[k].o).1 = fp at *
          generalize l[k] = p at *
          obtain ⟨o, f, c⟩ := p
          obtain ⟨fo, f1, fc⟩ := fp
          simp only [Pt.cells] at *
          simp [frN, hk, hk', lX, r, z, e35, e36, h6]
        · simp only [Bool.false_eq_true, if_false]; omega
      rw [if_neg c2] at h6 ff
      have hok : 0 ≤ l[k].f ∧ l[k].f ≤ 512 ∧ 0 ≤ l[k].c ∧ l[k].c ≤ 64 := by
        unfold okP at c1'; simp only [decide_eq_true_eq] at c1'; omega
      have w2 := wrap_id (x := l[k].f + l[k].c) (by omega)
      have hj : ∀ x, ((H ++ [[PV.int .i64 l[k].f, .int .i64 (l[k].f + l[k].c)]]).set hp.length x)[H.length]? = some [.int .i64 l[k].f, .int .i64 (l[k].f + l[k].c)] := fun x => by
        rw [List.getElem?_set_ne (by omega)]; simp
      have e37 := fun x => f37 (n + 3) 38 [.ptr (.heap H.length) none 0] (meetP l[k]) (l.take k) ((H ++ [[PV.int .i64 l[k].f, .int .i64 (l[k].f + l[k].c)]]).set hp.length x) (by omega) (by omega) (by rw [hh38]; rfl) (fun y hy => f38 n H.length l[k] y _ (h5 y hy) (hj x))
      have hset : ∀ x, ((H ++ [[PV.int .i64 l[k].f, .int .i64 (l[k].f + l[k].c)]]).set hp.length x)[hp.length]? = some x := fun x => List.getElem?_set_self (by simp; omega)
      have hcell : (H ++ [[PV.int .i64 l[k].f, .int .i64 (l[k].f + l[k].c)]])[hp.length]? = some (D0 (l.take k)).cells := by rw [List.getElem?_append_left h3]; exact h2
      have hnl : ¬ H.length < hp.length := by omega
      have hlast : ∀ x : List PV, (H ++ [x])[H.length]? = some x := fun x => by simp
      have lK := flat_len Pt.len (l.take k)
      rw [hT] at lK
      by_cases c3 : (l.take k).any (meetP l[k]) = true
      · rw [if_pos c3] at h6
        right
        refine ⟨(H ++ [[PV.int .i64 l[k].f, .int .i64 (l[k].f + l[k].c)]], false), ?_, by simp, ?_⟩
        · simp only [D0] at e36
          rw [ff] at e36
          rw [c3] at e37
          simp only [D0, Dv.cells, hT, tg] at h2 hcell hset hj e37
          generalize (l.take k).flatMap Pt.cells = XK at *
          generalize (find (l.take k) l[k].o).1 = fp at *
          generalize hY : (zsec ++ _ : List PV) = Y at *
          generalize mt 3 k = g at *
          generalize l[k] = p at *
          obtain ⟨o, f, c⟩ := p
          obtain ⟨fo, f1, fc⟩ := fp
          simp only [Pt.cells] at *
          simp [-getElem?_pos, List.getElem?_cons_zero, frN, hk, hk', lX, r, z, e35, e36, e37, h6, w2, hcell, hnl, hlast]
        · simp only [Bool.false_eq_true, if_false]; omega
      rw [if_neg c3] at h6
      have c3' : (l.take k).any (meetP l[k]) = false := by simpa using c3
      left
      refine ⟨(k + 1, (H ++ [[PV.int .i64 l[k].f, .int .i64 (l[k].f + l[k].c)]]).set hp.length (D0 (l.take (k + 1))).cells), ?_, ⟨by omega, hset _, by simp; omega, fun j hj => ?_, fun q hq => ?_, h6⟩, by simp only; omega⟩
      · have hT1 : (l.take (k + 1)).length = k + 1 := by rw [List.length_take]; omega
        have sn : (l.take (k + 1)).flatMap Pt.cells = (l.take k).flatMap Pt.cells ++ l[k].cells := by rw [List.take_succ_eq_append_getElem hk, List.flatMap_append]; simp
        simp only [D0] at e36
        rw [ff] at e36
        rw [c3'] at e37
        have m1 : (k + 1) * 24 ≤ 140737488355328 := by omega
        have a1 : k * 3 + 3 = (k + 1) * 3 := by omega
        have z' : (k + 1) * 3 ≤ l.length * 3 := by omega
        have og := mt_ok 3 k
        have og1 : mt 3 (k + 1) = 3 := rfl
        simp only [D0, Dv.cells, hT, hT1, sn, og1, tg] at h2 hcell hset hj e37 ⊢
        generalize (l.take k).flatMap Pt.cells = XK at *
        generalize (find (l.take k) l[k].o).1 = fp at *
        generalize hY : (zsec ++ _ : List PV) = Y at *
        generalize mt 3 k = g at *
        generalize l[k] = p at *
        obtain ⟨o, f, c⟩ := p
        obtain ⟨fo, f1, fc⟩ := fp
        simp only [Pt.cells] at *
        simp [-getElem?_pos, List.getElem?_cons_zero, frN, hk, hk', lX, lK, r, z, w, e35, e36, e37, w2, hcell, hnl, hlast, m1, a1, og, z', hset]

      · simp only
        rw [List.getElem?_set_ne (by omega), List.getElem?_append_left (by omega)]
        exact h4 j hj
      · rw [List.take_succ_eq_append_getElem hk] at hq
        rcases List.mem_append.1 hq with hq | hq
        · exact h5 q hq
        · simp only [List.mem_singleton] at hq
          rw [hq]; exact c1'
    · right
      have : k = l.length := by omega
      subst this
      refine ⟨(H, true), ?_, by simp, ?_⟩
      · simp [frN]
      · simp only [if_true]
        rw [List.drop_length, chkR] at h6
        rw [List.take_length] at h2
        exact ⟨h6.symm, h2, h3, h4⟩
  · rintro ⟨H, b⟩ rfl h
    cases b with
    | true =>
      simp only [if_true] at h ⊢
      obtain ⟨h1, h2, h3, h4⟩ := h
      exact ⟨H, .tup [.ptr (.heap hp.length) none 0, .int .i64 0], by simp, fun _ => ⟨rfl, h2, h3, h4⟩, fun h => (h h1).elim⟩
    | false =>
      simp only [Bool.false_eq_true, if_false] at h ⊢
      exact ⟨H, .tup [.nilp, .int .i64 E], by simp, fun h' => (h h').elim, fun _ => rfl⟩
end Go.Proofs.Ytolhandckojljaa
end
