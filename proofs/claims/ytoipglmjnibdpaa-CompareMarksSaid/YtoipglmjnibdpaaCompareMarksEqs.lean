/-
  What functions of this program compute, as equations about the evaluator. No condition but those stated.
-/
import Derived.Test.YtoipglmjnibdpaaFacts
set_option linter.all false
section
namespace Go.Proofs.Ytoipglmjnibdpaa
open Go Go.PS
structure Mk where
  tick : Int
  sort : Int
  a : Int
  b : Int
  n : Int
  data : List UInt8
  deriving DecidableEq
def Mk.cells (m : Mk) : List PV := [.int .i64 m.tick, .int .u8 m.sort, .int .i64 m.a, .int .i64 m.b, .int .i64 m.n, .str m.data]
def Mk.zero : Mk := ⟨0, 0, 0, 0, 0, []⟩
theorem Mk.len (m : Mk) : m.cells.length = 6 := rfl
theorem stood36 : Try.prog.stoodInHeld 36 = false := by kernel_rfl
@[simp] theorem guard36 : Try.prog.eqGuardType Try.prog.depth 36 = false := by kernel_rfl
theorem eq3 (d : Nat) (a b : Int) : eqT Try.prog (d + 1) 3 [.int .i64 a] [.int .i64 b] = some (a == b) := by simp only [eqT, Try.underlying3]; rfl
theorem eq34 (d : Nat) (a b : Int) : eqT Try.prog (d + 1) 34 [.int .u8 a] [.int .u8 b] = some (a == b) := by simp only [eqT, Try.underlying34]; rfl
theorem eq9 (d : Nat) (a b : List UInt8) : eqT Try.prog (d + 1) 9 [.str a] [.str b] = some (a == b) := by simp only [eqT, Try.underlying9]
theorem eqM (x y : Mk) : eqT Try.prog 20 36 x.cells y.cells = some (decide (x = y)) := by
  obtain ⟨x1, x2, x3, x4, x5, x6⟩ := x
  obtain ⟨y1, y2, y3, y4, y5, y6⟩ := y
  show eqT Try.prog (18 + 1 + 1) 36 _ _ = _
  unfold eqT
  rw [Try.underlying36]
  simp only [stood36, Mk.cells]
  simp [eq3, eq34, eq9, andL]
  rw [Bool.eq_iff_iff]
  simp
/-- Where rows of marks part. -/
def diff : List Mk → List Mk → Nat → Int
  | x :: xs, y :: ys, i => if x = y then diff xs ys (i + 1) else i
  | [], [], _ => -1
  | _, _, i => i
def atM (l : List Mk) (i : Nat) : Mk := l.getD i Mk.zero
theorem f63 (n : Nat) (l : List Mk) (i : Nat) (hp : Heap) : evalCall Try.prog hints (n + 1) 63 [.sl .sh l.length (l.flatMap Mk.cells), .int .i64 i] hp = some (.agg (atM l i).cells, hp, false) := by
  rw [evalCall_at _ _ _ hh63 rfl Try.func63 rfl (Nat.le_of_ble_eq_true rfl) rfl]
  have hlen := flat_len Mk.len l
  by_cases h : i < l.length
  · have hr := flat_row Mk.len l i h
    have e : atM l i = l[i] := by simp [atM, h]
    have h2 : i * 6 + 6 ≤ l.length * 6 := by omega
    rw [e]
    generalize l[i] = m at *
    generalize l.flatMap Mk.cells = X at *
    simp [h, hlen, hr, h2]
    simp [Mk.cells]
  · have e : atM l i = Mk.zero := by simp [atM, Nat.le_of_not_lt h]
    rw [e]
    simp [h, Mk.cells, Mk.zero]
theorem diff_step (a b : List Mk) (k : Nat) (h1 : k < a.length) (h2 : k < b.length) : diff (a.drop k) (b.drop k) k = if a[k] = b[k] then diff (a.drop (k + 1)) (b.drop (k + 1)) (k + 1) else k := by
  rw [List.drop_eq_getElem_cons h1, List.drop_eq_getElem_cons h2, diff]
theorem diff_one (a b : List Mk) (k : Nat) (h1 : ¬ (k < a.length ∧ k < b.length)) (h2 : k < a.length ∨ k < b.length) : diff (a.drop k) (b.drop k) k = k := by
  rcases Nat.lt_or_ge k a.length with h | h
  · have h' : b.length ≤ k := by omega
    rw [List.drop_eq_getElem_cons h, List.drop_eq_nil_of_le h']
    rfl
  · have h' : k < b.length := by omega
    rw [List.drop_eq_getElem_cons h', List.drop_eq_nil_of_le h]
    rfl
set_option maxHeartbeats 1000000 in
theorem f26 (n : Nat) (a b : List Mk) (hp : Heap) (ha : a.length ≤ 1000) (hb : b.length ≤ 1000) (hn : 1000 < n) :
    evalCall Try.prog hints (n + 2) 26 [.sl .sh a.length (a.flatMap Mk.cells), .sl .sh b.length (b.flatMap Mk.cells)] hp =
      some (.agg (if diff a b 0 = -1 then .int .i64 (-1) :: (Mk.zero.cells ++ Mk.zero.cells) else .int .i64 (diff a b 0) :: ((atM a (diff a b 0).toNat).cells ++ (atM b (diff a b 0).toNat).cells)), hp, false) := by
  rw [evalCall_at _ _ _ hh26 rfl Try.func26 rfl (Nat.le_of_ble_eq_true rfl) rfl]
  obtain ⟨N, hN⟩ : ∃ N, N = max a.length b.length := ⟨_, rfl⟩
  have hmax : (if (a.length : Int) < b.length then (b.length : Int) else a.length) = (N : Int) := by split <;> omega
  obtain ⟨D, hD⟩ : ∃ D, D = diff a b 0 := ⟨_, rfl⟩
  obtain ⟨z13, hz13⟩ : ∃ z13 : List PV, z13 = .int .i64 0 :: (Mk.zero.cells ++ Mk.zero.cells) := ⟨_, rfl⟩
  simp [hmax]
  generalize hit : iter _ _ _ = r
  refine iter_elim hit (fun k : Nat => { fr := [(0, .sl .sh a.length (a.flatMap Mk.cells)), (1, .sl .sh b.length (b.flatMap Mk.cells)), (4, .box z13), (10, .int .i64 N), (11, .int .i64 k)], hp := hp, base := hp.length, dirty := false })
    (fun k => k ≤ N ∧ diff (a.drop k) (b.drop k) k = D) (fun k => N - k)
    (fun x : Bool × Nat => if x.1 then (.exit 0, { fr := [(0, .sl .sh a.length (a.flatMap Mk.cells)), (1, .sl .sh b.length (b.flatMap Mk.cells)), (4, .box z13), (10, .int .i64 N), (11, .int .i64 N), (12, .bool false)], hp := hp, base := hp.length, dirty := false })
      else (.ret, { fr := [(4, .box (.int .i64 x.2 :: ((atM a x.2).cells ++ (atM b x.2).cells)))], hp := hp, base := hp.length, dirty := false }))
    (fun x => if x.1 then D = -1 else D = x.2) 0 ?_ ⟨by omega, by simp [hD]⟩ (by omega) ?_ ?_
  · rw [hz13, ← hmax]
    simp [Mk.cells, Mk.zero]
  · rintro k ⟨h1, h2⟩
    have hla := flat_len Mk.len a
    have hlb := flat_len Mk.len b
    have z13l : z13.length = 13 := by rw [hz13]; rfl
    have w := wrap_id (x := (k : Int) + 1) (by omega)
    by_cases c0 : k < N
    · have e63a := f63 n a k hp
      have e63b := f63 n b k hp
      by_cases c1 : k < a.length
      · have c1' : ¬ (a.length : Int) ≤ k := by omega
        by_cases c2 : k < b.length
        · have c2' : ¬ (b.length : Int) ≤ k := by omega
          have ra := flat_row Mk.len a k c1
          have rb := flat_row Mk.len b k c2
          have ka : k * 6 + 6 ≤ a.length * 6 := by omega
          have kb : k * 6 + 6 ≤ b.length * 6 := by omega
          have em := eqM a[k] b[k]
          rw [diff_step a b k c1 c2] at h2
          by_cases c3 : a[k] = b[k]
          · rw [if_pos c3] at h2
            rw [decide_eq_true c3] at em
            left
            refine ⟨k + 1, ?_, ⟨by omega, h2⟩, by omega⟩
            generalize a.flatMap Mk.cells = X at *
            generalize b.flatMap Mk.cells = Y at *
            simp [c0, c1, c2, c1', c2', hla, hlb, ra, rb, ka, kb, em, w]
          · rw [if_neg c3] at h2
            rw [decide_eq_false c3] at em
            right
            refine ⟨(false, k), ?_, by simp, h2.symm⟩
            generalize a.flatMap Mk.cells = X at *
            generalize b.flatMap Mk.cells = Y at *
            generalize atM a k = ma at *
            generalize atM b k = mb at *
            simp only [Mk.cells] at em
            simp [c0, c1, c2, c1', c2', hla, hlb, ra, rb, ka, kb, em, e63a, e63b, hz13, Mk.cells, Mk.zero]
        · rw [diff_one a b k (by omega) (by omega)] at h2
          have c2' : (b.length : Int) ≤ k := by omega
          right
          refine ⟨(false, k), ?_, by simp, h2.symm⟩
          generalize a.flatMap Mk.cells = X at *
          generalize b.flatMap Mk.cells = Y at *
          generalize atM a k = ma at *
          generalize atM b k = mb at *
          simp [c0, c1, c1', c2', e63a, e63b, hz13, Mk.cells, Mk.zero]
      · rw [diff_one a b k (by omega) (by omega)] at h2
        have c1' : (a.length : Int) ≤ k := by omega
        right
        refine ⟨(false, k), ?_, by simp, h2.symm⟩
        generalize a.flatMap Mk.cells = X at *
        generalize b.flatMap Mk.cells = Y at *
        generalize atM a k = ma at *
        generalize atM b k = mb at *
        simp [c0, c1', e63a, e63b, hz13, Mk.cells, Mk.zero]
    · right
      have : k = N := by omega
      subst this
      refine ⟨(true, 0), ?_, by simp, ?_⟩
      · simp
      · rw [List.drop_eq_nil_of_le (by omega), List.drop_eq_nil_of_le (by omega)] at h2
        exact h2.symm
  · rintro ⟨b', k⟩ rfl h
    rw [← hD]
    cases b' with
    | true =>
      have h : D = -1 := h
      rw [if_pos h, hz13]
      simp [Mk.cells, Mk.zero]
    | false =>
      have h : D = k := h
      have hk : ¬ (k : Int) = -1 := by omega
      rw [h, if_neg hk]
      simp [Mk.cells]
end Go.Proofs.Ytoipglmjnibdpaa
end

section
namespace Go.Proofs.Ytoipglmjnibdpaa
open Go Go.PS
theorem diff_nonneg : ∀ (a b : List Mk) (i : Nat), diff a b i = -1 ∨ (i : Int) ≤ diff a b i
  | x :: xs, y :: ys, i => by
    rw [diff]
    split
    · rcases diff_nonneg xs ys (i + 1) with h | h
      · exact .inl h
      · right; omega
    · right; exact Int.le_refl _
  | [], [], _ => .inl rfl
  | [], _ :: _, i => .inr (Int.le_refl _)
  | _ :: _, [], i => .inr (Int.le_refl _)
set_option maxHeartbeats 1000000 in
theorem f27 (n : Nat) (a b : List Mk) (hp : Heap) (ha : a.length ≤ 1000) (hb : b.length ≤ 1000) (hn : 1001 < n) :
    evalCall Try.prog hints (n + 1) 27 [.sl .sh a.length (a.flatMap Mk.cells), .sl .sh b.length (b.flatMap Mk.cells)] hp = some (.int .i64 (diff a b 0), hp, false) := by
  rw [evalCall_at _ _ _ hh27 rfl Try.func27 rfl (Nat.le_of_ble_eq_true rfl) rfl]
  obtain ⟨N, hN⟩ : ∃ N, N = max a.length b.length := ⟨_, rfl⟩
  obtain ⟨D, hD⟩ : ∃ D, D = diff a b 0 := ⟨_, rfl⟩
  simp
  generalize hit : iter _ _ _ = r
  refine iter_elim hit (fun k : Nat => { fr := [(0, .sl .sh a.length (a.flatMap Mk.cells)), (1, .sl .sh b.length (b.flatMap Mk.cells)), (5, .int .i64 k)], hp := hp, base := hp.length, dirty := false })
    (fun k => k ≤ N ∧ diff (a.drop k) (b.drop k) k = D) (fun k => N - k)
    (fun x : Bool × Nat => if x.1 then (.exit 0, { fr := [(0, .sl .sh a.length (a.flatMap Mk.cells)), (1, .sl .sh b.length (b.flatMap Mk.cells)), (5, .int .i64 N), (15, .bool false)], hp := hp, base := hp.length, dirty := false })
      else (.ret, { fr := [(4, .int .i64 x.2)], hp := hp, base := hp.length, dirty := false }))
    (fun x => if x.1 then D = -1 else D = x.2) 0 rfl ⟨by omega, by simp [hD]⟩ (by omega) ?_ ?_
  · rintro k ⟨h1, h2⟩
    have hla := flat_len Mk.len a
    have hlb := flat_len Mk.len b
    have w := wrap_id (x := (k : Int) + 1) (by omega)
    by_cases c0 : k < N
    · by_cases c1 : k < a.length
      · have c1' : ¬ (a.length : Int) ≤ k := by omega
        by_cases c2 : k < b.length
        · have c2' : ¬ (b.length : Int) ≤ k := by omega
          have ra := flat_row Mk.len a k c1
          have rb := flat_row Mk.len b k c2
          have ka : k * 6 + 6 ≤ a.length * 6 := by omega
          have kb : k * 6 + 6 ≤ b.length * 6 := by omega
          have em := eqM a[k] b[k]
          rw [diff_step a b k c1 c2] at h2
          by_cases c3 : a[k] = b[k]
          · rw [if_pos c3] at h2
            rw [decide_eq_true c3] at em
            left
            refine ⟨k + 1, ?_, ⟨by omega, h2⟩, by omega⟩
            generalize a.flatMap Mk.cells = X at *
            generalize b.flatMap Mk.cells = Y at *
            simp [c1, c2, c1', c2', hla, hlb, ra, rb, ka, kb, em, w]
          · rw [if_neg c3] at h2
            rw [decide_eq_false c3] at em
            right
            refine ⟨(false, k), ?_, by simp, h2.symm⟩
            generalize a.flatMap Mk.cells = X at *
            generalize b.flatMap Mk.cells = Y at *
            simp [c1, c2, c1', c2', hla, hlb, ra, rb, ka, kb, em]
        · rw [diff_one a b k (by omega) (by omega)] at h2
          have c2' : (b.length : Int) ≤ k := by omega
          right
          refine ⟨(false, k), ?_, by simp, h2.symm⟩
          simp [c1, c1', c2']
      · rw [diff_one a b k (by omega) (by omega)] at h2
        have c1' : (a.length : Int) ≤ k := by omega
        have c2 : k < b.length := by omega
        right
        refine ⟨(false, k), ?_, by simp, h2.symm⟩
        simp [c1, c1', c2]
    · right
      have : k = N := by omega
      subst this
      refine ⟨(true, 0), ?_, by simp, ?_⟩
      · have c1 : ¬ k < a.length := by omega
        have c2 : ¬ k < b.length := by omega
        simp [c1, c2]
      · rw [List.drop_eq_nil_of_le (by omega), List.drop_eq_nil_of_le (by omega)] at h2
        exact h2.symm
  · rintro ⟨b', k⟩ rfl h
    rw [← hD]
    cases b' with
    | true =>
      have h : D = -1 := h
      simp [h]
    | false =>
      have h : D = k := h
      simp [h]
theorem f28 (n : Nat) (a b : List Mk) (hp : Heap) (ha : a.length ≤ 1000) (hb : b.length ≤ 1000) (hn : 1001 < n) :
    evalCall Try.prog hints (n + 3) 28 [.sl .sh a.length (a.flatMap Mk.cells), .sl .sh b.length (b.flatMap Mk.cells)] hp = some (.bool (decide (diff a b 0 < 0)), hp, false) := by
  have e26 := f26 n a b hp ha hb (by omega)
  have hnn := diff_nonneg a b 0
  rw [evalCall_at _ _ _ hh28 rfl Try.func28 rfl (Nat.le_of_ble_eq_true rfl) rfl]
  generalize diff a b 0 = D at *
  by_cases h : D = -1
  · rw [if_pos h] at e26
    subst h
    simp [e26, Mk.cells, Mk.zero]
  · rw [if_neg h] at e26
    generalize atM a D.toNat = x at *
    generalize atM b D.toNat = y at *
    simp [e26, Mk.cells]
theorem f29 (n : Nat) (a b : List Mk) (hp : Heap) (ha : a.length ≤ 1000) (hb : b.length ≤ 1000) (hn : 1001 < n) :
    evalCall Try.prog hints (n + 4) 29 [.sl .sh a.length (a.flatMap Mk.cells), .sl .sh b.length (b.flatMap Mk.cells)] hp = some (.bool (decide (a.length ≤ b.length ∧ diff a (b.take a.length) 0 < 0)), hp, false) := by
  have e28 := f28 n a (b.take a.length) hp ha (by rw [List.length_take]; omega) hn
  rw [evalCall_at _ _ _ hh29 rfl Try.func29 rfl (Nat.le_of_ble_eq_true rfl) rfl]
  have hl := flat_len Mk.len b
  have ht := flat_take Mk.len b a.length
  by_cases h : a.length ≤ b.length
  · have h1 : (b.take a.length).length = a.length := by rw [List.length_take]; omega
    rw [h1] at e28
    rw [← ht] at e28
    generalize diff a (b.take a.length) 0 = D at *
    generalize a.flatMap Mk.cells = X at *
    generalize b.flatMap Mk.cells = Y at *
    simp [h, hl, e28]
  · simp [h]
/-- Are two rows the same? -/
theorem f31 (n : Nat) (a b : List Mk) (hp : Heap) (ha : a.length ≤ 1000) (hn : 1001 < n) :
    evalCall Try.prog hints (n + 1) 31 [.sl .sh a.length (a.flatMap Mk.cells), .sl .sh b.length (b.flatMap Mk.cells)] hp = some (.bool (decide (a = b)), hp, false) := by
  rw [evalCall_at _ _ _ hh31 rfl Try.func31 rfl (Nat.le_of_ble_eq_true rfl) rfl]
  by_cases hlen : a.length = b.length
  · have hlen' : ((a.length : Int) != b.length) = false := by simp; omega
    simp [hlen']
    generalize hit : iter _ _ _ = r
    refine iter_elim hit (fun k : Nat => { fr := [(0, .sl .sh a.length (a.flatMap Mk.cells)), (1, .sl .sh b.length (b.flatMap Mk.cells)), (5, .int .i64 k)], hp := hp, base := hp.length, dirty := false })
      (fun k => k ≤ a.length ∧ a.take k = b.take k) (fun k => a.length - k)
      (fun x : Bool => if x then (.exit 0, { fr := [(0, .sl .sh a.length (a.flatMap Mk.cells)), (1, .sl .sh b.length (b.flatMap Mk.cells)), (5, .int .i64 a.length), (14, .bool false)], hp := hp, base := hp.length, dirty := false })
        else (.ret, { fr := [(4, .bool false)], hp := hp, base := hp.length, dirty := false }))
      (fun x => decide (a = b) = x) 0 rfl ⟨by omega, by simp⟩ (by omega) ?_ ?_
    · rintro k ⟨h1, h2⟩
      have hla := flat_len Mk.len a
      have hlb := flat_len Mk.len b
      have w := wrap_id (x := (k : Int) + 1) (by omega)
      by_cases c1 : k < a.length
      · have c2 : k < b.length := by omega
        have ra := flat_row Mk.len a k c1
        have rb := flat_row Mk.len b k c2
        have ka : k * 6 + 6 ≤ a.length * 6 := by omega
        have kb : k * 6 + 6 ≤ b.length * 6 := by omega
        have em := eqM a[k] b[k]
        by_cases c3 : a[k] = b[k]
        · rw [decide_eq_true c3] at em
          left
          refine ⟨k + 1, ?_, ⟨by omega, ?_⟩, by omega⟩
          · generalize a.flatMap Mk.cells = X at *
            generalize b.flatMap Mk.cells = Y at *
            simp [c1, c2, hla, hlb, ra, rb, ka, kb, em, w]
          · rw [List.take_succ_eq_append_getElem c1, List.take_succ_eq_append_getElem c2, h2, c3]
        · rw [decide_eq_false c3] at em
          right
          refine ⟨false, ?_, by simp, ?_⟩
          · generalize a.flatMap Mk.cells = X at *
            generalize b.flatMap Mk.cells = Y at *
            simp [c1, c2, hla, hlb, ra, rb, ka, kb, em]
          · exact decide_eq_false fun e => c3 (by subst e; rfl)
      · right
        have : k = a.length := by omega
        subst this
        refine ⟨true, ?_, by simp, ?_⟩
        · simp
        · rw [List.take_of_length_le (Nat.le_refl _), List.take_of_length_le (by omega)] at h2
          exact decide_eq_true h2
    · rintro b' rfl h
      rw [h]
      cases b' <;> simp
  · have hlen' : ((a.length : Int) != b.length) = true := by simp; omega
    have : ¬ a = b := fun e => hlen (by rw [e])
    simp [hlen', this]
end Go.Proofs.Ytoipglmjnibdpaa
end

section
namespace Go.Proofs.Ytoipglmjnibdpaa
open Go Go.PS
theorem f65 (n i : Nat) (m : Mk) (t : Int) (hp : Heap) (hi : hp[i]? = some [.int .i64 t]) : evalCall Try.prog hints (n + 1) 65 [.agg m.cells, .ptr (.heap i) none 0] hp = some (.bool (decide (t ≤ m.tick)), hp, false) := by
  rw [evalCall_at _ _ _ hh65 rfl Try.func65 rfl (Nat.le_of_ble_eq_true rfl) rfl]
  simp [Mk.cells, hi]
def up (l : List Mk) (t : Int) : Nat := (l.takeWhile fun m => decide (m.tick < t)).length
theorem up_le (l : List Mk) (t : Int) : up l t ≤ l.length := (List.takeWhile_sublist _).length_le
theorem up_lt : ∀ (l : List Mk) (t : Int) (k : Nat) (h : k < l.length), k < up l t → l[k].tick < t
  | x :: l, t, 0, _, h => by
    unfold up at h
    rw [List.takeWhile_cons] at h
    split at h
    · rename_i hx; simpa using hx
    · simp at h
  | x :: l, t, k + 1, hk, h => by
    unfold up at h
    rw [List.takeWhile_cons] at h
    split at h
    · simp at h
      exact up_lt l t k (by simpa using hk) h
    · simp at h
theorem up_at : ∀ (l : List Mk) (t : Int) (h : up l t < l.length), t ≤ l[up l t].tick
  | x :: l, t, h => by
    have e : up (x :: l) t = if x.tick < t then up l t + 1 else 0 := by
      unfold up
      rw [List.takeWhile_cons]
      by_cases hx : x.tick < t <;> simp [hx]
    by_cases hx : x.tick < t
    · rw [if_pos hx] at e
      have h' : up l t < l.length := by rw [e] at h; simpa using h
      have := up_at l t h'
      simp only [e]
      simpa using this
    · rw [if_neg hx] at e
      simp only [e]
      simp
      omega
set_option maxHeartbeats 1000000 in
theorem f64 (n i : Nat) (l : List Mk) (t : Int) (hp : Heap) (hi : hp[i]? = some [.int .i64 t]) (hl : l.length ≤ 1000) (hn : 1001 < n) :
    evalCall Try.prog hints (n + 2) 64 [.sl .sh l.length (l.flatMap Mk.cells), .fn 65 [.ptr (.heap i) none 0]] hp = some (.int .i64 (if up l t < l.length then (up l t : Int) else -1), hp, false) := by
  rw [evalCall_at _ _ _ hh64 rfl Try.func64 rfl (Nat.le_of_ble_eq_true rfl) rfl]
  have hu := up_le l t
  simp
  generalize hit : iter _ _ _ = r
  refine iter_elim hit (fun k : Nat => { fr := [(0, .sl .sh l.length (l.flatMap Mk.cells)), (1, .fn 65 [.ptr (.heap i) none 0]), (7, .int .i64 l.length), (8, .int .i64 k)], hp := hp, base := hp.length, dirty := false })
    (fun k => k ≤ up l t) (fun k => l.length - k)
    (fun x : Bool => if x then (.exit 0, { fr := [(0, .sl .sh l.length (l.flatMap Mk.cells)), (1, .fn 65 [.ptr (.heap i) none 0]), (7, .int .i64 l.length), (8, .int .i64 l.length), (9, .bool false)], hp := hp, base := hp.length, dirty := false })
      else (.ret, { fr := [(4, .int .i64 (up l t))], hp := hp, base := hp.length, dirty := false }))
    (fun x => x = true ↔ ¬ up l t < l.length) 0 rfl (by omega) (by omega) ?_ ?_
  · rintro k h1
    have hla := flat_len Mk.len l
    have w := wrap_id (x := (k : Int) + 1) (by omega)
    by_cases c1 : k < l.length
    · have ra := flat_row Mk.len l k c1
      have ka : k * 6 + 6 ≤ l.length * 6 := by omega
      have e65 := f65 n i l[k] t hp hi
      by_cases c2 : k < up l t
      · have c3 := up_lt l t k c1 c2
        have c3' : ¬ t ≤ l[k].tick := by omega
        rw [decide_eq_false c3'] at e65
        left
        refine ⟨k + 1, ?_, by omega, by omega⟩
        generalize l.flatMap Mk.cells = X at *
        generalize l[k] = m at *
        simp only [Mk.cells] at ra e65
        simp [c1, hla, ra, ka, e65, w]
      · have hk : k = up l t := by omega
        subst hk
        have c3 := up_at l t c1
        rw [decide_eq_true c3] at e65
        right
        refine ⟨false, ?_, by simp, by simp [c1]⟩
        generalize l.flatMap Mk.cells = X at *
        generalize l[up l t] = m at *
        simp only [Mk.cells] at ra e65
        simp [c1, hla, ra, ka, e65]
    · right
      have : k = l.length := by omega
      subst this
      refine ⟨true, ?_, by simp, by simp; omega⟩
      simp
  · rintro b rfl h
    cases b with
    | true =>
      have c : ¬ up l t < l.length := h.1 rfl
      simp [c]
    | false =>
      have c : up l t < l.length := by
        by_cases c : up l t < l.length
        · exact c
        · have := h.2 c; cases this
      simp [c]
theorem f66 (n : Nat) (l : List Mk) (hp : Heap) (hl : l.length ≤ 1000) : evalCall Try.prog hints (n + 1) 66 [.sl .sh l.length (l.flatMap Mk.cells)] hp = some (.sl (.mu 6) l.length (l.flatMap Mk.cells), hp, false) := by
  have hla := flat_len Mk.len l
  have hst := flat_all (f := Mk.cells) (fun _ => rfl) l
  have hou := flat_out (f := Mk.cells) (fun _ => rfl) l
  unfold evalCall
  rw [hh66]
  simp only [hint66]
  generalize l.flatMap Mk.cells = X at *
  have c : l.length ≤ 4194304 := by omega
  simp [primCall, c, hla, hst, hou]
theorem f32 (n : Nat) (l : List Mk) (t : Int) (hp : Heap) (hl : l.length ≤ 1000) (hn : 1001 < n) :
    ∃ hp', evalCall Try.prog hints (n + 3) 32 [.sl .sh l.length (l.flatMap Mk.cells), .int .i64 t] hp = some (.sl (.mu 6) (up l t) ((l.take (up l t)).flatMap Mk.cells), hp', false) := by
  have hu := up_le l t
  have e64 := f64 n hp.length l t (hp ++ [[.int .i64 t]]) (by simp) hl hn
  have htl : (l.take (up l t)).length = up l t := by rw [List.length_take]; omega
  have e66 := f66 (n + 1) (l.take (up l t)) (hp ++ [[.int .i64 t]]) (by omega)
  rw [htl] at e66
  have hla := flat_len Mk.len l
  have hft := flat_take Mk.len l (up l t)
  rw [evalCall_at _ _ _ hh32 rfl Try.func32 rfl (Nat.le_of_ble_eq_true rfl) rfl]
  refine ⟨hp ++ [[.int .i64 t]], ?_⟩
  by_cases c : up l t < l.length
  · rw [if_pos c] at e64
    have c1 : ¬ (up l t : Int) < 0 := by omega
    generalize (l.take (up l t)).flatMap Mk.cells = Y at *
    generalize l.flatMap Mk.cells = X at *
    simp [e64, c1, hu, hla, hft, e66]
  · rw [if_neg c] at e64
    have cu : up l t = l.length := by omega
    rw [cu] at e66 hft ⊢
    generalize (l.take l.length).flatMap Mk.cells = Y at *
    generalize l.flatMap Mk.cells = X at *
    simp [e64, hla, hft, e66]
set_option maxHeartbeats 1000000 in
theorem f33 (n : Nat) (l : List Mk) (t : Int) (hp : Heap) (hl : l.length ≤ 1000) (hn : 1001 < n) :
    evalCall Try.prog hints (n + 1) 33 [.sl .sh l.length (l.flatMap Mk.cells), .int .i64 t] hp = some (.sl (.mu 6) (up l t) ((l.take (up l t)).flatMap Mk.cells), hp, false) := by
  have hu := up_le l t
  rw [evalCall_at _ _ _ hh33 rfl Try.func33 rfl (Nat.le_of_ble_eq_true rfl) rfl]
  simp
  generalize hit : iter _ _ _ = r
  refine iter_elim hit (fun k : Nat => { fr := [(0, .sl .sh l.length (l.flatMap Mk.cells)), (1, .int .i64 t), (5, .sl (.mu 6) k ((l.take k).flatMap Mk.cells)), (6, .int .i64 k)], hp := hp, base := hp.length, dirty := false })
    (fun k => k ≤ up l t) (fun k => l.length - k)
    (fun x : Bool => if x then (.exit 0, { fr := [(0, .sl .sh l.length (l.flatMap Mk.cells)), (1, .int .i64 t), (5, .sl (.mu 6) (up l t) ((l.take (up l t)).flatMap Mk.cells)), (6, .int .i64 l.length), (11, .bool false)], hp := hp, base := hp.length, dirty := false })
      else (.ret, { fr := [(4, .sl (.mu 6) (up l t) ((l.take (up l t)).flatMap Mk.cells))], hp := hp, base := hp.length, dirty := false }))
    (fun _ => True) 0 rfl (by omega) (by omega) ?_ ?_
  · rintro k h1
    have hla := flat_len Mk.len l
    have hlk := flat_len Mk.len (l.take k)
    have w := wrap_id (x := (k : Int) + 1) (by omega)
    by_cases c1 : k < l.length
    · have ra := flat_row Mk.len l k c1
      have ka : k * 6 + 6 ≤ l.length * 6 := by omega
      have g0 := flat_get Mk.len l k c1 0 (by omega)
      have htl : (l.take k).length = k := by rw [List.length_take]; omega
      have hap : (l.take (k + 1)).flatMap Mk.cells = (l.take k).flatMap Mk.cells ++ l[k].cells := by
        rw [List.take_succ_eq_append_getElem c1, List.flatMap_append]; simp
      rw [htl] at hlk
      by_cases c2 : k < up l t
      · have c3 := up_lt l t k c1 c2
        have c3' : ¬ t ≤ l[k].tick := by omega
        have l1 : (k + 1) * 56 ≤ 140737488355328 := by omega
        left
        refine ⟨k + 1, ?_, by omega, by omega⟩
        rw [hap]
        generalize (l.take k).flatMap Mk.cells = Y at *
        generalize l.flatMap Mk.cells = X at *
        generalize l[k] = m at *
        simp only [Mk.cells, Nat.add_zero] at ra g0
        simp at g0
        simp [-getElem?_pos, List.getElem?_cons_zero, c1, hla, ra, ka, g0, c3', w, hlk, l1, Mk.cells]
      · have hk : k = up l t := by omega
        subst hk
        have c3 := up_at l t c1
        right
        refine ⟨false, ?_, by simp, trivial⟩
        generalize (l.take (up l t)).flatMap Mk.cells = Y at *
        generalize l.flatMap Mk.cells = X at *
        generalize l[up l t] = m at *
        simp only [Mk.cells, Nat.add_zero] at ra g0
        simp at g0
        simp [-getElem?_pos, List.getElem?_cons_zero, c1, hla, ra, ka, g0, c3]
    · right
      have : k = l.length := by omega
      have h2 : up l t = l.length := by omega
      subst this
      refine ⟨true, ?_, by simp, trivial⟩
      rw [h2]
      simp
  · rintro b rfl -
    cases b with
    | true => simp
    | false => simp
theorem diff_same : ∀ (a : List Mk) (i : Nat), diff a a i = -1
  | [], _ => rfl
  | x :: a, i => by rw [diff, if_pos rfl, diff_same a]
theorem prefix_iff : ∀ (a b : List Mk) (i : Nat), (a.length ≤ b.length ∧ diff a (b.take a.length) i < 0) ↔ (diff a b i < 0 ∨ diff a b i = i + a.length)
  | [], [], i => by simp [diff]
  | [], y :: ys, i => by simp [diff]
  | x :: xs, [], i => by simp [diff]; omega
  | x :: xs, y :: ys, i => by
    have ih := prefix_iff xs ys (i + 1)
    simp only [List.length_cons, List.take_succ_cons, diff]
    by_cases h : x = y
    · simp only [if_pos h]
      rw [Nat.add_le_add_iff_right, ih]
      omega
    · simp only [if_neg h]
      omega
end Go.Proofs.Ytoipglmjnibdpaa
end

section
namespace Go.Proofs.Ytoipglmjnibdpaa
open Go Go.PS
theorem live30 : fstR (evalCall Try.prog hints 5020 30 [] []) = some (.bool true) := by kernel_rfl
theorem mk_of (r : List PV) (h : Ty Try.prog 36 r) : ∃ m : Mk, r = m.cells ∧ True := by
  obtain ⟨parts, rfl, h1, h2⟩ := ty_struct Try.underlying36 h
  match parts, h1, h2 with
  | [p0, p1, p2, p3, p4, p5], _, h2 =>
    obtain ⟨a, rfl, _⟩ := ty_int Try.underlying3 (h2 0 _ _ rfl rfl)
    obtain ⟨b, rfl, _⟩ := ty_int Try.underlying34 (h2 1 _ _ rfl rfl)
    obtain ⟨c, rfl, _⟩ := ty_int Try.underlying3 (h2 2 _ _ rfl rfl)
    obtain ⟨d, rfl, _⟩ := ty_int Try.underlying3 (h2 3 _ _ rfl rfl)
    obtain ⟨e, rfl, _⟩ := ty_int Try.underlying3 (h2 4 _ _ rfl rfl)
    obtain ⟨s, rfl, _⟩ := ty_str Try.underlying9 (h2 5 _ _ rfl rfl)
    exact ⟨⟨a, b, c, d, e, s⟩, rfl, trivial⟩
set_option maxHeartbeats 8000000 in
theorem f5 (a b : List Mk) (t : Int) (ha : a.length ≤ 9223372036854775807) (hb : b.length ≤ 9223372036854775807) :
    ∃ hp d, evalCall Try.prog hints 5021 5 [.sl .sh a.length (a.flatMap Mk.cells), .sl .sh b.length (b.flatMap Mk.cells), .int .i64 t] [] = some (.bool true, hp, d) := by
  apply of_map
  obtain ⟨hpl, dl, lv⟩ := of_map live30
  obtain ⟨p, hp⟩ : ∃ p, p = min a.length 100 := ⟨_, rfl⟩
  obtain ⟨q, hq⟩ : ∃ q, q = min b.length 100 := ⟨_, rfl⟩
  have hp' : (if (100 : Int) < a.length then 100 else (a.length : Int)) = (p : Int) := by split <;> omega
  have hq' : (if (100 : Int) < b.length then 100 else (b.length : Int)) = (q : Int) := by split <;> omega
  have hp2 : (p : Int) ≤ a.length := by omega
  have hq2 : (q : Int) ≤ b.length := by omega
  have fa := flat_take Mk.len a p
  have fb := flat_take Mk.len b q
  have hla := flat_len Mk.len a
  have hlb := flat_len Mk.len b
  have la : (a.take p).length = p := by rw [List.length_take]; omega
  have lb : (b.take q).length = q := by rw [List.length_take]; omega
  have hp100 : p ≤ 100 := by omega
  have hq100 : q ≤ 100 := by omega
  generalize a.take p = A at *
  generalize b.take q = B at *
  have e26 := fun hp => f26 5018 A B hp (by omega) (by omega) (by omega)
  have e27 := fun hp => f27 5019 A B hp (by omega) (by omega) (by omega)
  have e28 := fun hp => f28 5017 A B hp (by omega) (by omega) (by omega)
  have e28' := fun hp => f28 5017 A A hp (by omega) (by omega) (by omega)
  have e29 := fun hp => f29 5016 A B hp (by omega) (by omega) (by omega)
  have e32 := fun hp => f32 5017 A t hp (by omega) (by omega)
  have e33 := fun hp => f33 5019 A t hp (by omega) (by omega)
  have hu := up_le A t
  have ul : (A.take (up A t)).length = up A t := by rw [List.length_take]; omega
  have e31 := fun hp => f31 5019 (A.take (up A t)) (A.take (up A t)) hp (by omega) (by omega)
  have uo := flat_out (f := Mk.cells) (fun _ => rfl) (A.take (up A t))
  have ua := flat_all (f := Mk.cells) (fun _ => rfl) (A.take (up A t))
  have hp1 : ((A.take (up A t)).flatMap Mk.cells).all plain1 = true := by
    generalize A.take (up A t) = l
    induction l with
    | nil => rfl
    | cons x l ih => rw [List.flatMap_cons, List.all_append, ih]; rfl
  have pfx := prefix_iff A B 0
  have pd : decide (A.length ≤ B.length ∧ diff A (B.take A.length) 0 < 0) = (decide (diff A B 0 < 0) || decide (diff A B 0 = A.length)) := by
    rw [Bool.eq_iff_iff]; simp only [decide_eq_true_eq, Bool.or_eq_true]
    rw [pfx]; simp
  rw [pd] at e29
  rw [diff_same] at e28'
  rw [ul] at e31
  simp only [la, lb, decide_true] at e26 e27 e28 e28' e29 e31 e32 e33
  have hnn := diff_nonneg A B 0
  have hgA : ∀ k : Nat, k < p → ((A.flatMap Mk.cells).drop (k * 6)).take 6 = (atM A k).cells := fun k hk => by
    rw [flat_row Mk.len A k (by omega)]; simp [atM, la, hk]
  have hgB : ∀ k : Nat, k < q → ((B.flatMap Mk.cells).drop (k * 6)).take 6 = (atM B k).cells := fun k hk => by
    rw [flat_row Mk.len B k (by omega)]; simp [atM, lb, hk]
  have hzA : ∀ k : Nat, ¬ k < p → atM A k = Mk.zero := fun k hk => by simp [atM, la, Nat.le_of_not_lt hk]
  have hzB : ∀ k : Nat, ¬ k < q → atM B k = Mk.zero := fun k hk => by simp [atM, lb, Nat.le_of_not_lt hk]
  have lA := flat_len Mk.len A
  have lB := flat_len Mk.len B
  rw [la] at lA
  rw [lb] at lB
  rw [evalCall_at _ _ _ hh5 rfl Try.func5 rfl (Nat.le_of_ble_eq_true rfl) rfl]
  obtain ⟨hpf, e32⟩ : ∃ hpf, ∃ hpf2, (evalCall Try.prog hints (5017 + 3) 32 [.sl .sh p (A.flatMap Mk.cells), .int .i64 t] (if dl then hpl else []) = some (.sl (.mu 6) (up A t) ((A.take (up A t)).flatMap Mk.cells), hpf, false)) ∧ hpf2 = hpf := by
    obtain ⟨x, hx⟩ := e32 (if dl then hpl else [])
    exact ⟨x, x, hx, rfl⟩
  obtain ⟨_, e32, _⟩ := e32
  have emz : eqT Try.prog 20 36 Mk.zero.cells Mk.zero.cells = some true := by rw [eqM]; simp
  by_cases hD : diff A B 0 = -1
  · simp only [hD, if_true] at e26 e27 e28 e29
    generalize A.flatMap Mk.cells = X at *
    generalize B.flatMap Mk.cells = Y at *
    generalize (A.take (up A t)).flatMap Mk.cells = U at *
    simp only [Mk.cells, Mk.zero] at emz e26
    have pm : ((-1 : Int) == (p : Int)) = false := by simp
    cases dl with
    | true =>
      simp only [if_true] at e32
      simp [hp', hq', hp2, hq2, fa, fb, hla, hlb, e26, e27, e28, e28', e29, e32, e33, e31, lv, emz, uo, ua, hp1]
    | false =>
      simp only [Bool.false_eq_true, if_false] at e32
      simp [hp', hq', hp2, hq2, fa, fb, hla, hlb, e26, e27, e28, e28', e29, e32, e33, e31, lv, emz, uo, ua, hp1]
  · obtain ⟨k, hk⟩ : ∃ k : Nat, diff A B 0 = k := ⟨(diff A B 0).toNat, by omega⟩
    have hk1 : ¬ (k : Int) = -1 := by omega
    have hk2 : ¬ (k : Int) < 0 := by omega
    have hk3 : (0 : Int) ≤ k := by omega
    simp only [hk, if_neg hk1, Int.toNat_natCast] at e26
    rw [hk] at e27 e28 e29
    have gA := hgA k
    have gB := hgB k
    have zA := hzA k
    have zB := hzB k
    have emA := eqM (atM A k) (atM A k)
    have emB := eqM (atM B k) (atM B k)
    rw [decide_eq_true rfl] at emA emB
    generalize atM A k = mA at *
    generalize atM B k = mB at *
    generalize A.flatMap Mk.cells = X at *
    generalize B.flatMap Mk.cells = Y at *
    generalize (A.take (up A t)).flatMap Mk.cells = U at *
    by_cases c1 : k < p
    · have gA := gA c1
      have i1 : k * 6 + 6 ≤ p * 6 := by omega
      have c1' : ((k : Int) == p) = false := by simp; omega
      have c1'' : ¬ (k : Int) = p := by omega
      by_cases c2 : k < q
      · have gB := gB c2
        have i2 : k * 6 + 6 ≤ q * 6 := by omega
        simp only [Mk.cells] at emA emB e26 gA gB
        cases dl with
        | true =>
          simp only [if_true] at e32
          simp [hp', hq', hp2, hq2, fa, fb, hla, hlb, e26, e27, e28, e28', e29, e32, e33, e31, lv, emz, uo, ua, hp1, hk2, hk3, c1, c2, c1', c1'', gA, gB, i1, i2, lA, lB, emA, emB]
        | false =>
          simp only [Bool.false_eq_true, if_false] at e32
          simp [hp', hq', hp2, hq2, fa, fb, hla, hlb, e26, e27, e28, e28', e29, e32, e33, e31, lv, emz, uo, ua, hp1, hk2, hk3, c1, c2, c1', c1'', gA, gB, i1, i2, lA, lB, emA, emB]
      · have zB := zB c2
        subst zB
        simp only [Mk.cells] at emA e26 gA
        simp only [Mk.cells, Mk.zero] at emz e26
        cases dl with
        | true =>
          simp only [if_true] at e32
          simp [hp', hq', hp2, hq2, fa, fb, hla, hlb, e26, e27, e28, e28', e29, e32, e33, e31, lv, emz, uo, ua, hp1, hk2, hk3, c1, c2, c1', c1'', gA, i1, lA, lB, emA]
        | false =>
          simp only [Bool.false_eq_true, if_false] at e32
          simp [hp', hq', hp2, hq2, fa, fb, hla, hlb, e26, e27, e28, e28', e29, e32, e33, e31, lv, emz, uo, ua, hp1, hk2, hk3, c1, c2, c1', c1'', gA, i1, lA, lB, emA]
    · have zA := zA c1
      subst zA
      obtain ⟨bp, hbp⟩ : ∃ bp : Bool, ((k : Int) == p) = bp := ⟨_, rfl⟩
      have hbp' : decide ((k : Int) = p) = bp := by rw [← hbp]; rfl
      rw [hbp'] at e29
      by_cases c2 : k < q
      · have gB := gB c2
        have i2 : k * 6 + 6 ≤ q * 6 := by omega
        simp only [Mk.cells] at emB e26 gB
        simp only [Mk.cells, Mk.zero] at emz e26
        cases dl with
        | true =>
          simp only [if_true] at e32
          simp [hp', hq', hp2, hq2, fa, fb, hla, hlb, e26, e27, e28, e28', e29, e32, e33, e31, lv, emz, uo, ua, hp1, hk2, hk3, c1, c2, hbp, gB, i2, lA, lB, emB]
        | false =>
          simp only [Bool.false_eq_true, if_false] at e32
          simp [hp', hq', hp2, hq2, fa, fb, hla, hlb, e26, e27, e28, e28', e29, e32, e33, e31, lv, emz, uo, ua, hp1, hk2, hk3, c1, c2, hbp, gB, i2, lA, lB, emB]
      · have zB := zB c2
        subst zB
        simp only [Mk.cells, Mk.zero] at emz e26
        cases dl with
        | true =>
          simp only [if_true] at e32
          simp [hp', hq', hp2, hq2, fa, fb, hla, hlb, e26, e27, e28, e28', e29, e32, e33, e31, lv, emz, uo, ua, hp1, hk2, hk3, c1, c2, hbp, lA, lB]
        | false =>
          simp only [Bool.false_eq_true, if_false] at e32
          simp [hp', hq', hp2, hq2, fa, fb, hla, hlb, e26, e27, e28, e28', e29, e32, e33, e31, lv, emz, uo, ua, hp1, hk2, hk3, c1, c2, hbp, lA, lB]
end Go.Proofs.Ytoipglmjnibdpaa
end
