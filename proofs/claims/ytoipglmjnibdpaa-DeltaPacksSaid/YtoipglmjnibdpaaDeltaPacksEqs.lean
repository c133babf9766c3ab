/-
  What functions of this program compute, as equations about the evaluator. No condition but those stated.
-/
import Derived.Test.YtoipglmjnibdpaaFacts
set_option linter.all false
section
namespace Go.Proofs.Ytoipglmjnibdpaa
open Go Go.PS
structure Mk where
  tick : Int
  sort : Int
  a : Int
  b : Int
  n : Int
  data : List UInt8
  deriving DecidableEq
def Mk.cells (m : Mk) : List PV := [.int .i64 m.tick, .int .u8 m.sort, .int .i64 m.a, .int .i64 m.b, .int .i64 m.n, .str m.data]
def Mk.zero : Mk := ⟨0, 0, 0, 0, 0, []⟩
theorem Mk.len (m : Mk) : m.cells.length = 6 := rfl
theorem stood36 : Try.prog.stoodInHeld 36 = false := by kernel_rfl
@[simp] theorem guard36 : Try.prog.eqGuardType Try.prog.depth 36 = false := by kernel_rfl
theorem eq3 (d : Nat) (a b : Int) : eqT Try.prog (d + 1) 3 [.int .i64 a] [.int .i64 b] = some (a == b) := by simp only [eqT, Try.underlying3]; rfl
theorem eq34 (d : Nat) (a b : Int) : eqT Try.prog (d + 1) 34 [.int .u8 a] [.int .u8 b] = some (a == b) := by simp only [eqT, Try.underlying34]; rfl
theorem eq9 (d : Nat) (a b : List UInt8) : eqT Try.prog (d + 1) 9 [.str a] [.str b] = some (a == b) := by simp only [eqT, Try.underlying9]
theorem eqM (x y : Mk) : eqT Try.prog 20 36 x.cells y.cells = some (decide (x = y)) := by
  obtain ⟨x1, x2, x3, x4, x5, x6⟩ := x
  obtain ⟨y1, y2, y3, y4, y5, y6⟩ := y
  show eqT Try.prog (18 + 1 + 1) 36 _ _ = _
  unfold eqT
  rw [Try.underlying36]
  simp only [stood36, Mk.cells]
  simp [eq3, eq34, eq9, andL]
  rw [Bool.eq_iff_iff]
  simp
/-- Where rows of marks part. -/
def diff : List Mk → List Mk → Nat → Int
  | x :: xs, y :: ys, i => if x = y then diff xs ys (i + 1) else i
  | [], [], _ => -1
  | _, _, i => i
def atM (l : List Mk) (i : Nat) : Mk := l.getD i Mk.zero
theorem f63 (n : Nat) (l : List Mk) (i : Nat) (hp : Heap) : evalCall Try.prog hints (n + 1) 63 [.sl .sh l.length (l.flatMap Mk.cells), .int .i64 i] hp = some (.agg (atM l i).cells, hp, false) := by
  rw [evalCall_at _ _ _ hh63 rfl Try.func63 rfl (Nat.le_of_ble_eq_true rfl) rfl]
  have hlen := flat_len Mk.len l
  by_cases h : i < l.length
  · have hr := flat_row Mk.len l i h
    have e : atM l i = l[i] := by simp [atM, h]
    have h2 : i * 6 + 6 ≤ l.length * 6 := by omega
    rw [e]
    generalize l[i] = m at *
    generalize l.flatMap Mk.cells = X at *
    simp [h, hlen, hr, h2]
    simp [Mk.cells]
  · have e : atM l i = Mk.zero := by simp [atM, Nat.le_of_not_lt h]
    rw [e]
    simp [h, Mk.cells, Mk.zero]
theorem diff_step (a b : List Mk) (k : Nat) (h1 : k < a.length) (h2 : k < b.length) : diff (a.drop k) (b.drop k) k = if a[k] = b[k] then diff (a.drop (k + 1)) (b.drop (k + 1)) (k + 1) else k := by
  rw [List.drop_eq_getElem_cons h1, List.drop_eq_getElem_cons h2, diff]
theorem diff_one (a b : List Mk) (k : Nat) (h1 : ¬ (k < a.length ∧ k < b.length)) (h2 : k < a.length ∨ k < b.length) : diff (a.drop k) (b.drop k) k = k := by
  rcases Nat.lt_or_ge k a.length with h | h
  · have h' : b.length ≤ k := by omega
    rw [List.drop_eq_getElem_cons h, List.drop_eq_nil_of_le h']
    rfl
  · have h' : k < b.length := by omega
    rw [List.drop_eq_getElem_cons h', List.drop_eq_nil_of_le h]
    rfl
set_option maxHeartbeats 1000000 in
theorem f26 (n : Nat) (a b : List Mk) (hp : Heap) (ha : a.length ≤ 1000) (hb : b.length ≤ 1000) (hn : 1000 < n) :
    evalCall Try.prog hints (n + 2) 26 [.sl .sh a.length (a.flatMap Mk.cells), .sl .sh b.length (b.flatMap Mk.cells)] hp =
      some (.agg (if diff a b 0 = -1 then .int .i64 (-1) :: (Mk.zero.cells ++ Mk.zero.cells) else .int .i64 (diff a b 0) :: ((atM a (diff a b 0).toNat).cells ++ (atM b (diff a b 0).toNat).cells)), hp, false) := by
  rw [evalCall_at _ _ _ hh26 rfl Try.func26 rfl (Nat.le_of_ble_eq_true rfl) rfl]
  obtain ⟨N, hN⟩ : ∃ N, N = max a.length b.length := ⟨_, rfl⟩
  have hmax : (if (a.length : Int) < b.length then (b.length : Int) else a.length) = (N : Int) := by split <;> omega
  obtain ⟨D, hD⟩ : ∃ D, D = diff a b 0 := ⟨_, rfl⟩
  obtain ⟨z13, hz13⟩ : ∃ z13 : List PV, z13 = .int .i64 0 :: (Mk.zero.cells ++ Mk.zero.cells) := ⟨_, rfl⟩
  simp [hmax]
  generalize hit : iter _ _ _ = r
  refine iter_elim hit (fun k : Nat => { fr := [(0, .sl .sh a.length (a.flatMap Mk.cells)), (1, .sl .sh b.length (b.flatMap Mk.cells)), (4, .box z13), (10, .int .i64 N), (11, .int .i64 k)], hp := hp, base := hp.length, dirty := false })
    (fun k => k ≤ N ∧ diff (a.drop k) (b.drop k) k = D) (fun k => N - k)
    (fun x : Bool × Nat => if x.1 then (.exit 0, { fr := [(0, .sl .sh a.length (a.flatMap Mk.cells)), (1, .sl .sh b.length (b.flatMap Mk.cells)), (4, .box z13), (10, .int .i64 N), (11, .int .i64 N), (12, .bool false)], hp := hp, base := hp.length, dirty := false })
      else (.ret, { fr := [(4, .box (.int .i64 x.2 :: ((atM a x.2).cells ++ (atM b x.2).cells)))], hp := hp, base := hp.length, dirty := false }))
    (fun x => if x.1 then D = -1 else D = x.2) 0 ?_ ⟨by omega, by simp [hD]⟩ (by omega) ?_ ?_
  · rw [hz13, ← hmax]
    simp [Mk.cells, Mk.zero]
  · rintro k ⟨h1, h2⟩
    have hla := flat_len Mk.len a
    have hlb := flat_len Mk.len b
    have z13l : z13.length = 13 := by rw [hz13]; rfl
    have w := wrap_id (x := (k : Int) + 1) (by omega)
    by_cases c0 : k < N
    · have e63a := f63 n a k hp
      have e63b := f63 n b k hp
      by_cases c1 : k < a.length
      · have c1' : ¬ (a.length : Int) ≤ k := by omega
        by_cases c2 : k < b.length
        · have c2' : ¬ (b.length : Int) ≤ k := by omega
          have ra := flat_row Mk.len a k c1
          have rb := flat_row Mk.len b k c2
          have ka : k * 6 + 6 ≤ a.length * 6 := by omega
          have kb : k * 6 + 6 ≤ b.length * 6 := by omega
          have em := eqM a[k] b[k]
          rw [diff_step a b k c1 c2] at h2
          by_cases c3 : a[k] = b[k]
          · rw [if_pos c3] at h2
            rw [decide_eq_true c3] at em
            left
            refine ⟨k + 1, ?_, ⟨by omega, h2⟩, by omega⟩
            generalize a.flatMap Mk.cells = X at *
            generalize b.flatMap Mk.cells = Y at *
            simp [c0, c1, c2, c1', c2', hla, hlb, ra, rb, ka, kb, em, w]
          · rw [if_neg c3] at h2
            rw [decide_eq_false c3] at em
            right
            refine ⟨(false, k), ?_, by simp, h2.symm⟩
            generalize a.flatMap Mk.cells = X at *
            generalize b.flatMap Mk.cells = Y at *
            generalize atM a k = ma at *
            generalize atM b k = mb at *
            simp only [Mk.cells] at em
            simp [c0, c1, c2, c1', c2', hla, hlb, ra, rb, ka, kb, em, e63a, e63b, hz13, Mk.cells, Mk.zero]
        · rw [diff_one a b k (by omega) (by omega)] at h2
          have c2' : (b.length : Int) ≤ k := by omega
          right
          refine ⟨(false, k), ?_, by simp, h2.symm⟩
          generalize a.flatMap Mk.cells = X at *
          generalize b.flatMap Mk.cells = Y at *
          generalize atM a k = ma at *
          generalize atM b k = mb at *
          simp [c0, c1, c1', c2', e63a, e63b, hz13, Mk.cells, Mk.zero]
      · rw [diff_one a b k (by omega) (by omega)] at h2
        have c1' : (a.length : Int) ≤ k := by omega
        right
        refine ⟨(false, k), ?_, by simp, h2.symm⟩
        generalize a.flatMap Mk.cells = X at *
        generalize b.flatMap Mk.cells = Y at *
        generalize atM a k = ma at *
        generalize atM b k = mb at *
        simp [c0, c1', e63a, e63b, hz13, Mk.cells, Mk.zero]
    · right
      have : k = N := by omega
      subst this
      refine ⟨(true, 0), ?_, by simp, ?_⟩
      · simp
      · rw [List.drop_eq_nil_of_le (by omega), List.drop_eq_nil_of_le (by omega)] at h2
        exact h2.symm
  · rintro ⟨b', k⟩ rfl h
    rw [← hD]
    cases b' with
    | true =>
      have h : D = -1 := h
      rw [if_pos h, hz13]
      simp [Mk.cells, Mk.zero]
    | false =>
      have h : D = k := h
      have hk : ¬ (k : Int) = -1 := by omega
      rw [h, if_neg hk]
      simp [Mk.cells]
end Go.Proofs.Ytoipglmjnibdpaa
end

section
namespace Go.Proofs.Ytoipglmjnibdpaa
open Go Go.PS
theorem diff_nonneg : ∀ (a b : List Mk) (i : Nat), diff a b i = -1 ∨ (i : Int) ≤ diff a b i
  | x :: xs, y :: ys, i => by
    rw [diff]
    split
    · rcases diff_nonneg xs ys (i + 1) with h | h
      · exact .inl h
      · right; omega
    · right; exact Int.le_refl _
  | [], [], _ => .inl rfl
  | [], _ :: _, i => .inr (Int.le_refl _)
  | _ :: _, [], i => .inr (Int.le_refl _)
set_option maxHeartbeats 1000000 in
theorem f27 (n : Nat) (a b : List Mk) (hp : Heap) (ha : a.length ≤ 1000) (hb : b.length ≤ 1000) (hn : 1001 < n) :
    evalCall Try.prog hints (n + 1) 27 [.sl .sh a.length (a.flatMap Mk.cells), .sl .sh b.length (b.flatMap Mk.cells)] hp = some (.int .i64 (diff a b 0), hp, false) := by
  rw [evalCall_at _ _ _ hh27 rfl Try.func27 rfl (Nat.le_of_ble_eq_true rfl) rfl]
  obtain ⟨N, hN⟩ : ∃ N, N = max a.length b.length := ⟨_, rfl⟩
  obtain ⟨D, hD⟩ : ∃ D, D = diff a b 0 := ⟨_, rfl⟩
  simp
  generalize hit : iter _ _ _ = r
  refine iter_elim hit (fun k : Nat => { fr := [(0, .sl .sh a.length (a.flatMap Mk.cells)), (1, .sl .sh b.length (b.flatMap Mk.cells)), (5, .int .i64 k)], hp := hp, base := hp.length, dirty := false })
    (fun k => k ≤ N ∧ diff (a.drop k) (b.drop k) k = D) (fun k => N - k)
    (fun x : Bool × Nat => if x.1 then (.exit 0, { fr := [(0, .sl .sh a.length (a.flatMap Mk.cells)), (1, .sl .sh b.length (b.flatMap Mk.cells)), (5, .int .i64 N), (15, .bool false)], hp := hp, base := hp.length, dirty := false })
      else (.ret, { fr := [(4, .int .i64 x.2)], hp := hp, base := hp.length, dirty := false }))
    (fun x => if x.1 then D = -1 else D = x.2) 0 rfl ⟨by omega, by simp [hD]⟩ (by omega) ?_ ?_
  · rintro k ⟨h1, h2⟩
    have hla := flat_len Mk.len a
    have hlb := flat_len Mk.len b
    have w := wrap_id (x := (k : Int) + 1) (by omega)
    by_cases c0 : k < N
    · by_cases c1 : k < a.length
      · have c1' : ¬ (a.length : Int) ≤ k := by omega
        by_cases c2 : k < b.length
        · have c2' : ¬ (b.length : Int) ≤ k := by omega
          have ra := flat_row Mk.len a k c1
          have rb := flat_row Mk.len b k c2
          have ka : k * 6 + 6 ≤ a.length * 6 := by omega
          have kb : k * 6 + 6 ≤ b.length * 6 := by omega
          have em := eqM a[k] b[k]
          rw [diff_step a b k c1 c2] at h2
          by_cases c3 : a[k] = b[k]
          · rw [if_pos c3] at h2
            rw [decide_eq_true c3] at em
            left
            refine ⟨k + 1, ?_, ⟨by omega, h2⟩, by omega⟩
            generalize a.flatMap Mk.cells = X at *
            generalize b.flatMap Mk.cells = Y at *
            simp [c1, c2, c1', c2', hla, hlb, ra, rb, ka, kb, em, w]
          · rw [if_neg c3] at h2
            rw [decide_eq_false c3] at em
            right
            refine ⟨(false, k), ?_, by simp, h2.symm⟩
            generalize a.flatMap Mk.cells = X at *
            generalize b.flatMap Mk.cells = Y at *
            simp [c1, c2, c1', c2', hla, hlb, ra, rb, ka, kb, em]
        · rw [diff_one a b k (by omega) (by omega)] at h2
          have c2' : (b.length : Int) ≤ k := by omega
          right
          refine ⟨(false, k), ?_, by simp, h2.symm⟩
          simp [c1, c1', c2']
      · rw [diff_one a b k (by omega) (by omega)] at h2
        have c1' : (a.length : Int) ≤ k := by omega
        have c2 : k < b.length := by omega
        right
        refine ⟨(false, k), ?_, by simp, h2.symm⟩
        simp [c1, c1', c2]
    · right
      have : k = N := by omega
      subst this
      refine ⟨(true, 0), ?_, by simp, ?_⟩
      · have c1 : ¬ k < a.length := by omega
        have c2 : ¬ k < b.length := by omega
        simp [c1, c2]
      · rw [List.drop_eq_nil_of_le (by omega), List.drop_eq_nil_of_le (by omega)] at h2
        exact h2.symm
  · rintro ⟨b', k⟩ rfl h
    rw [← hD]
    cases b' with
    | true =>
      have h : D = -1 := h
      simp [h]
    | false =>
      have h : D = k := h
      simp [h]
theorem f28 (n : Nat) (a b : List Mk) (hp : Heap) (ha : a.length ≤ 1000) (hb : b.length ≤ 1000) (hn : 1001 < n) :
    evalCall Try.prog hints (n + 3) 28 [.sl .sh a.length (a.flatMap Mk.cells), .sl .sh b.length (b.flatMap Mk.cells)] hp = some (.bool (decide (diff a b 0 < 0)), hp, false) := by
  have e26 := f26 n a b hp ha hb (by omega)
  have hnn := diff_nonneg a b 0
  rw [evalCall_at _ _ _ hh28 rfl Try.func28 rfl (Nat.le_of_ble_eq_true rfl) rfl]
  generalize diff a b 0 = D at *
  by_cases h : D = -1
  · rw [if_pos h] at e26
    subst h
    simp [e26, Mk.cells, Mk.zero]
  · rw [if_neg h] at e26
    generalize atM a D.toNat = x at *
    generalize atM b D.toNat = y at *
    simp [e26, Mk.cells]
theorem f29 (n : Nat) (a b : List Mk) (hp : Heap) (ha : a.length ≤ 1000) (hb : b.length ≤ 1000) (hn : 1001 < n) :
    evalCall Try.prog hints (n + 4) 29 [.sl .sh a.length (a.flatMap Mk.cells), .sl .sh b.length (b.flatMap Mk.cells)] hp = some (.bool (decide (a.length ≤ b.length ∧ diff a (b.take a.length) 0 < 0)), hp, false) := by
  have e28 := f28 n a (b.take a.length) hp ha (by rw [List.length_take]; omega) hn
  rw [evalCall_at _ _ _ hh29 rfl Try.func29 rfl (Nat.le_of_ble_eq_true rfl) rfl]
  have hl := flat_len Mk.len b
  have ht := flat_take Mk.len b a.length
  by_cases h : a.length ≤ b.length
  · have h1 : (b.take a.length).length = a.length := by rw [List.length_take]; omega
    rw [h1] at e28
    rw [← ht] at e28
    generalize diff a (b.take a.length) 0 = D at *
    generalize a.flatMap Mk.cells = X at *
    generalize b.flatMap Mk.cells = Y at *
    simp [h, hl, e28]
  · simp [h]
/-- Are two rows the same? -/
theorem f31 (n : Nat) (a b : List Mk) (hp : Heap) (ha : a.length ≤ 1000) (hn : 1001 < n) :
    evalCall Try.prog hints (n + 1) 31 [.sl .sh a.length (a.flatMap Mk.cells), .sl .sh b.length (b.flatMap Mk.cells)] hp = some (.bool (decide (a = b)), hp, false) := by
  rw [evalCall_at _ _ _ hh31 rfl Try.func31 rfl (Nat.le_of_ble_eq_true rfl) rfl]
  by_cases hlen : a.length = b.length
  · have hlen' : ((a.length : Int) != b.length) = false := by simp; omega
    simp [hlen']
    generalize hit : iter _ _ _ = r
    refine iter_elim hit (fun k : Nat => { fr := [(0, .sl .sh a.length (a.flatMap Mk.cells)), (1, .sl .sh b.length (b.flatMap Mk.cells)), (5, .int .i64 k)], hp := hp, base := hp.length, dirty := false })
      (fun k => k ≤ a.length ∧ a.take k = b.take k) (fun k => a.length - k)
      (fun x : Bool => if x then (.exit 0, { fr := [(0, .sl .sh a.length (a.flatMap Mk.cells)), (1, .sl .sh b.length (b.flatMap Mk.cells)), (5, .int .i64 a.length), (14, .bool false)], hp := hp, base := hp.length, dirty := false })
        else (.ret, { fr := [(4, .bool false)], hp := hp, base := hp.length, dirty := false }))
      (fun x => decide (a = b) = x) 0 rfl ⟨by omega, by simp⟩ (by omega) ?_ ?_
    · rintro k ⟨h1, h2⟩
      have hla := flat_len Mk.len a
      have hlb := flat_len Mk.len b
      have w := wrap_id (x := (k : Int) + 1) (by omega)
      by_cases c1 : k < a.length
      · have c2 : k < b.length := by omega
        have ra := flat_row Mk.len a k c1
        have rb := flat_row Mk.len b k c2
        have ka : k * 6 + 6 ≤ a.length * 6 := by omega
        have kb : k * 6 + 6 ≤ b.length * 6 := by omega
        have em := eqM a[k] b[k]
        by_cases c3 : a[k] = b[k]
        · rw [decide_eq_true c3] at em
          left
          refine ⟨k + 1, ?_, ⟨by omega, ?_⟩, by omega⟩
          · generalize a.flatMap Mk.cells = X at *
            generalize b.flatMap Mk.cells = Y at *
            simp [c1, c2, hla, hlb, ra, rb, ka, kb, em, w]
          · rw [List.take_succ_eq_append_getElem c1, List.take_succ_eq_append_getElem c2, h2, c3]
        · rw [decide_eq_false c3] at em
          right
          refine ⟨false, ?_, by simp, ?_⟩
          · generalize a.flatMap Mk.cells = X at *
            generalize b.flatMap Mk.cells = Y at *
            simp [c1, c2, hla, hlb, ra, rb, ka, kb, em]
          · exact decide_eq_false fun e => c3 (by subst e; rfl)
      · right
        have : k = a.length := by omega
        subst this
        refine ⟨true, ?_, by simp, ?_⟩
        · simp
        · rw [List.take_of_length_le (Nat.le_refl _), List.take_of_length_le (by omega)] at h2
          exact decide_eq_true h2
    · rintro b' rfl h
      rw [h]
      cases b' <;> simp
  · have hlen' : ((a.length : Int) != b.length) = true := by simp; omega
    have : ¬ a = b := fun e => hlen (by rw [e])
    simp [hlen', this]
end Go.Proofs.Ytoipglmjnibdpaa
end

section
namespace Go.Proofs.Ytoipglmjnibdpaa
open Go Go.PS
theorem f65 (n i : Nat) (m : Mk) (t : Int) (hp : Heap) (hi : hp[i]? = some [.int .i64 t]) : evalCall Try.prog hints (n + 1) 65 [.agg m.cells, .ptr (.heap i) none 0] hp = some (.bool (decide (t ≤ m.tick)), hp, false) := by
  rw [evalCall_at _ _ _ hh65 rfl Try.func65 rfl (Nat.le_of_ble_eq_true rfl) rfl]
  simp [Mk.cells, hi]
def up (l : List Mk) (t : Int) : Nat := (l.takeWhile fun m => decide (m.tick < t)).length
theorem up_le (l : List Mk) (t : Int) : up l t ≤ l.length := (List.takeWhile_sublist _).length_le
theorem up_lt : ∀ (l : List Mk) (t : Int) (k : Nat) (h : k < l.length), k < up l t → l[k].tick < t
  | x :: l, t, 0, _, h => by
    unfold up at h
    rw [List.takeWhile_cons] at h
    split at h
    · rename_i hx; simpa using hx
    · simp at h
  | x :: l, t, k + 1, hk, h => by
    unfold up at h
    rw [List.takeWhile_cons] at h
    split at h
    · simp at h
      exact up_lt l t k (by simpa using hk) h
    · simp at h
theorem up_at : ∀ (l : List Mk) (t : Int) (h : up l t < l.length), t ≤ l[up l t].tick
  | x :: l, t, h => by
    have e : up (x :: l) t = if x.tick < t then up l t + 1 else 0 := by
      unfold up
      rw [List.takeWhile_cons]
      by_cases hx : x.tick < t <;> simp [hx]
    by_cases hx : x.tick < t
    · rw [if_pos hx] at e
      have h' : up l t < l.length := by rw [e] at h; simpa using h
      have := up_at l t h'
      simp only [e]
      simpa using this
    · rw [if_neg hx] at e
      simp only [e]
      simp
      omega
set_option maxHeartbeats 1000000 in
theorem f64 (n i : Nat) (l : List Mk) (t : Int) (hp : Heap) (hi : hp[i]? = some [.int .i64 t]) (hl : l.length ≤ 1000) (hn : 1001 < n) :
    evalCall Try.prog hints (n + 2) 64 [.sl .sh l.length (l.flatMap Mk.cells), .fn 65 [.ptr (.heap i) none 0]] hp = some (.int .i64 (if up l t < l.length then (up l t : Int) else -1), hp, false) := by
  rw [evalCall_at _ _ _ hh64 rfl Try.func64 rfl (Nat.le_of_ble_eq_true rfl) rfl]
  have hu := up_le l t
  simp
  generalize hit : iter _ _ _ = r
  refine iter_elim hit (fun k : Nat => { fr := [(0, .sl .sh l.length (l.flatMap Mk.cells)), (1, .fn 65 [.ptr (.heap i) none 0]), (7, .int .i64 l.length), (8, .int .i64 k)], hp := hp, base := hp.length, dirty := false })
    (fun k => k ≤ up l t) (fun k => l.length - k)
    (fun x : Bool => if x then (.exit 0, { fr := [(0, .sl .sh l.length (l.flatMap Mk.cells)), (1, .fn 65 [.ptr (.heap i) none 0]), (7, .int .i64 l.length), (8, .int .i64 l.length), (9, .bool false)], hp := hp, base := hp.length, dirty := false })
      else (.ret, { fr := [(4, .int .i64 (up l t))], hp := hp, base := hp.length, dirty := false }))
    (fun x => x = true ↔ ¬ up l t < l.length) 0 rfl (by omega) (by omega) ?_ ?_
  · rintro k h1
    have hla := flat_len Mk.len l
    have w := wrap_id (x := (k : Int) + 1) (by omega)
    by_cases c1 : k < l.length
    · have ra := flat_row Mk.len l k c1
      have ka : k * 6 + 6 ≤ l.length * 6 := by omega
      have e65 := f65 n i l[k] t hp hi
      by_cases c2 : k < up l t
      · have c3 := up_lt l t k c1 c2
        have c3' : ¬ t ≤ l[k].tick := by omega
        rw [decide_eq_false c3'] at e65
        left
        refine ⟨k + 1, ?_, by omega, by omega⟩
        generalize l.flatMap Mk.cells = X at *
        generalize l[k] = m at *
        simp only [Mk.cells] at ra e65
        simp [c1, hla, ra, ka, e65, w]
      · have hk : k = up l t := by omega
        subst hk
        have c3 := up_at l t c1
        rw [decide_eq_true c3] at e65
        right
        refine ⟨false, ?_, by simp, by simp [c1]⟩
        generalize l.flatMap Mk.cells = X at *
        generalize l[up l t] = m at *
        simp only [Mk.cells] at ra e65
        simp [c1, hla, ra, ka, e65]
    · right
      have : k = l.length := by omega
      subst this
      refine ⟨true, ?_, by simp, by simp; omega⟩
      simp
  · rintro b rfl h
    cases b with
    | true =>
      have c : ¬ up l t < l.length := h.1 rfl
      simp [c]
    | false =>
      have c : up l t < l.length := by
        by_cases c : up l t < l.length
        · exact c
        · have := h.2 c; cases this
      simp [c]
theorem f66 (n : Nat) (l : List Mk) (hp : Heap) (hl : l.length ≤ 1000) : evalCall Try.prog hints (n + 1) 66 [.sl .sh l.length (l.flatMap Mk.cells)] hp = some (.sl (.mu 6) l.length (l.flatMap Mk.cells), hp, false) := by
  have hla := flat_len Mk.len l
  have hst := flat_all (f := Mk.cells) (fun _ => rfl) l
  have hou := flat_out (f := Mk.cells) (fun _ => rfl) l
  unfold evalCall
  rw [hh66]
  simp only [hint66]
  generalize l.flatMap Mk.cells = X at *
  have c : l.length ≤ 4194304 := by omega
  simp [primCall, c, hla, hst, hou]
theorem f32 (n : Nat) (l : List Mk) (t : Int) (hp : Heap) (hl : l.length ≤ 1000) (hn : 1001 < n) :
    ∃ hp', evalCall Try.prog hints (n + 3) 32 [.sl .sh l.length (l.flatMap Mk.cells), .int .i64 t] hp = some (.sl (.mu 6) (up l t) ((l.take (up l t)).flatMap Mk.cells), hp', false) := by
  have hu := up_le l t
  have e64 := f64 n hp.length l t (hp ++ [[.int .i64 t]]) (by simp) hl hn
  have htl : (l.take (up l t)).length = up l t := by rw [List.length_take]; omega
  have e66 := f66 (n + 1) (l.take (up l t)) (hp ++ [[.int .i64 t]]) (by omega)
  rw [htl] at e66
  have hla := flat_len Mk.len l
  have hft := flat_take Mk.len l (up l t)
  rw [evalCall_at _ _ _ hh32 rfl Try.func32 rfl (Nat.le_of_ble_eq_true rfl) rfl]
  refine ⟨hp ++ [[.int .i64 t]], ?_⟩
  by_cases c : up l t < l.length
  · rw [if_pos c] at e64
    have c1 : ¬ (up l t : Int) < 0 := by omega
    generalize (l.take (up l t)).flatMap Mk.cells = Y at *
    generalize l.flatMap Mk.cells = X at *
    simp [e64, c1, hu, hla, hft, e66]
  · rw [if_neg c] at e64
    have cu : up l t = l.length := by omega
    rw [cu] at e66 hft ⊢
    generalize (l.take l.length).flatMap Mk.cells = Y at *
    generalize l.flatMap Mk.cells = X at *
    simp [e64, hla, hft, e66]
set_option maxHeartbeats 1000000 in
theorem f33 (n : Nat) (l : List Mk) (t : Int) (hp : Heap) (hl : l.length ≤ 1000) (hn : 1001 < n) :
    evalCall Try.prog hints (n + 1) 33 [.sl .sh l.length (l.flatMap Mk.cells), .int .i64 t] hp = some (.sl (.mu 6) (up l t) ((l.take (up l t)).flatMap Mk.cells), hp, false) := by
  have hu := up_le l t
  rw [evalCall_at _ _ _ hh33 rfl Try.func33 rfl (Nat.le_of_ble_eq_true rfl) rfl]
  simp
  generalize hit : iter _ _ _ = r
  refine iter_elim hit (fun k : Nat => { fr := [(0, .sl .sh l.length (l.flatMap Mk.cells)), (1, .int .i64 t), (5, .sl (.mu 6) k ((l.take k).flatMap Mk.cells)), (6, .int .i64 k)], hp := hp, base := hp.length, dirty := false })
    (fun k => k ≤ up l t) (fun k => l.length - k)
    (fun x : Bool => if x then (.exit 0, { fr := [(0, .sl .sh l.length (l.flatMap Mk.cells)), (1, .int .i64 t), (5, .sl (.mu 6) (up l t) ((l.take (up l t)).flatMap Mk.cells)), (6, .int .i64 l.length), (11, .bool false)], hp := hp, base := hp.length, dirty := false })
      else (.ret, { fr := [(4, .sl (.mu 6) (up l t) ((l.take (up l t)).flatMap Mk.cells))], hp := hp, base := hp.length, dirty := false }))
    (fun _ => True) 0 rfl (by omega) (by omega) ?_ ?_
  · rintro k h1
    have hla := flat_len Mk.len l
    have hlk := flat_len Mk.len (l.take k)
    have w := wrap_id (x := (k : Int) + 1) (by omega)
    by_cases c1 : k < l.length
    · have ra := flat_row Mk.len l k c1
      have ka : k * 6 + 6 ≤ l.length * 6 := by omega
      have g0 := flat_get Mk.len l k c1 0 (by omega)
      have htl : (l.take k).length = k := by rw [List.length_take]; omega
      have hap : (l.take (k + 1)).flatMap Mk.cells = (l.take k).flatMap Mk.cells ++ l[k].cells := by
        rw [List.take_succ_eq_append_getElem c1, List.flatMap_append]; simp
      rw [htl] at hlk
      by_cases c2 : k < up l t
      · have c3 := up_lt l t k c1 c2
        have c3' : ¬ t ≤ l[k].tick := by omega
        have l1 : (k + 1) * 56 ≤ 140737488355328 := by omega
        left
        refine ⟨k + 1, ?_, by omega, by omega⟩
        rw [hap]
        generalize (l.take k).flatMap Mk.cells = Y at *
        generalize l.flatMap Mk.cells = X at *
        generalize l[k] = m at *
        simp only [Mk.cells, Nat.add_zero] at ra g0
        simp at g0
        simp [-getElem?_pos, List.getElem?_cons_zero, c1, hla, ra, ka, g0, c3', w, hlk, l1, Mk.cells]
      · have hk : k = up l t := by omega
        subst hk
        have c3 := up_at l t c1
        right
        refine ⟨false, ?_, by simp, trivial⟩
        generalize (l.take (up l t)).flatMap Mk.cells = Y at *
        generalize l.flatMap Mk.cells = X at *
        generalize l[up l t] = m at *
        simp only [Mk.cells, Nat.add_zero] at ra g0
        simp at g0
        simp [-getElem?_pos, List.getElem?_cons_zero, c1, hla, ra, ka, g0, c3]
    · right
      have : k = l.length := by omega
      have h2 : up l t = l.length := by omega
      subst this
      refine ⟨true, ?_, by simp, trivial⟩
      rw [h2]
      simp
  · rintro b rfl -
    cases b with
    | true => simp
    | false => simp
theorem diff_same : ∀ (a : List Mk) (i : Nat), diff a a i = -1
  | [], _ => rfl
  | x :: a, i => by rw [diff, if_pos rfl, diff_same a]
theorem prefix_iff : ∀ (a b : List Mk) (i : Nat), (a.length ≤ b.length ∧ diff a (b.take a.length) i < 0) ↔ (diff a b i < 0 ∨ diff a b i = i + a.length)
  | [], [], i => by simp [diff]
  | [], y :: ys, i => by simp [diff]
  | x :: xs, [], i => by simp [diff]; omega
  | x :: xs, y :: ys, i => by
    have ih := prefix_iff xs ys (i + 1)
    simp only [List.length_cons, List.take_succ_cons, diff]
    by_cases h : x = y
    · simp only [if_pos h]
      rw [Nat.add_le_add_iff_right, ih]
      omega
    · simp only [if_neg h]
      omega
end Go.Proofs.Ytoipglmjnibdpaa
end

section
namespace Go.Proofs.Ytoipglmjnibdpaa
open Go Go.PS
theorem live30 : fstR (evalCall Try.prog hints 5020 30 [] []) = some (.bool true) := by kernel_rfl
theorem mk_of (r : List PV) (h : Ty Try.prog 36 r) : ∃ m : Mk, r = m.cells ∧ True := by
  obtain ⟨parts, rfl, h1, h2⟩ := ty_struct Try.underlying36 h
  match parts, h1, h2 with
  | [p0, p1, p2, p3, p4, p5], _, h2 =>
    obtain ⟨a, rfl, _⟩ := ty_int Try.underlying3 (h2 0 _ _ rfl rfl)
    obtain ⟨b, rfl, _⟩ := ty_int Try.underlying34 (h2 1 _ _ rfl rfl)
    obtain ⟨c, rfl, _⟩ := ty_int Try.underlying3 (h2 2 _ _ rfl rfl)
    obtain ⟨d, rfl, _⟩ := ty_int Try.underlying3 (h2 3 _ _ rfl rfl)
    obtain ⟨e, rfl, _⟩ := ty_int Try.underlying3 (h2 4 _ _ rfl rfl)
    obtain ⟨s, rfl, _⟩ := ty_str Try.underlying9 (h2 5 _ _ rfl rfl)
    exact ⟨⟨a, b, c, d, e, s⟩, rfl, trivial⟩
set_option maxHeartbeats 8000000 in
theorem f5 (a b : List Mk) (t : Int) (ha : a.length ≤ 9223372036854775807) (hb : b.length ≤ 9223372036854775807) :
    ∃ hp d, evalCall Try.prog hints 5021 5 [.sl .sh a.length (a.flatMap Mk.cells), .sl .sh b.length (b.flatMap Mk.cells), .int .i64 t] [] = some (.bool true, hp, d) := by
  apply of_map
  obtain ⟨hpl, dl, lv⟩ := of_map live30
  obtain ⟨p, hp⟩ : ∃ p, p = min a.length 100 := ⟨_, rfl⟩
  obtain ⟨q, hq⟩ : ∃ q, q = min b.length 100 := ⟨_, rfl⟩
  have hp' : (if (100 : Int) < a.length then 100 else (a.length : Int)) = (p : Int) := by split <;> omega
  have hq' : (if (100 : Int) < b.length then 100 else (b.length : Int)) = (q : Int) := by split <;> omega
  have hp2 : (p : Int) ≤ a.length := by omega
  have hq2 : (q : Int) ≤ b.length := by omega
  have fa := flat_take Mk.len a p
  have fb := flat_take Mk.len b q
  have hla := flat_len Mk.len a
  have hlb := flat_len Mk.len b
  have la : (a.take p).length = p := by rw [List.length_take]; omega
  have lb : (b.take q).length = q := by rw [List.length_take]; omega
  have hp100 : p ≤ 100 := by omega
  have hq100 : q ≤ 100 := by omega
  generalize a.take p = A at *
  generalize b.take q = B at *
  have e26 := fun hp => f26 5018 A B hp (by omega) (by omega) (by omega)
  have e27 := fun hp => f27 5019 A B hp (by omega) (by omega) (by omega)
  have e28 := fun hp => f28 5017 A B hp (by omega) (by omega) (by omega)
  have e28' := fun hp => f28 5017 A A hp (by omega) (by omega) (by omega)
  have e29 := fun hp => f29 5016 A B hp (by omega) (by omega) (by omega)
  have e32 := fun hp => f32 5017 A t hp (by omega) (by omega)
  have e33 := fun hp => f33 5019 A t hp (by omega) (by omega)
  have hu := up_le A t
  have ul : (A.take (up A t)).length = up A t := by rw [List.length_take]; omega
  have e31 := fun hp => f31 5019 (A.take (up A t)) (A.take (up A t)) hp (by omega) (by omega)
  have uo := flat_out (f := Mk.cells) (fun _ => rfl) (A.take (up A t))
  have ua := flat_all (f := Mk.cells) (fun _ => rfl) (A.take (up A t))
  have hp1 : ((A.take (up A t)).flatMap Mk.cells).all plain1 = true := by
    generalize A.take (up A t) = l
    induction l with
    | nil => rfl
    | cons x l ih => rw [List.flatMap_cons, List.all_append, ih]; rfl
  have pfx := prefix_iff A B 0
  have pd : decide (A.length ≤ B.length ∧ diff A (B.take A.length) 0 < 0) = (decide (diff A B 0 < 0) || decide (diff A B 0 = A.length)) := by
    rw [Bool.eq_iff_iff]; simp only [decide_eq_true_eq, Bool.or_eq_true]
    rw [pfx]; simp
  rw [pd] at e29
  rw [diff_same] at e28'
  rw [ul] at e31
  simp only [la, lb, decide_true] at e26 e27 e28 e28' e29 e31 e32 e33
  have hnn := diff_nonneg A B 0
  have hgA : ∀ k : Nat, k < p → ((A.flatMap Mk.cells).drop (k * 6)).take 6 = (atM A k).cells := fun k hk => by
    rw [flat_row Mk.len A k (by omega)]; simp [atM, la, hk]
  have hgB : ∀ k : Nat, k < q → ((B.flatMap Mk.cells).drop (k * 6)).take 6 = (atM B k).cells := fun k hk => by
    rw [flat_row Mk.len B k (by omega)]; simp [atM, lb, hk]
  have hzA : ∀ k : Nat, ¬ k < p → atM A k = Mk.zero := fun k hk => by simp [atM, la, Nat.le_of_not_lt hk]
  have hzB : ∀ k : Nat, ¬ k < q → atM B k = Mk.zero := fun k hk => by simp [atM, lb, Nat.le_of_not_lt hk]
  have lA := flat_len Mk.len A
  have lB := flat_len Mk.len B
  rw [la] at lA
  rw [lb] at lB
  rw [evalCall_at _ _ _ hh5 rfl Try.func5 rfl (Nat.le_of_ble_eq_true rfl) rfl]
  obtain ⟨hpf, e32⟩ : ∃ hpf, ∃ hpf2, (evalCall Try.prog hints (5017 + 3) 32 [.sl .sh p (A.flatMap Mk.cells), .int .i64 t] (if dl then hpl else []) = some (.sl (.mu 6) (up A t) ((A.take (up A t)).flatMap Mk.cells), hpf, false)) ∧ hpf2 = hpf := by
    obtain ⟨x, hx⟩ := e32 (if dl then hpl else [])
    exact ⟨x, x, hx, rfl⟩
  obtain ⟨_, e32, _⟩ := e32
  have emz : eqT Try.prog 20 36 Mk.zero.cells Mk.zero.cells = some true := by rw [eqM]; simp
  by_cases hD : diff A B 0 = -1
  · simp only [hD, if_true] at e26 e27 e28 e29
    generalize A.flatMap Mk.cells = X at *
    generalize B.flatMap Mk.cells = Y at *
    generalize (A.take (up A t)).flatMap Mk.cells = U at *
    simp only [Mk.cells, Mk.zero] at emz e26
    have pm : ((-1 : Int) == (p : Int)) = false := by simp
    cases dl with
    | true =>
      simp only [if_true] at e32
      simp [hp', hq', hp2, hq2, fa, fb, hla, hlb, e26, e27, e28, e28', e29, e32, e33, e31, lv, emz, uo, ua, hp1]
    | false =>
      simp only [Bool.false_eq_true, if_false] at e32
      simp [hp', hq', hp2, hq2, fa, fb, hla, hlb, e26, e27, e28, e28', e29, e32, e33, e31, lv, emz, uo, ua, hp1]
  · obtain ⟨k, hk⟩ : ∃ k : Nat, diff A B 0 = k := ⟨(diff A B 0).toNat, by omega⟩
    have hk1 : ¬ (k : Int) = -1 := by omega
    have hk2 : ¬ (k : Int) < 0 := by omega
    have hk3 : (0 : Int) ≤ k := by omega
    simp only [hk, if_neg hk1, Int.toNat_natCast] at e26
    rw [hk] at e27 e28 e29
    have gA := hgA k
    have gB := hgB k
    have zA := hzA k
    have zB := hzB k
    have emA := eqM (atM A k) (atM A k)
    have emB := eqM (atM B k) (atM B k)
    rw [decide_eq_true rfl] at emA emB
    generalize atM A k = mA at *
    generalize atM B k = mB at *
    generalize A.flatMap Mk.cells = X at *
    generalize B.flatMap Mk.cells = Y at *
    generalize (A.take (up A t)).flatMap Mk.cells = U at *
    by_cases c1 : k < p
    · have gA := gA c1
      have i1 : k * 6 + 6 ≤ p * 6 := by omega
      have c1' : ((k : Int) == p) = false := by simp; omega
      have c1'' : ¬ (k : Int) = p := by omega
      by_cases c2 : k < q
      · have gB := gB c2
        have i2 : k * 6 + 6 ≤ q * 6 := by omega
        simp only [Mk.cells] at emA emB e26 gA gB
        cases dl with
        | true =>
          simp only [if_true] at e32
          simp [hp', hq', hp2, hq2, fa, fb, hla, hlb, e26, e27, e28, e28', e29, e32, e33, e31, lv, emz, uo, ua, hp1, hk2, hk3, c1, c2, c1', c1'', gA, gB, i1, i2, lA, lB, emA, emB]
        | false =>
          simp only [Bool.false_eq_true, if_false] at e32
          simp [hp', hq', hp2, hq2, fa, fb, hla, hlb, e26, e27, e28, e28', e29, e32, e33, e31, lv, emz, uo, ua, hp1, hk2, hk3, c1, c2, c1', c1'', gA, gB, i1, i2, lA, lB, emA, emB]
      · have zB := zB c2
        subst zB
        simp only [Mk.cells] at emA e26 gA
        simp only [Mk.cells, Mk.zero] at emz e26
        cases dl with
        | true =>
          simp only [if_true] at e32
          simp [hp', hq', hp2, hq2, fa, fb, hla, hlb, e26, e27, e28, e28', e29, e32, e33, e31, lv, emz, uo, ua, hp1, hk2, hk3, c1, c2, c1', c1'', gA, i1, lA, lB, emA]
        | false =>
          simp only [Bool.false_eq_true, if_false] at e32
          simp [hp', hq', hp2, hq2, fa, fb, hla, hlb, e26, e27, e28, e28', e29, e32, e33, e31, lv, emz, uo, ua, hp1, hk2, hk3, c1, c2, c1', c1'', gA, i1, lA, lB, emA]
    · have zA := zA c1
      subst zA
      obtain ⟨bp, hbp⟩ : ∃ bp : Bool, ((k : Int) == p) = bp := ⟨_, rfl⟩
      have hbp' : decide ((k : Int) = p) = bp := by rw [← hbp]; rfl
      rw [hbp'] at e29
      by_cases c2 : k < q
      · have gB := gB c2
        have i2 : k * 6 + 6 ≤ q * 6 := by omega
        simp only [Mk.cells] at emB e26 gB
        simp only [Mk.cells, Mk.zero] at emz e26
        cases dl with
        | true =>
          simp only [if_true] at e32
          simp [hp', hq', hp2, hq2, fa, fb, hla, hlb, e26, e27, e28, e28', e29, e32, e33, e31, lv, emz, uo, ua, hp1, hk2, hk3, c1, c2, hbp, gB, i2, lA, lB, emB]
        | false =>
          simp only [Bool.false_eq_true, if_false] at e32
          simp [hp', hq', hp2, hq2, fa, fb, hla, hlb, e26, e27, e28, e28', e29, e32, e33, e31, lv, emz, uo, ua, hp1, hk2, hk3, c1, c2, hbp, gB, i2, lA, lB, emB]
      · have zB := zB c2
        subst zB
        simp only [Mk.cells, Mk.zero] at emz e26
        cases dl with
        | true =>
          simp only [if_true] at e32
          simp [hp', hq', hp2, hq2, fa, fb, hla, hlb, e26, e27, e28, e28', e29, e32, e33, e31, lv, emz, uo, ua, hp1, hk2, hk3, c1, c2, hbp, lA, lB]
        | false =>
          simp only [Bool.false_eq_true, if_false] at e32
          simp [hp', hq', hp2, hq2, fa, fb, hla, hlb, e26, e27, e28, e28', e29, e32, e33, e31, lv, emz, uo, ua, hp1, hk2, hk3, c1, c2, hbp, lA, lB]
end Go.Proofs.Ytoipglmjnibdpaa
end

section
namespace Go.Proofs.Ytoipglmjnibdpaa
open Go Go.PS
theorem wrap_byte (b : UInt8) : IntKind.i64.wrap (b.toNat : Int) = b.toNat := by
  have := b.toNat_lt
  exact wrap_id (by omega)
theorem set_at {α : Type} (l : List α) (a b : α) : (l ++ [a]).set l.length b = l ++ [b] := by
  simp
def rdC (e : Int) (s : List UInt8) (p : Nat) : List PV := [.int .i64 e, .str s, .int .i64 p]
theorem f80 (n : Nat) (s : List UInt8) (hp : Heap) : evalCall Try.prog hints (n + 1) 80 [.str s] hp = some (.ptr (.heap hp.length) none 0, hp ++ [rdC 0 s 0], false) := by
  rw [evalCall_at _ _ _ hh80 rfl Try.func80 rfl (Nat.le_of_ble_eq_true rfl) rfl]
  simp [rdC]
theorem f81 (n i : Nat) (e : Int) (s : List UInt8) (p : Nat) (hp : Heap) (hi : hp[i]? = some (rdC e s p)) (hs : s.length ≤ 9223372036854775807) (hp' : p ≤ s.length) :
    evalCall Try.prog hints (n + 1) 81 [.ptr (.heap i) none 0] hp = some (.int .i64 (if e = 0 then (s.length : Int) - p else 0), hp, false) := by
  rw [evalCall_at _ _ _ hh81 rfl Try.func81 rfl (Nat.le_of_ble_eq_true rfl) rfl]
  have w := wrap_id (x := (s.length : Int) - p) (by omega)
  by_cases h : e = 0
  · simp [hi, rdC, h, w]
  · have h' : (e != 0) = true := by simp [h]
    simp [hi, rdC, h, h']
theorem f85 (n i : Nat) (e : Int) (s : List UInt8) (p : Nat) (hp : Heap) (hi : hp[i]? = some (rdC e s p)) :
    evalCall Try.prog hints (n + 1) 85 [.ptr (.heap i) none 0] hp = some (.int .i64 e, hp, false) := by
  rw [evalCall_at _ _ _ hh85 rfl Try.func85 rfl (Nat.le_of_ble_eq_true rfl) rfl]
  simp [hi, rdC]
theorem f105 (n i : Nat) (e c : Int) (s : List UInt8) (p : Nat) (hp : Heap) (hi : hp[i]? = some (rdC e s p)) (he : e = 0) :
    evalCall Try.prog hints (n + 1) 105 [.ptr (.heap i) none 0, .int .i64 c] hp = some (.tup [], hp.set i (rdC c s p), true) := by
  have hl : i < hp.length := (List.getElem?_eq_some_iff.1 hi).1
  rw [evalCall_at _ _ _ hh105 rfl Try.func105 rfl (Nat.le_of_ble_eq_true rfl) rfl]
  simp [hi, rdC, he]
  exact hl
/-- What a reader's next bytes are. -/
theorem f98e (n i : Nat) (e : Int) (s : List UInt8) (p : Nat) (k : Int) (hp : Heap) (hi : hp[i]? = some (rdC e s p)) (he : e ≠ 0) :
    evalCall Try.prog hints (n + 2) 98 [.ptr (.heap i) none 0, .int .i64 k] hp = some (.str [], hp, false) := by
  have h' : (e != 0) = true := by simp [he]
  rw [evalCall_at _ _ _ hh98 rfl Try.func98 rfl (Nat.le_of_ble_eq_true rfl) rfl]
  simp [hi, rdC, h']
theorem f98s (n i : Nat) (s : List UInt8) (p : Nat) (k : Nat) (hp : Heap) (hi : hp[i]? = some (rdC 0 s p)) (hs : s.length ≤ 4611686018427387904) (hp' : p ≤ s.length) (hk : s.length < p + k) :
    evalCall Try.prog hints (n + 2) 98 [.ptr (.heap i) none 0, .int .i64 k] hp = some (.str [], hp.set i (rdC 5 s p), true) := by
  have e105 := f105 n i 0 5 s p hp hi rfl
  have w := wrap_id (x := (s.length : Int) - p) (by omega)
  have h2 : (s.length : Int) - p < k := by omega
  have h3 : ¬ (k : Int) < 0 := by omega
  rw [evalCall_at _ _ _ hh98 rfl Try.func98 rfl (Nat.le_of_ble_eq_true rfl) rfl]
  simp [rdC] at hi e105
  simp [hi, rdC, h2, h3, w, e105]
theorem f98 (n i : Nat) (s : List UInt8) (p : Nat) (k : Nat) (hp : Heap) (hi : hp[i]? = some (rdC 0 s p)) (hs : s.length ≤ 4611686018427387904) (hk : p + k ≤ s.length) :
    evalCall Try.prog hints (n + 2) 98 [.ptr (.heap i) none 0, .int .i64 k] hp = some (.str ((s.drop p).take k), hp.set i (rdC 0 s (p + k)), true) := by
  have hl : i < hp.length := (List.getElem?_eq_some_iff.1 hi).1
  have w := wrap_id (x := (s.length : Int) - p) (by omega)
  have w2 := wrap_id (x := (p : Int) + k) (by omega)
  have h2 : ¬ (s.length : Int) - p < k := by omega
  have h3 : ¬ (k : Int) < 0 := by omega
  have h4 : (p : Int) + k ≤ s.length := by omega
  have h5 : ((p : Int) + k).toNat = p + k := by omega
  have h6 : (0 : Int) ≤ (p : Int) + k := by omega
  have h7 : (p : Int) ≤ (p : Int) + k := by omega
  rw [evalCall_at _ _ _ hh98 rfl Try.func98 rfl (Nat.le_of_ble_eq_true rfl) rfl]
  simp [rdC] at hi
  simp [hi, rdC, h2, h3, w, w2, h4, h5, h6, h7]
  exact hl
theorem and255 (x : Nat) (h : x < 256) : (BitVec.ofInt 64 (x : Int) &&& BitVec.ofInt 64 255).toNat = x := by
  rw [BitVec.toNat_and, BitVec.toNat_ofInt, BitVec.toNat_ofInt]
  have e1 : ((x : Int) % (2 ^ 64 : Nat)).toNat = x := by omega
  have e2 : ((255 : Int) % (2 ^ 64 : Nat)).toNat = 2 ^ 8 - 1 := by decide
  rw [e1, e2, Nat.and_two_pow_sub_one_eq_mod]
  omega
theorem or_two (x y : Nat) (hx : x < 256) (hy : y < 256) : (BitVec.ofInt 64 (x : Int) ||| BitVec.ofInt 64 ((y : Int) * 256)).toNat = x + 256 * y := by
  rw [BitVec.toNat_or, BitVec.toNat_ofInt, BitVec.toNat_ofInt]
  have e1 : ((x : Int) % (2 ^ 64 : Nat)).toNat = x := by omega
  have e2 : (((y : Int) * 256) % (2 ^ 64 : Nat)).toNat = y <<< 8 := by rw [Nat.shiftLeft_eq]; omega
  rw [e1, e2, Nat.or_comm, ← Nat.shiftLeft_add_eq_or_of_lt hx, Nat.shiftLeft_eq]
  omega
theorem f99 (n : Nat) (x y : UInt8) (hp : Heap) : evalCall Try.prog hints (n + 1) 99 [.int .i64 (x.toNat : Int), .int .i64 (y.toNat : Int)] hp = some (.int .i64 ((x.toNat : Int) + 256 * y.toNat), hp, false) := by
  have hx := x.toNat_lt
  have hy := y.toNat_lt
  have b1 : ∀ z : UInt8, binI .and .i64 (z.toNat : Int) 255 = some (.int .i64 z.toNat) := fun z => by
    show some (PV.int .i64 (IntKind.i64.wrap ((BitVec.ofInt 64 (z.toNat : Int) &&& BitVec.ofInt 64 255).toNat : Nat))) = _
    rw [and255 z.toNat z.toNat_lt, wrap_byte]
  have w2 := wrap_id (x := ((x.toNat + 256 * y.toNat : Nat) : Int)) (by omega)
  have b2 : binI .or .i64 (x.toNat : Int) ((y.toNat : Int) * 256) = some (.int .i64 ((x.toNat : Int) + 256 * y.toNat)) := by
    show some (PV.int .i64 (IntKind.i64.wrap ((BitVec.ofInt 64 (x.toNat : Int) ||| BitVec.ofInt 64 ((y.toNat : Int) * 256)).toNat : Nat))) = _
    rw [or_two x.toNat y.toNat hx hy, w2]
    simp
  have w := wrap_id (x := (y.toNat : Int) * 256) (by omega)
  rw [evalCall_at _ _ _ hh99 rfl Try.func99 rfl (Nat.le_of_ble_eq_true rfl) rfl]
  simp [-binI, b1, b2, w]
end Go.Proofs.Ytoipglmjnibdpaa
end

section
namespace Go.Proofs.Ytoipglmjnibdpaa
open Go Go.PS
section
variable (n i : Nat) (s : List UInt8) (p : Nat) (hp : Heap)
theorem f82 (hi : hp[i]? = some (rdC 0 s p)) (hs : s.length ≤ 4611686018427387904) (a b : UInt8) (r : List UInt8) (hk : s.drop p = a :: b :: r) :
    evalCall Try.prog hints (n + 3) 82 [.ptr (.heap i) none 0] hp = some (.int .i64 ((a.toNat : Int) + 256 * b.toNat), hp.set i (rdC 0 s (p + 2)), true) := by
  have hl : p + 2 ≤ s.length := by have := congrArg List.length hk; simp at this; omega
  have e98 := f98 n i s p 2 hp hi hs hl
  rw [hk] at e98
  simp at e98
  rw [evalCall_at _ _ _ hh82 rfl Try.func82 rfl (Nat.le_of_ble_eq_true rfl) rfl]
  simp [e98, f99, wrap_byte]
theorem f82s (hi : hp[i]? = some (rdC 0 s p)) (hs : s.length ≤ 4611686018427387904) (hp' : p ≤ s.length) (hk : s.length < p + 2) :
    evalCall Try.prog hints (n + 3) 82 [.ptr (.heap i) none 0] hp = some (.int .i64 0, hp.set i (rdC 5 s p), true) := by
  have e98 := f98s n i s p 2 hp hi hs hp' hk
  simp at e98
  rw [evalCall_at _ _ _ hh82 rfl Try.func82 rfl (Nat.le_of_ble_eq_true rfl) rfl]
  simp [e98]
theorem f83 (hi : hp[i]? = some (rdC 0 s p)) (hs : s.length ≤ 4611686018427387904) (a : UInt8) (r : List UInt8) (hk : s.drop p = a :: r) :
    evalCall Try.prog hints (n + 3) 83 [.ptr (.heap i) none 0] hp = some (.int .i64 (a.toNat : Int), hp.set i (rdC 0 s (p + 1)), true) := by
  have hl : p + 1 ≤ s.length := by have := congrArg List.length hk; simp at this; omega
  have e98 := f98 n i s p 1 hp hi hs hl
  rw [hk] at e98
  simp at e98
  rw [evalCall_at _ _ _ hh83 rfl Try.func83 rfl (Nat.le_of_ble_eq_true rfl) rfl]
  simp [e98, wrap_byte]
theorem f83s (hi : hp[i]? = some (rdC 0 s p)) (hs : s.length ≤ 4611686018427387904) (hp' : p = s.length) :
    evalCall Try.prog hints (n + 3) 83 [.ptr (.heap i) none 0] hp = some (.int .i64 0, hp.set i (rdC 5 s p), true) := by
  have e98 := f98s n i s p 1 hp hi hs (by omega) (by omega)
  simp at e98
  rw [evalCall_at _ _ _ hh83 rfl Try.func83 rfl (Nat.le_of_ble_eq_true rfl) rfl]
  simp [e98]
theorem f83e (e : Int) (hi : hp[i]? = some (rdC e s p)) (he : e ≠ 0) :
    evalCall Try.prog hints (n + 3) 83 [.ptr (.heap i) none 0] hp = some (.int .i64 0, hp, false) := by
  have e98 := f98e n i e s p 1 hp hi he
  rw [evalCall_at _ _ _ hh83 rfl Try.func83 rfl (Nat.le_of_ble_eq_true rfl) rfl]
  simp [e98]
theorem f84 (k : Nat) (hi : hp[i]? = some (rdC 0 s p)) (hs : s.length ≤ 4611686018427387904) (hk : p + k ≤ s.length) :
    evalCall Try.prog hints (n + 3) 84 [.ptr (.heap i) none 0, .int .i64 k] hp = some (.str ((s.drop p).take k), hp.set i (rdC 0 s (p + k)), true) := by
  have e98 := f98 n i s p k hp hi hs hk
  rw [evalCall_at _ _ _ hh84 rfl Try.func84 rfl (Nat.le_of_ble_eq_true rfl) rfl]
  simp [e98]
theorem f84s (k : Nat) (hi : hp[i]? = some (rdC 0 s p)) (hs : s.length ≤ 4611686018427387904) (hp' : p ≤ s.length) (hk : s.length < p + k) :
    evalCall Try.prog hints (n + 3) 84 [.ptr (.heap i) none 0, .int .i64 k] hp = some (.str [], hp.set i (rdC 5 s p), true) := by
  have e98 := f98s n i s p k hp hi hs hp' hk
  rw [evalCall_at _ _ _ hh84 rfl Try.func84 rfl (Nat.le_of_ble_eq_true rfl) rfl]
  simp [e98]
theorem f84e (k e : Int) (hi : hp[i]? = some (rdC e s p)) (he : e ≠ 0) :
    evalCall Try.prog hints (n + 3) 84 [.ptr (.heap i) none 0, .int .i64 k] hp = some (.str [], hp, false) := by
  have e98 := f98e n i e s p k hp hi he
  rw [evalCall_at _ _ _ hh84 rfl Try.func84 rfl (Nat.le_of_ble_eq_true rfl) rfl]
  simp [e98]
end
/-- What changes make of bytes: 'la' bytes, from place i on. -/
def ap (la : Nat) (c : List UInt8) (out : List UInt8) (e : Nat) : List UInt8 × Int :=
  match c with
  | [] => (out, 0)
  | x :: y :: z :: r =>
    let f := x.toNat + 256 * y.toNat
    let k := z.toNat
    if r.length < k then ([], 5)
    else if k = 0 ∨ f < e then ([], 3)
    else if la < f + k then ([], 6)
    else ap la (r.drop k) (out.take f ++ r.take k ++ out.drop (f + k)) (f + k)
  | _ => ([], 5)
termination_by c.length
decreasing_by simp; omega
theorem splice_eq (cs : List PV) (ys : List PV) (off : Nat) (h : off + ys.length ≤ cs.length) : splice cs off ys = cs.take off ++ ys ++ cs.drop (off + ys.length) := by
  induction ys generalizing cs off with
  | nil => simp [splice]
  | cons y ys ih =>
    simp at h
    rw [splice, ih _ _ (by simp; omega)]
    rw [List.take_set, List.drop_set_of_lt (by omega)]
    rw [List.take_succ_eq_append_getElem (by omega), List.set_append]
    simp
    have : off < cs.length := by omega
    simp [Nat.min_eq_left (Nat.le_of_lt this)]
    congr 1
    omega
end Go.Proofs.Ytoipglmjnibdpaa
end

section
namespace Go.Proofs.Ytoipglmjnibdpaa
open Go Go.PS
theorem ob_len (s : List UInt8) : (ofBytes s).length = s.length := by simp [ofBytes]
theorem ob_all (s : List UInt8) : (ofBytes s).all storable = true := by simp [ofBytes]
theorem ob_out (s : List UInt8) : (ofBytes s).map outCell = ofBytes s := by simp [ofBytes]
theorem ob_bytes (s : List UInt8) : bytesOf (ofBytes s) = some s := by
  induction s with
  | nil => rfl
  | cons a s ih =>
    show bytesOf (PV.int .u8 a.toNat :: ofBytes s) = _
    simp only [bytesOf, ih]
    simp
theorem ob_splice (out t : List UInt8) (f : Nat) (h : f + t.length ≤ out.length) : splice (ofBytes out) f (ofBytes t) = ofBytes (out.take f ++ t ++ out.drop (f + t.length)) := by
  rw [splice_eq _ _ _ (by simp [ob_len]; omega)]
  simp [ofBytes]
theorem drop_cons {α : Type} {l : List α} {p : Nat} {x : α} {r : List α} (h : l.drop p = x :: r) : l.drop (p + 1) = r := by
  rw [← List.drop_drop, h]; rfl
set_option maxHeartbeats 2000000 in
theorem f51 (n : Nat) (a c : List UInt8) (hp : Heap) (ha : a.length ≤ 1000000) (hc : c.length ≤ n) (hc' : c.length ≤ 1000000) :
    ∃ rd d, evalCall Try.prog hints (n + 5) 51 [.str a, .str c] hp = some (.tup [.str (ap a.length c a 0).1, .int .i64 (ap a.length c a 0).2], hp ++ [rd], d) := by
  have e80 := f80 (n + 3) c hp
  rw [evalCall_at _ _ _ hh51 rfl Try.func51 rfl (Nat.le_of_ble_eq_true rfl) rfl]
  simp [e80]
  generalize hit : iter _ _ _ = r
  refine iter_elim hit (fun x : List UInt8 × Nat × Nat × Bool => { fr := [(6, .sl (.mu 1) x.1.length (ofBytes x.1)), (7, .int .i64 x.2.1), (8, .ptr (.heap hp.length) none 0)], hp := hp ++ [rdC 0 c x.2.2.1], base := hp.length, dirty := x.2.2.2 })
    (fun x => (x.1.length = a.length ∧ x.2.1 ≤ a.length ∧ x.2.2.1 ≤ c.length) ∧ ap a.length (c.drop x.2.2.1) x.1 x.2.1 = ap a.length c a 0) (fun x => c.length - x.2.2.1)
    (fun y : (List UInt8 × Nat × Nat × Bool) ⊕ (Int × List PV) => match y with
      | .inl x => (.exit 0, { fr := [(6, .sl (.mu 1) x.1.length (ofBytes x.1)), (7, .int .i64 x.2.1), (8, .ptr (.heap hp.length) none 0), (18, .bool false)], hp := hp ++ [rdC 0 c x.2.2.1], base := hp.length, dirty := x.2.2.2 })
      | .inr (e, rd) => (.ret, { fr := [(4, .str []), (5, .int .i64 e)], hp := hp ++ [rd], base := hp.length, dirty := true }))
    (fun y => match y with | .inl x => ap a.length c a 0 = (x.1, 0) | .inr (e, _) => ap a.length c a 0 = ([], e)) (a, 0, 0, false) rfl ⟨by simp, by simp⟩ (by simp; omega) ?_ ?_
  · rintro ⟨out, e, p, d⟩ ⟨⟨h1, h2, h3⟩, h4⟩
    dsimp only at h1 h2 h3 h4 ⊢
    have g : ∀ x : List PV, (hp ++ [x])[hp.length]? = some x := fun x => by simp
    have e81 := f81 (n + 3) hp.length 0 c p (hp ++ [rdC 0 c p]) (g _) (by omega) h3
    simp at e81
    rcases hd : c.drop p with _ | ⟨x, _ | ⟨y, _ | ⟨z, r⟩⟩⟩
    · rw [hd] at h4
      have hlen := congrArg List.length hd
      simp at hlen
      right
      refine ⟨.inl (out, e, p, d), ?_, by simp, ?_⟩
      · have c1 : ¬ p < c.length := by omega
        simp [e81, c1]
      · dsimp only; rw [← h4]; simp [ap]
    · rw [hd] at h4
      have hlen := congrArg List.length hd
      simp at hlen
      right
      refine ⟨.inr (5, rdC 5 c p), ?_, by simp, ?_⟩
      · have c1 : p < c.length := by omega
        have e82 := f82s (n + 1) hp.length c p (hp ++ [rdC 0 c p]) (g _) (by omega) h3 (by omega)
        have e83 := f83e (n + 1) hp.length c p (hp ++ [rdC 5 c p]) 5 (g _) (by simp)
        have e84 := f84e (n + 1) hp.length c p (hp ++ [rdC 5 c p]) 0 5 (g _) (by simp)
        have e85 := f85 (n + 3) hp.length 5 c p (hp ++ [rdC 5 c p]) (g _)
        rw [set_at] at e82
        simp [e81, c1, e82, e83, e84, e85]
      · dsimp only; rw [← h4]; simp [ap]
    · rw [hd] at h4
      have hlen := congrArg List.length hd
      simp at hlen
      right
      refine ⟨.inr (5, rdC 5 c (p + 2)), ?_, by simp, ?_⟩
      · have c1 : p < c.length := by omega
        have e82 := f82 (n + 1) hp.length c p (hp ++ [rdC 0 c p]) (g _) (by omega) x y [] hd
        have e83 := f83s (n + 1) hp.length c (p + 2) (hp ++ [rdC 0 c (p + 2)]) (g _) (by omega) (by omega)
        have e84 := f84e (n + 1) hp.length c (p + 2) (hp ++ [rdC 5 c (p + 2)]) 0 5 (g _) (by simp)
        have e85 := f85 (n + 3) hp.length 5 c (p + 2) (hp ++ [rdC 5 c (p + 2)]) (g _)
        rw [set_at] at e82 e83
        simp [e81, c1, e82, e83, e84, e85]
      · dsimp only; rw [← h4]; simp [ap]
    · rw [hd] at h4
      have hlen := congrArg List.length hd
      simp at hlen
      have hd3 : c.drop (p + 2) = z :: r := drop_cons (drop_cons hd)
      have hd4 : c.drop (p + 3) = r := drop_cons hd3
      have c1 : p < c.length := by omega
      have e82 := f82 (n + 1) hp.length c p (hp ++ [rdC 0 c p]) (g _) (by omega) x y _ hd
      have e83 := f83 (n + 1) hp.length c (p + 2) (hp ++ [rdC 0 c (p + 2)]) (g _) (by omega) z r hd3
      rw [set_at] at e82 e83
      rw [ap] at h4
      obtain ⟨f, hf⟩ : ∃ f, f = x.toNat + 256 * y.toNat := ⟨_, rfl⟩
      obtain ⟨k, hk⟩ : ∃ k, k = z.toNat := ⟨_, rfl⟩
      have hf' : (x.toNat : Int) + 256 * y.toNat = (f : Int) := by omega
      rw [hf'] at e82
      rw [← hk] at e83
      rw [← hf, ← hk] at h4
      have hzl := z.toNat_lt
      have hxl := x.toNat_lt
      have hyl := y.toNat_lt
      by_cases c2 : r.length < k
      · rw [if_pos c2] at h4
        right
        refine ⟨.inr (5, rdC 5 c (p + 3)), ?_, by simp, h4.symm⟩
        have e84 := f84s (n + 1) hp.length c (p + 3) (hp ++ [rdC 0 c (p + 3)]) k (g _) (by omega) (by omega) (by omega)
        have e85 := f85 (n + 3) hp.length 5 c (p + 3) (hp ++ [rdC 5 c (p + 3)]) (g _)
        rw [set_at] at e84
        simp [e81, c1, e82, e83, e84, e85]
      · rw [if_neg c2] at h4
        have e84 := f84 (n + 1) hp.length c (p + 3) (hp ++ [rdC 0 c (p + 3)]) k (g _) (by omega) (by omega)
        have e85 := f85 (n + 3) hp.length 0 c (p + 3 + k) (hp ++ [rdC 0 c (p + 3 + k)]) (g _)
        rw [set_at, hd4] at e84
        by_cases c3 : k = 0
        · rw [if_pos (.inl c3)] at h4
          right
          refine ⟨.inr (3, rdC 0 c (p + 3 + k)), ?_, by simp, h4.symm⟩
          have c3' : ((k : Int) == 0) = true := by simp [c3]
          simp [e81, c1, e82, e83, e84, e85, c3']
        by_cases c4 : f < e
        · rw [if_pos (.inr c4)] at h4
          right
          refine ⟨.inr (3, rdC 0 c (p + 3 + k)), ?_, by simp, h4.symm⟩
          have c3' : ((k : Int) == 0) = false := by simp [c3]
          simp [e81, c1, e82, e83, e84, e85, c3', c4]
        rw [if_neg (by omega)] at h4
        have c3' : ((k : Int) == 0) = false := by simp [c3]
        by_cases c5 : a.length < f + k
        · rw [if_pos c5] at h4
          right
          refine ⟨.inr (6, rdC 0 c (p + 3 + k)), ?_, by simp, h4.symm⟩
          by_cases c6 : a.length < f
          · simp [e81, c1, e82, e83, e84, e85, c3', c4, h1, c6]
          · have w := wrap_id (x := (a.length : Int) - f) (by omega)
            have c7 : (a.length : Int) - f < k := by omega
            simp [e81, c1, e82, e83, e84, e85, c3', c4, h1, c6, w, c7]
        · rw [if_neg c5] at h4
          left
          have w := wrap_id (x := (a.length : Int) - f) (by omega)
          have c6 : ¬ a.length < f := by omega
          have c7 : ¬ (a.length : Int) - f < k := by omega
          have w2 := wrap_id (x := (f : Int) + k) (by omega)
          have hrk : (r.take k).length = k := by simp; omega
          have hsp := ob_splice out (r.take k) f (by rw [hrk, h1]; omega)
          rw [hrk] at hsp
          have hlo : (out.take f ++ r.take k ++ out.drop (f + k)).length = a.length := by simp; omega
          refine ⟨(out.take f ++ r.take k ++ out.drop (f + k), f + k, p + 3 + k, true), ?_, ⟨⟨hlo, by dsimp only; omega, by dsimp only; omega⟩, ?_⟩, by dsimp only; omega⟩
          · rw [hlo]
            generalize out.take f ++ r.take k ++ out.drop (f + k) = out' at *
            generalize r.take k = t at *
            have m1 : min k (a.length - f) = k := by omega
            have m2 : f + k ≤ a.length := by omega
            have c8 : f ≤ a.length := by omega
            have tk : (ofBytes t).take k = ofBytes t := List.take_of_length_le (by rw [ob_len]; omega)
            simp [e81, c1, e82, e83, e84, e85, c3', c4, h1, c6, w, c7, w2, hrk, ob_len, ob_all, ob_out, c8, m1, m2, tk, hsp]
          · show ap a.length (c.drop (p + 3 + k)) _ _ = _
            rw [← h4, ← hd4, List.drop_drop]
  · rintro (⟨out, e, p, d⟩ | ⟨e, rd⟩) rfl h
    · dsimp only at h
      simp [h, ob_len, ob_bytes]
      cases d <;> simp
    · dsimp only at h
      simp [h]
end Go.Proofs.Ytoipglmjnibdpaa
end

section
namespace Go.Proofs.Ytoipglmjnibdpaa
open Go Go.PS
theorem get_of_drop {α : Type} {l : List α} {p : Nat} {x : α} {r : List α} (h : l.drop p = x :: r) : l[p]? = some x := by
  have := List.getElem?_drop (xs := l) (i := p) (j := 0)
  rw [h] at this
  simpa using this.symm
set_option maxHeartbeats 4000000 in
theorem f53 (n : Nat) (a c : List UInt8) (hp : Heap) (ha : a.length ≤ 1000000) (hc : c.length ≤ n) (hc' : c.length ≤ 1000000) :
    evalCall Try.prog hints (n + 2) 53 [.str a, .str c] hp = some (.tup [.str (ap a.length c a 0).1, .int .i64 (ap a.length c a 0).2], hp, false) := by
  rw [evalCall_at _ _ _ hh53 rfl Try.func53 rfl (Nat.le_of_ble_eq_true rfl) rfl]
  simp
  generalize hit : iter _ _ _ = r
  refine iter_elim hit (fun x : List UInt8 × Nat × Nat => { fr := [(0, .str a), (1, .str c), (6, .str x.1), (7, .int .i64 x.2.1), (8, .int .i64 x.2.2)], hp := hp, base := hp.length, dirty := false })
    (fun x => (x.1.length = a.length ∧ x.2.1 ≤ a.length ∧ x.2.2 ≤ c.length) ∧ ap a.length (c.drop x.2.2) x.1 x.2.1 = ap a.length c a 0) (fun x => c.length - x.2.2)
    (fun y : (List UInt8 × Nat × Nat) ⊕ Int => match y with
      | .inl x => (.exit 0, { fr := [(0, .str a), (1, .str c), (6, .str x.1), (7, .int .i64 x.2.1), (8, .int .i64 x.2.2), (15, .bool false)], hp := hp, base := hp.length, dirty := false })
      | .inr e => (.ret, { fr := [(4, .str []), (5, .int .i64 e)], hp := hp, base := hp.length, dirty := false }))
    (fun y => match y with | .inl x => ap a.length c a 0 = (x.1, 0) | .inr e => ap a.length c a 0 = ([], e)) (a, 0, 0) rfl ⟨by simp, by simp⟩ (by simp; omega) ?_ ?_
  · rintro ⟨out, e, p⟩ ⟨⟨h1, h2, h3⟩, h4⟩
    dsimp only at h1 h2 h3 h4 ⊢
    by_cases c1 : p < c.length
    · have w0 := wrap_id (x := (c.length : Int) - p) (by omega)
      by_cases c2 : c.length < p + 3
      · right
        refine ⟨.inr 5, ?_, by simp, ?_⟩
        · have c2' : (c.length : Int) - p < 3 := by omega
          simp [c1, w0, c2']
        · have : (c.drop p).length < 3 := by simp; omega
          have hne : (c.drop p).length ≠ 0 := by simp; omega
          dsimp only
          rw [← h4]
          match hd : c.drop p, this, hne with
          | [x], _, _ => simp [ap]
          | [x, y], _, _ => simp [ap]
      · obtain ⟨x, y, z, r, hd⟩ : ∃ x y z r, c.drop p = x :: y :: z :: r := by
          have : 3 ≤ (c.drop p).length := by simp; omega
          match hd : c.drop p, this with
          | x :: y :: z :: r, _ => exact ⟨x, y, z, r, rfl⟩
        rw [hd, ap] at h4
        have hlen := congrArg List.length hd
        simp at hlen
        have hd2 := drop_cons hd
        have hd3 := drop_cons hd2
        have hd4 : c.drop (p + 3) = r := drop_cons hd3
        have i0 := get_of_drop hd
        have i1 := get_of_drop hd2
        have i2 := get_of_drop hd3
        obtain ⟨f, hf⟩ : ∃ f, f = x.toNat + 256 * y.toNat := ⟨_, rfl⟩
        obtain ⟨k, hk⟩ : ∃ k, k = z.toNat := ⟨_, rfl⟩
        have hf' : (x.toNat : Int) + 256 * y.toNat = (f : Int) := by omega
        rw [← hf, ← hk] at h4
        have hzl := z.toNat_lt
        have hxl := x.toNat_lt
        have hyl := y.toNat_lt
        have c2' : ¬ (c.length : Int) - p < 3 := by omega
        have w1 := wrap_id (x := (p : Int) + 1) (by omega)
        have w2 := wrap_id (x := (p : Int) + 2) (by omega)
        have w3 := wrap_id (x := (p : Int) + 3) (by omega)
        have w4 := wrap_id (x := 256 * (y.toNat : Int)) (by omega)
        have w5 := wrap_id (x := (f : Int)) (by omega)
        have wk := wrap_id (x := (k : Int)) (by omega)
        have w6 := wrap_id (x := (c.length : Int) - (p + 3)) (by omega)
        have n1 : (p : Int) + 1 < c.length := by omega
        have n2 : (p : Int) + 2 < c.length := by omega
        have n3 : ((p : Int) + 1).toNat = p + 1 := by omega
        have n4 : ((p : Int) + 2).toNat = p + 2 := by omega
        have n5 : (0 : Int) ≤ (p : Int) + 1 := by omega
        have n6 : (0 : Int) ≤ (p : Int) + 2 := by omega
        by_cases c3 : r.length < k
        · rw [if_pos c3] at h4
          right
          refine ⟨.inr 5, ?_, by simp, h4.symm⟩
          have c3' : (c.length : Int) - (p + 3) < k := by omega
          simp [-getElem?_pos, List.getElem?_cons_zero, wk, c1, w0, c2', i0, i1, i2, wrap_byte, w1, w2, w3, w4, hf', w5, w6, n1, n2, n3, n4, n5, n6, ← hk, c3']
        · rw [if_neg c3] at h4
          have c3' : ¬ (c.length : Int) - (p + 3) < k := by omega
          by_cases c4 : k = 0
          · rw [if_pos (.inl c4)] at h4
            right
            refine ⟨.inr 3, ?_, by simp, h4.symm⟩
            have c4' : ((k : Int) == 0) = true := by simp [c4]
            simp [-getElem?_pos, List.getElem?_cons_zero, wk, c1, w0, c2', i0, i1, i2, wrap_byte, w1, w2, w3, w4, hf', w5, w6, n1, n2, n3, n4, n5, n6, ← hk, c3', c4']
          have c4' : ((k : Int) == 0) = false := by simp [c4]
          by_cases c5 : f < e
          · rw [if_pos (.inr c5)] at h4
            right
            refine ⟨.inr 3, ?_, by simp, h4.symm⟩
            simp [-getElem?_pos, List.getElem?_cons_zero, wk, c1, w0, c2', i0, i1, i2, wrap_byte, w1, w2, w3, w4, hf', w5, w6, n1, n2, n3, n4, n5, n6, ← hk, c3', c4', c5]
          rw [if_neg (by omega)] at h4
          have w7 := wrap_id (x := (f : Int) + k) (by omega)
          by_cases c6 : a.length < f + k
          · rw [if_pos c6] at h4
            right
            refine ⟨.inr 6, ?_, by simp, h4.symm⟩
            have c6' : (a.length : Int) < f + k := by omega
            simp [-getElem?_pos, List.getElem?_cons_zero, wk, c1, w0, c2', i0, i1, i2, wrap_byte, w1, w2, w3, w4, hf', w5, w6, n1, n2, n3, n4, n5, n6, ← hk, c3', c4', c5, w7, c6']
          · rw [if_neg c6] at h4
            have c6' : ¬ (a.length : Int) < f + k := by omega
            left
            have hlo : (out.take f ++ r.take k ++ out.drop (f + k)).length = a.length := by simp; omega
            refine ⟨(out.take f ++ r.take k ++ out.drop (f + k), f + k, p + 3 + k), ?_, ⟨⟨hlo, by dsimp only; omega, by dsimp only; omega⟩, ?_⟩, by dsimp only; omega⟩
            · have w8 := wrap_id (x := (p : Int) + 3 + k) (by omega)
              have m1 : f ≤ out.length := by omega
              have m2 : (0 : Int) ≤ (p : Int) + 3 + k := by omega
              have m3 : (p : Int) + 3 + k ≤ c.length := by omega
              have m4 : ((p : Int) + 3 + k).toNat = p + 3 + k := by omega
              have m5 : (0 : Int) ≤ (p : Int) + 3 := by omega
              have m6 : ((p : Int) + 3).toNat = p + 3 := by omega
              have m7 : (0 : Int) ≤ (f : Int) + k := by omega
              have m8 : ((f : Int) + k).toNat = f + k := by omega
              have m9 : (f : Int) + k ≤ out.length := by omega
              have m10 : (p : Int) + 3 ≤ (p : Int) + 3 + k := by omega
              have m11 : p + 3 + k - (p + 3) = k := by omega
              have mk : min k r.length = k := by omega
              have l1 : f + k ≤ 9223372036854775807 := by omega
              have l2 : f + (k + (out.length - (f + k))) ≤ 9223372036854775807 := by omega
              have l3 : f + k + (out.length - (f + k)) ≤ 9223372036854775807 := by omega
              simp [-getElem?_pos, List.getElem?_cons_zero, wk, c1, w0, c2', i0, i1, i2, wrap_byte, w1, w2, w3, w4, hf', w5, w6, n1, n2, n3, n4, n5, n6, ← hk, c3', c4', c5, w7, c6', w8, m1, m2, m3, m4, m5, m6, m7, m8, m9, m10, m11, hd4, mk, l1, l2, l3]
              exact List.take_of_length_le (by simp)
            · show ap a.length (c.drop (p + 3 + k)) _ _ = _
              rw [← h4, ← hd4, List.drop_drop]
    · right
      have : c.drop p = [] := List.drop_eq_nil_of_le (by omega)
      rw [this] at h4
      refine ⟨.inl (out, e, p), ?_, by simp, ?_⟩
      · simp [c1]
      · dsimp only; rw [← h4]; simp [ap]
  · rintro (⟨out, e, p⟩ | e) rfl h
    · dsimp only at h
      simp [h]
    · dsimp only at h
      simp [h]
end Go.Proofs.Ytoipglmjnibdpaa
end

section
namespace Go.Proofs.Ytoipglmjnibdpaa
open Go Go.PS
theorem live49a : fstR (evalCall Try.prog hints 5020 49 [] []) = some (.bool true) := by kernel_rfl
theorem live49b (x : List PV) : fstR (evalCall Try.prog hints 5020 49 [] [x]) = some (.bool true) := by kernel_rfl
set_option maxHeartbeats 1000000 in
theorem f12 (a c : List UInt8) (ha : a.length ≤ 9223372036854775807) (hc : c.length ≤ 9223372036854775807) : ∃ hp d, evalCall Try.prog hints 5021 12 [.str a, .str c] [] = some (.bool true, hp, d) := by
  apply of_map
  obtain ⟨hpa, da, la⟩ := of_map live49a
  rw [evalCall_at _ _ _ hh12 rfl Try.func12 rfl (Nat.le_of_ble_eq_true rfl) rfl]
  by_cases h1 : 600 < a.length
  · have h1' : (600 : Int) < a.length := by omega
    simp [h1', la]
    cases da <;> simp
  by_cases h2 : 600 < c.length
  · have h1' : ¬ (600 : Int) < a.length := by omega
    have h2' : (600 : Int) < c.length := by omega
    simp [h1', h2', la]
    cases da <;> simp
  have h1' : ¬ (600 : Int) < a.length := by omega
  have h2' : ¬ (600 : Int) < c.length := by omega
  obtain ⟨rd, d, e51⟩ := f51 5015 a c [] (by omega) (by omega) (by omega)
  obtain ⟨hpb, db, lb⟩ := of_map (live49b rd)
  have e53 := fun hp => f53 5018 a c hp (by omega) (by omega) (by omega)
  generalize ap a.length c a 0 = R at *
  cases d with
  | true =>
    simp [h1', h2', e51, e53, lb]
    cases db <;> simp
  | false =>
    simp [h1', h2', e51, e53, la]
    cases da <;> simp
end Go.Proofs.Ytoipglmjnibdpaa
end

section
namespace Go.Proofs.Ytoipglmjnibdpaa
open Go Go.PS
def wrC (sz : Nat) (w : List UInt8) : List PV := [.int .i64 0, .sl (.mu sz) w.length (ofBytes w)]
theorem ob_app (s t : List UInt8) : ofBytes (s ++ t) = ofBytes s ++ ofBytes t := by simp [ofBytes]
theorem f97 (n i sz : Nat) (w t : List UInt8) (hp : Heap) (hi : hp[i]? = some (wrC sz w)) (hz : sz = 1 ∨ sz = 0 ∧ w = []) (hw : w.length + t.length ≤ 1000000) :
    evalCall Try.prog hints (n + 1) 97 [.ptr (.heap i) none 0, .bool true, .sl .sh t.length (ofBytes t)] hp = some (.tup [], hp.set i (wrC 1 (w ++ t)), true) := by
  have hl : i < hp.length := (List.getElem?_eq_some_iff.1 hi).1
  have hset : ∀ x, (hp.set i x)[i]? = some x := fun x => List.getElem?_set_self hl
  have l1 : w.length + t.length ≤ 140737488355328 := by omega
  rw [evalCall_at _ _ _ hh97 rfl Try.func97 rfl (Nat.le_of_ble_eq_true rfl) rfl]
  simp only [wrC] at hi
  rcases hz with rfl | ⟨rfl, rfl⟩
  · simp [hi, wrC, hset, ob_len, ob_all, ob_out, ob_app, l1]
    exact hl
  · simp at l1
    have o0 : ofBytes [] = [] := rfl
    simp [hi, wrC, hset, ob_len, ob_all, ob_out, l1, o0]
    exact hl
theorem f76 (n i sz : Nat) (w : List UInt8) (hp : Heap) (hi : hp[i]? = some (wrC sz w)) :
    evalCall Try.prog hints (n + 1) 76 [.ptr (.heap i) none 0] hp = some (.str w, hp, false) := by
  rw [evalCall_at _ _ _ hh76 rfl Try.func76 rfl (Nat.le_of_ble_eq_true rfl) rfl]
  simp [hi, wrC, ob_len, ob_bytes]
def put2 (f : Nat) : List UInt8 := [UInt8.ofNat f, UInt8.ofNat (f / 256)]
theorem f77 (n i sz : Nat) (w : List UInt8) (f : Nat) (hp : Heap) (hi : hp[i]? = some (wrC sz w)) (hz : sz = 1 ∨ sz = 0 ∧ w = []) (hw : w.length ≤ 900000) (hf : f ≤ 65535) :
    evalCall Try.prog hints (n + 2) 77 [.ptr (.heap i) none 0, .int .i64 f] hp = some (.tup [], hp.set i (wrC 1 (w ++ put2 f)), true) := by
  have e := f97 n i sz w (put2 f) hp hi hz (by simp [put2]; omega)
  have c1 : (f : Int) ≤ 65535 := by omega
  have d1 : ((f : Int)).fdiv 256 = (f : Int) / 256 := fd (by omega)
  rw [evalCall_at _ _ _ hh77 rfl Try.func77 rfl (Nat.le_of_ble_eq_true rfl) rfl]
  simp [put2, ofBytes] at e
  simp [c1, d1, e, put2]
theorem f78 (n i sz : Nat) (w : List UInt8) (f : Nat) (hp : Heap) (hi : hp[i]? = some (wrC sz w)) (hz : sz = 1 ∨ sz = 0 ∧ w = []) (hw : w.length ≤ 900000) (hf : f ≤ 255) :
    evalCall Try.prog hints (n + 2) 78 [.ptr (.heap i) none 0, .int .i64 f] hp = some (.tup [], hp.set i (wrC 1 (w ++ [UInt8.ofNat f])), true) := by
  have e := f97 n i sz w [UInt8.ofNat f] hp hi hz (by simp; omega)
  have c1 : (f : Int) ≤ 255 := by omega
  rw [evalCall_at _ _ _ hh78 rfl Try.func78 rfl (Nat.le_of_ble_eq_true rfl) rfl]
  simp [ofBytes] at e
  simp [c1, e]
theorem f79 (n i sz : Nat) (w t : List UInt8) (hp : Heap) (hi : hp[i]? = some (wrC sz w)) (hz : sz = 1 ∨ sz = 0 ∧ w = []) (hw : w.length + t.length ≤ 1000000) :
    evalCall Try.prog hints (n + 2) 79 [.ptr (.heap i) none 0, .str t] hp = some (.tup [], hp.set i (wrC 1 (w ++ t)), true) := by
  have e := f97 n i sz w t hp hi hz hw
  rw [evalCall_at _ _ _ hh79 rfl Try.func79 rfl (Nat.le_of_ble_eq_true rfl) rfl]
  simp [e, ob_all]
end Go.Proofs.Ytoipglmjnibdpaa
end

section
namespace Go.Proofs.Ytoipglmjnibdpaa
open Go Go.PS
def flush (i : Nat) (run : List UInt8) : List UInt8 := if run = [] then [] else put2 (i - run.length) ++ [UInt8.ofNat run.length] ++ run
def ch : Nat → List UInt8 → List UInt8 → List UInt8 → List UInt8
  | i, run, x :: xs, y :: ys => if x = y then flush i run ++ ch (i + 1) [] xs ys else if run.length = 255 then flush i run ++ ch (i + 1) [y] xs ys else ch (i + 1) (run ++ [y]) xs ys
  | i, run, _, _ => flush i run
theorem flush_len (i : Nat) (run : List UInt8) : (flush i run).length ≤ 4 * run.length := by
  unfold flush
  split
  · simp
  · rename_i h
    have : run.length ≠ 0 := fun e => h (List.length_eq_zero_iff.1 e)
    simp [put2]; omega
theorem ch_len : ∀ (xs ys : List UInt8) (i : Nat) (run : List UInt8), (ch i run xs ys).length ≤ 4 * (run.length + xs.length)
  | x :: xs, y :: ys, i, run => by
    have f := flush_len i run
    rw [ch]
    split
    · have := ch_len xs ys (i + 1) []
      simp at this ⊢; omega
    · split
      · have := ch_len xs ys (i + 1) [y]
        simp at this ⊢; omega
      · have := ch_len xs ys (i + 1) (run ++ [y])
        simp at this ⊢; omega
  | [], ys, i, run => by have f := flush_len i run; simp [ch]; omega
  | x :: xs, [], i, run => by have f := flush_len i run; simp [ch]; omega
theorem ch_skip (i : Nat) (x : UInt8) (xs ys : List UInt8) : ch i [] (x :: xs) (x :: ys) = ch (i + 1) [] xs ys := by simp [ch, flush]
/-- A run's end. -/
theorem ch_end (i : Nat) (run xs ys : List UInt8) (h : xs = [] ∨ (∃ x xs' ys', xs = x :: xs' ∧ ys = x :: ys') ∨ run.length = 255) (hl : xs.length = ys.length) : ch i run xs ys = flush i run ++ ch i [] xs ys := by
  match xs, ys, hl with
  | [], [], _ => simp [ch, flush]
  | x :: xs, y :: ys, _ =>
    rcases h with h | ⟨x', xs', ys', h1, h2⟩ | h
    · cases h
    · cases h1; cases h2
      simp [ch, flush]
    · simp only [ch]
      split
      · simp [flush]
      · simp [h]
theorem ch_more (i : Nat) (run : List UInt8) (x y : UInt8) (xs ys : List UInt8) (h : x ≠ y) (hr : run.length < 255) : ch i run (x :: xs) (y :: ys) = ch (i + 1) (run ++ [y]) xs ys := by
  rw [ch, if_neg h, if_neg (by omega)]
end Go.Proofs.Ytoipglmjnibdpaa
end

section
namespace Go.Proofs.Ytoipglmjnibdpaa
open Go Go.PS
theorem f50ne (n : Nat) (a b : List UInt8) (hp : Heap) (h : a.length ≠ b.length) : evalCall Try.prog hints (n + 3) 50 [.str a, .str b] hp = some (.str [], hp, false) := by
  have h' : ((a.length : Int) != b.length) = true := by simp; omega
  rw [evalCall_at _ _ _ hh50 rfl Try.func50 rfl (Nat.le_of_ble_eq_true rfl) rfl]
  simp [scopeIter, h']
theorem drop_get {α : Type} (l : List α) (p : Nat) (h : p < l.length) : l.drop p = l[p] :: l.drop (p + 1) := List.drop_eq_getElem_cons h
set_option maxHeartbeats 4000000 in
theorem f50 (n : Nat) (a b : List UInt8) (hp : Heap) (h : a.length = b.length) (ha : a.length ≤ 600) (hn : 700 < n) :
    ∃ rd d, evalCall Try.prog hints (n + 5) 50 [.str a, .str b] hp = some (.str (ch 0 [] a b), hp ++ [rd], d) := by
  have h' : ((a.length : Int) != b.length) = false := by simp; omega
  have c0 : ¬ (65535 : Int) < b.length := by omega
  obtain ⟨R, hR⟩ : ∃ R, R = ch 0 [] a b := ⟨_, rfl⟩
  have hRl : R.length ≤ 2400 := by have := ch_len a b 0 []; simp at this; rw [hR]; omega
  have g : ∀ x : List PV, (hp ++ [x])[hp.length]? = some x := fun x => by simp
  rw [evalCall_at _ _ _ hh50 rfl Try.func50 rfl (Nat.le_of_ble_eq_true rfl) rfl]
  simp
  rw [scope_start 0 (st' := { fr := [(0, .str a), (1, .str b), (5, .ptr (.heap hp.length) none 0), (6, .int .i64 0)], hp := hp ++ [wrC 0 []], base := hp.length, dirty := false }) (by simp [h, c0, wrC, ofBytes])]
  generalize hit : scopeIter _ _ _ _ _ _ = r
  refine scope_elim hit (fun x : Nat × List UInt8 × Nat × Bool => { fr := [(0, .str a), (1, .str b), (5, .ptr (.heap hp.length) none 0), (6, .int .i64 x.1)], hp := hp ++ [wrC x.2.2.1 x.2.1], base := hp.length, dirty := x.2.2.2 })
    (fun x => x.1 ≤ a.length ∧ (x.2.2.1 = 1 ∨ x.2.2.1 = 0 ∧ x.2.1 = []) ∧ x.2.1 ++ ch x.1 [] (a.drop x.1) (b.drop x.1) = R) (fun x => a.length - x.1)
    (fun x : List PV × Bool => (.ret, { fr := [(4, .str R)], hp := hp ++ [x.1], base := hp.length, dirty := x.2 })) (fun _ => True) (0, [], 0, false) (by simp) rfl ⟨by simp, by simp, by simp [hR]⟩ (by simp; omega) ?_ ?_
  · rintro ⟨p, w, sz, d⟩ r ⟨h1, h2, h3⟩ hr
    dsimp only at h1 h2 h3 hr ⊢
    simp at hr
    generalize hit1 : iter _ _ _ = r1 at hr
    refine iter_elim hit1 (fun q : Nat => { fr := [(0, .str a), (1, .str b), (5, .ptr (.heap hp.length) none 0), (6, .int .i64 q)], hp := hp ++ [wrC sz w], base := hp.length, dirty := d })
      (fun q => p ≤ q ∧ q ≤ a.length ∧ w ++ ch q [] (a.drop q) (b.drop q) = R) (fun q => a.length - q)
      (fun q : Nat => (.exit 0, { fr := [(0, .str a), (1, .str b), (5, .ptr (.heap hp.length) none 0), (6, .int .i64 q), (32, .bool false)], hp := hp ++ [wrC sz w], base := hp.length, dirty := d }))
      (fun q => p ≤ q ∧ q ≤ a.length ∧ w ++ ch q [] (a.drop q) (b.drop q) = R ∧ ∀ (h1 : q < a.length) (h2 : q < b.length), a[q] ≠ b[q]) p rfl ⟨by omega, h1, h3⟩ (by omega) ?_ ?_
    · rintro q ⟨i1, i2, i3⟩
      by_cases c1 : q < a.length
      · have c1' : q < b.length := by omega
        have ga : a[q]? = some a[q] := List.getElem?_eq_getElem c1
        have gb : b[q]? = some b[q] := List.getElem?_eq_getElem c1'
        rw [drop_get a q c1, drop_get b q c1'] at i3
        by_cases c2 : a[q] = b[q]
        · left
          have w1 := wrap_id (x := (q : Int) + 1) (by omega)
          refine ⟨q + 1, ?_, ⟨by omega, by omega, ?_⟩, by omega⟩
          · simp [-getElem?_pos, List.getElem?_cons_zero, c1, c1', ga, gb, c2, w1]
          · rw [← i3, c2, ch_skip]
        · right
          have c2' : ((a[q].toNat : Int) == b[q].toNat) = false := by
            simp
            intro e
            exact c2 (UInt8.toNat_inj.1 (by omega))
          refine ⟨q, ?_, by simp, i1, i2, by rw [drop_get a q c1, drop_get b q c1']; exact i3, fun _ _ => c2⟩
          simp [-getElem?_pos, List.getElem?_cons_zero, c1, c1', ga, gb, c2', c2]
      · right
        refine ⟨q, ?_, by simp, i1, i2, i3, fun h => (c1 h).elim⟩
        simp [c1]
    · rintro q rfl ⟨i1, i2, i3, i4⟩
      by_cases c1 : q = a.length
      · right
        have e76 := f76 (n + 3) hp.length sz w (hp ++ [wrC sz w]) (g _)
        have hw : w = R := by
          rw [← i3, c1]; simp [ch, flush]
        obtain rfl := hw
        refine ⟨(wrC sz w, d), ?_, by simp, trivial⟩
        rw [← hr]
        have c1' : ((q : Int) == a.length) = true := by simp [c1]
        simp [c1', e76]
      · have c2 : q < a.length := by omega
        have c2' : q < b.length := by omega
        have hne := i4 c2 c2'
        have c3 : ((q : Int) == a.length) = false := by simp; omega
        simp [c3] at hr
        generalize hit2 : iter _ _ _ = r2 at hr
        refine iter_elim hit2 (fun m : Nat => { fr := [(0, .str a), (1, .str b), (5, .ptr (.heap hp.length) none 0), (6, .int .i64 m), (7, .int .i64 q)], hp := hp ++ [wrC sz w], base := hp.length, dirty := d })
          (fun m => q ≤ m ∧ m ≤ a.length ∧ m - q ≤ 255 ∧ w ++ ch m ((b.drop q).take (m - q)) (a.drop m) (b.drop m) = R) (fun m => a.length - m)
          (fun m : Nat => (.exit 2, { fr := [(0, .str a), (1, .str b), (5, .ptr (.heap hp.length) none 0), (6, .int .i64 m), (7, .int .i64 q), (60, .bool false)], hp := hp ++ [wrC sz w], base := hp.length, dirty := d }))
          (fun m => q < m ∧ m ≤ a.length ∧ m - q ≤ 255 ∧ w ++ ch m ((b.drop q).take (m - q)) (a.drop m) (b.drop m) = R ∧ (a.drop m = [] ∨ (∃ x xs' ys', a.drop m = x :: xs' ∧ b.drop m = x :: ys') ∨ m - q = 255)) q rfl ⟨by omega, i2, by omega, by simpa using i3⟩ (by omega) ?_ ?_
        · rintro m ⟨j1, j2, j3, j4⟩
          by_cases d1 : m < a.length
          · have d1' : m < b.length := by omega
            have ga : a[m]? = some a[m] := List.getElem?_eq_getElem d1
            have gb : b[m]? = some b[m] := List.getElem?_eq_getElem d1'
            by_cases d2 : a[m] = b[m]
            · right
              refine ⟨m, ?_, by simp, ?_, j2, j3, j4, .inr (.inl ⟨a[m], a.drop (m + 1), b.drop (m + 1), drop_get a m d1, by rw [d2]; exact drop_get b m d1'⟩)⟩
              · simp [-getElem?_pos, List.getElem?_cons_zero, d1, d1', ga, gb, d2]
              · rcases Nat.lt_or_eq_of_le j1 with h | h
                · exact h
                · subst h; exact (hne d2).elim
            · have d2' : ((a[m].toNat : Int) != b[m].toNat) = true := by
                simp
                intro e
                exact d2 (UInt8.toNat_inj.1 (by omega))
              have w0 := wrap_id (x := (m : Int) - q) (by omega)
              by_cases d3 : m - q = 255
              · right
                refine ⟨m, ?_, by simp, by omega, j2, j3, j4, .inr (.inr d3)⟩
                have d3' : ¬ (m : Int) - q < 255 := by omega
                simp [-getElem?_pos, List.getElem?_cons_zero, d1, d1', ga, gb, d2', w0, d3']
              · left
                have d3' : (m : Int) - q < 255 := by omega
                have w1 := wrap_id (x := (m : Int) + 1) (by omega)
                refine ⟨m + 1, ?_, ⟨by omega, by omega, by omega, ?_⟩, by omega⟩
                · simp [-getElem?_pos, List.getElem?_cons_zero, d1, d1', ga, gb, d2', w0, d3', w1]
                · rw [drop_get a m d1, drop_get b m d1', ch_more _ _ _ _ _ _ d2 (by simp; omega)] at j4
                  have e1 : (b.drop q).take (m + 1 - q) = (b.drop q).take (m - q) ++ [b[m]] := by
                    rw [show m + 1 - q = (m - q) + 1 by omega, List.take_succ, List.getElem?_drop, show q + (m - q) = m by omega, gb]
                    rfl
                  rw [e1]
                  exact j4
          · right
            have d1' : a.drop m = [] := List.drop_eq_nil_of_le (by omega)
            refine ⟨m, ?_, by simp, by omega, j2, j3, j4, .inl d1'⟩
            simp [d1]
        · rintro m rfl ⟨j1, j2, j3, j4, j5⟩
          left
          have hrun : ((b.drop q).take (m - q)).length = m - q := by simp; omega
          rw [ch_end _ _ _ _ (by rw [hrun]; exact j5) (by simp; omega)] at j4
          have hfl : flush m ((b.drop q).take (m - q)) = put2 q ++ [UInt8.ofNat (m - q)] ++ (b.drop q).take (m - q) := by
            unfold flush
            rw [if_neg (fun e => by rw [e] at hrun; simp at hrun; omega), hrun]
            have : m - (m - q) = q := by omega
            rw [this]
          rw [hfl] at j4
          have hwl := congrArg List.length j4
          simp [put2] at hwl
          have e77 := f77 (n + 2) hp.length sz w q (hp ++ [wrC sz w]) (g _) h2 (by omega) (by omega)
          have e78 := f78 (n + 2) hp.length 1 (w ++ put2 q) (m - q) (hp ++ [wrC 1 (w ++ put2 q)]) (g _) (.inl rfl) (by simp [put2]; omega) (by omega)
          have e79 := f79 (n + 2) hp.length 1 (w ++ put2 q ++ [UInt8.ofNat (m - q)]) ((b.drop q).take (m - q)) (hp ++ [wrC 1 (w ++ put2 q ++ [UInt8.ofNat (m - q)])]) (g _) (.inl rfl) (by rw [hrun]; simp [put2]; omega)
          rw [set_at] at e77 e78 e79
          have w0 := wrap_id (x := (m : Int) - q) (by omega)
          have w1 : (m : Int) - q = ((m - q : Nat) : Int) := by omega
          have b1 : m ≤ b.length := by omega
          have b2 : q ≤ m := by omega
          rw [w1] at w0
          simp only [List.append_assoc] at e77 e78 e79 j4
          simp [e77, e78, e79, w0, w1, b1, b2] at hr
          refine ⟨(m, w ++ (put2 q ++ ([UInt8.ofNat (m - q)] ++ (b.drop q).take (m - q))), 1, true), _, hr.symm, ?_, ⟨j2, ?_, ?_⟩, ?_⟩
          · simp
          · exact Or.inl (Eq.refl 1)
          · show (w ++ (put2 q ++ ([UInt8.ofNat (m - q)] ++ (b.drop q).take (m - q)))) ++ _ = _
            rw [← j4]
            simp only [List.append_assoc]
          · show a.length - m < a.length - p
            omega
  · rintro ⟨rd, d⟩ rfl -
    simp [hR]
    cases d <;> simp
end Go.Proofs.Ytoipglmjnibdpaa
end

section
namespace Go.Proofs.Ytoipglmjnibdpaa
open Go Go.PS
theorem f106 (n : Nat) (x m : Nat) (hp : Heap) (hx : x ≤ 1000000) (hm : 0 < m) : evalCall Try.prog hints (n + 1) 106 [.int .i64 x, .int .i64 m] hp = some (.int .i64 ((x % m : Nat) : Int), hp, false) := by
  have m0 : (m : Int) ≠ 0 := by omega
  have e := tm (a := (x : Int)) (m : Int) (by omega)
  have e2 : (x : Int) % (m : Int) = ((x % m : Nat) : Int) := by simp
  have c : ¬ (x : Int) % (m : Int) < 0 := by rw [e2]; omega
  have m1 : m ≠ 0 := by omega
  rw [evalCall_at _ _ _ hh106 rfl Try.func106 rfl (Nat.le_of_ble_eq_true rfl) rfl]
  simp [e, m1, c]
theorem f100 (n : Nat) (x : Nat) (hp : Heap) (hx : x ≤ 1000000) : evalCall Try.prog hints (n + 2) 100 [.int .i64 x] hp = some (.int .i64 ((x % 256 : Nat) : Int), hp, false) := by
  have e := f106 n x 256 hp hx (by omega)
  rw [evalCall_at _ _ _ hh100 rfl Try.func100 rfl (Nat.le_of_ble_eq_true rfl) rfl]
  simp at e
  simp [e]
theorem f101 (n : Nat) (x : Nat) (hp : Heap) (hx : x ≤ 65535) : evalCall Try.prog hints (n + 2) 101 [.int .i64 x] hp = some (.int .i64 ((x / 256 : Nat) : Int), hp, false) := by
  have e := f106 n x 65536 hp (by omega) (by omega)
  have e1 : x % 65536 = x := by omega
  have e2 := td (a := (x : Int)) 256 (by omega)
  have w := wrap_id (x := (x : Int) / 256) (by omega)
  rw [evalCall_at _ _ _ hh101 rfl Try.func101 rfl (Nat.le_of_ble_eq_true rfl) rfl]
  rw [e1] at e
  simp at e
  simp [e, e2, w]
theorem f86 (n : Nat) (x : Nat) (hp : Heap) (hx : x ≤ 65535) : evalCall Try.prog hints (n + 3) 86 [.int .i64 x] hp = some (.str (put2 x), hp, false) := by
  have e1 := f100 n x hp (by omega)
  have e2 := f101 n x hp hx
  have b : bytesOf (ofBytes (put2 x)) = some (put2 x) := ob_bytes _
  rw [evalCall_at _ _ _ hh86 rfl Try.func86 rfl (Nat.le_of_ble_eq_true rfl) rfl]
  simp at e1 e2
  simp [put2, ofBytes] at b
  simp [e1, e2, b, put2]
theorem flush_le (i : Nat) (run : List UInt8) : (flush i run).length ≤ 3 + run.length := by
  unfold flush; split <;> simp [put2]; omega
set_option maxHeartbeats 4000000 in
theorem f52 (n : Nat) (a b : List UInt8) (hp : Heap) (h : a.length = b.length) (ha : a.length ≤ 600) (hn : 700 < n) :
    evalCall Try.prog hints (n + 5) 52 [.str a, .str b] hp = some (.str (ch 0 [] a b), hp, false) := by
  obtain ⟨R, hR⟩ : ∃ R, R = ch 0 [] a b := ⟨_, rfl⟩
  have hRl : R.length ≤ 2400 := by have := ch_len a b 0 []; simp at this; rw [hR]; omega
  rw [evalCall_at _ _ _ hh52 rfl Try.func52 rfl (Nat.le_of_ble_eq_true rfl) rfl]
  simp
  generalize hit : iter _ _ _ = r
  refine iter_elim hit (fun x : Nat × List UInt8 × List UInt8 => { fr := [(0, .str a), (1, .str b), (5, .str x.2.1), (6, .str x.2.2), (7, .int .i64 x.1)], hp := hp, base := hp.length, dirty := false })
    (fun x => (x.1 ≤ a.length ∧ x.2.2.length ≤ x.1 ∧ x.2.2.length ≤ 255 ∧ x.2.1 ++ ch x.1 x.2.2 (a.drop x.1) (b.drop x.1) = R) ∨ (x.1 = a.length + 1 ∧ x.2.1 = R)) (fun x => a.length + 1 - x.1)
    (fun x : List UInt8 => (.exit 0, { fr := [(0, .str a), (1, .str b), (5, .str R), (6, .str x), (7, .int .i64 ((a.length : Int) + 1)), (12, .bool false)], hp := hp, base := hp.length, dirty := false })) (fun _ => True) (0, [], []) rfl (.inl ⟨by simp, by simp, by simp, by simp [hR]⟩) (by simp; omega) ?_ ?_
  · rintro ⟨i, out, run⟩ hx
    dsimp only at hx
    rcases hx with ⟨h1, h2, h3, h4⟩ | ⟨rfl, rfl⟩
    · left
      have w1 := wrap_id (x := (i : Int) + 1) (by omega)
      have wl := congrArg List.length h4
      simp at wl
      -- what a flush does
      have fl : run ≠ [] → flush i run = put2 (i - run.length) ++ [UInt8.ofNat run.length] ++ run := fun h => by unfold flush; rw [if_neg h]
      have e86 := fun hp => f86 (n + 1) (i - run.length) hp (by omega)
      have w2 := wrap_id (x := (i : Int) - run.length) (by omega)
      have w3 : (i : Int) - run.length = ((i - run.length : Nat) : Int) := by omega
      rw [w3] at w2
      have b1 : bytesOf [PV.int .u8 ((run.length : Int) % 256)] = some [UInt8.ofNat run.length] := by
        have := ob_bytes [UInt8.ofNat run.length]
        simp [ofBytes] at this
        exact this
      have pl : ∀ x, (put2 x).length = 2 := fun x => rfl
      have l1 : out.length + 2 ≤ 9223372036854775807 := by omega
      have l2 : out.length ≤ 9223372036854775804 := by omega
      have l7 : out.length ≤ 9223372036854775805 := by omega
      have l3 : out.length + 3 + run.length ≤ 9223372036854775807 := by omega
      have l4 : out.length + (3 + run.length) ≤ 9223372036854775807 := by omega
      have c0 : i ≤ a.length := h1
      by_cases c1 : i < a.length
      · have c1' : i < b.length := by omega
        have ga : a[i]? = some a[i] := List.getElem?_eq_getElem c1
        have gb : b[i]? = some b[i] := List.getElem?_eq_getElem c1'
        have hsl : (b.drop i).take 1 = [b[i]] := by rw [drop_get b i c1']; rfl
        have n1 : (0 : Int) ≤ (i : Int) + 1 := by omega
        have n2 : (i : Int) + 1 ≤ b.length := by omega
        have n3 : ((i : Int) + 1).toNat = i + 1 := by omega
        have n4 : (i : Int) ≤ (i : Int) + 1 := by omega
        rw [drop_get a i c1, drop_get b i c1', ch] at h4
        by_cases c2 : a[i] = b[i]
        · rw [if_pos c2] at h4
          refine ⟨(i + 1, out ++ flush i run, []), ?_, .inl ⟨by dsimp only; omega, by simp, by simp, by dsimp only; rw [← h4]; simp⟩, by dsimp only; omega⟩
          by_cases c3 : run = []
          · subst c3
            simp [-getElem?_pos, List.getElem?_cons_zero, c0, c1, c1', ga, gb, c2, w1, flush]
          · have c3' : (run == []) = false := by simp [c3]
            rw [fl c3]
            simp [-getElem?_pos, List.getElem?_cons_zero, c0, c1, c1', ga, gb, w1, w3, w2, e86, b1, pl, l1, l2, l7, l3, l4, c2, c3']
        · rw [if_neg c2] at h4
          have c2' : ((a[i].toNat : Int) != b[i].toNat) = true := by
            simp
            intro e
            exact c2 (UInt8.toNat_inj.1 (by omega))
          by_cases c4 : run.length = 255
          · rw [if_pos c4] at h4
            have c3 : run ≠ [] := fun e => by rw [e] at c4; cases c4
            have c3' : (run == []) = false := by simp [c3]
            have c4' : ((run.length : Int) == 255) = true := by simp [c4]
            refine ⟨(i + 1, out ++ flush i run, [b[i]]), ?_, .inl ⟨by dsimp only; omega, by simp, by simp, by dsimp only; rw [← h4]; simp⟩, by dsimp only; omega⟩
            rw [fl c3]
            simp [-getElem?_pos, List.getElem?_cons_zero, c0, c1, c1', ga, gb, w1, w3, w2, e86, b1, pl, l1, l2, l7, l3, l4, c2', c3', c4', hsl, n1, n2, n3, n4]
          · rw [if_neg c4] at h4
            have c4' : ((run.length : Int) == 255) = false := by simp; omega
            have l5 : run.length + 1 ≤ 9223372036854775807 := by omega
            have l6 : run.length ≤ 9223372036854775806 := by omega
            refine ⟨(i + 1, out, run ++ [b[i]]), ?_, .inl ⟨by dsimp only; omega, by simp; omega, by simp; omega, by dsimp only; rw [← h4]⟩, by dsimp only; omega⟩
            by_cases c3 : run = []
            · subst c3
              simp [-getElem?_pos, List.getElem?_cons_zero, c0, c1, c1', ga, gb, w1, c2', hsl, n1, n2, n3, n4]
            · have c3' : (run == []) = false := by simp [c3]
              simp [-getElem?_pos, List.getElem?_cons_zero, c0, c1, c1', ga, gb, w1, w3, w2, e86, b1, pl, l1, l2, l7, l3, l4, c2', c3', c4', hsl, n1, n2, n3, n4, l5, l6]
      · have hi : i = a.length := by omega
        have e1 : a.drop i = [] := List.drop_eq_nil_of_le (by omega)
        have e2 : b.drop i = [] := List.drop_eq_nil_of_le (by omega)
        have hch : ch i run [] [] = flush i run := by simp [ch]
        rw [e1, e2, hch] at h4
        refine ⟨(i + 1, out ++ flush i run, []), ?_, .inr ⟨by dsimp only; omega, h4⟩, by dsimp only; omega⟩
        by_cases c3 : run = []
        · subst c3
          simp [-getElem?_pos, List.getElem?_cons_zero, c0, c1, w1, flush]
        · have c3' : (run == []) = false := by simp [c3]
          rw [fl c3]
          simp [-getElem?_pos, List.getElem?_cons_zero, c0, c1, w1, w3, w2, e86, b1, pl, l1, l2, l7, l3, l4, c3']
    · right
      have c0 : ¬ (a.length : Int) + 1 ≤ a.length := by omega
      refine ⟨run, ?_, by simp, trivial⟩
      simp [c0]
  · rintro run rfl -
    simp [hR]
end Go.Proofs.Ytoipglmjnibdpaa
end

section
namespace Go.Proofs.Ytoipglmjnibdpaa
open Go Go.PS
/-- What is told, put into the bytes, makes the others. -/
theorem ap_flush (la : Nat) (i : Nat) (run rest out : List UInt8) (e : Nat) (hi : run.length ≤ i) (hr : run.length ≤ 255) (hn : run ≠ []) (hie : e ≤ i - run.length) (hla : i ≤ la) (h65 : la ≤ 65535) (ho : out.length = la) :
    ap la (flush i run ++ rest) out e = ap la rest (out.take (i - run.length) ++ run ++ out.drop i) i := by
  have h0 : run.length ≠ 0 := fun h => hn (List.length_eq_zero_iff.1 h)
  unfold flush
  rw [if_neg hn]
  simp only [put2, List.append_assoc, List.cons_append, List.nil_append]
  rw [ap]
  have t1 : (UInt8.ofNat (i - run.length)).toNat + 256 * (UInt8.ofNat ((i - run.length) / 256)).toNat = i - run.length := by
    simp
    omega
  have t2 : (UInt8.ofNat run.length).toNat = run.length := by simp; omega
  simp only [t1, t2]
  rw [if_neg (by simp), if_neg (by omega), if_neg (by omega)]
  have t3 : i - run.length + run.length = i := by omega
  rw [t3]
  simp
/-- Changes, applied. -/
theorem ap_ch (la : Nat) : ∀ (xs ys : List UInt8) (i : Nat) (run out : List UInt8) (e : Nat), xs.length = ys.length → i + xs.length = la → la ≤ 65535 → out.length = la → run.length ≤ i → run.length ≤ 255 → (run = [] → e ≤ i) → (run ≠ [] → e ≤ i - run.length) → out.drop i = xs →
    ap la (ch i run xs ys) out e = (out.take (i - run.length) ++ run ++ ys, 0)
  | x :: xs, y :: ys, i, run, out, e, hl, hi, h65, ho, h1, h2, h3, h4, h5 => by
    have hx : out.drop (i + 1) = xs := drop_cons h5
    have hgx : out[i]? = some x := get_of_drop h5
    simp at hl hi
    have til : i < out.length := by omega
    have tk : out.take (i + 1) = out.take i ++ [x] := by
      rw [List.take_succ, hgx]; rfl
    obtain ⟨A, hA⟩ : ∃ A, A = out.take (i - run.length) ++ run := ⟨_, rfl⟩
    have hAl : A.length = i := by rw [hA]; simp; omega
    have ho' : (A ++ x :: xs).length = la := by simp; omega
    have d1 : (A ++ x :: xs).drop (i + 1) = xs := by
      rw [← hAl, List.drop_append, List.drop_eq_nil_of_le (by omega)]
      have : A.length + 1 - A.length = 1 := by omega
      rw [this]; rfl
    have t1 : (A ++ x :: xs).take (i + 1) = A ++ [x] := by
      rw [← hAl, List.take_append, List.take_of_length_le (by omega)]
      have : A.length + 1 - A.length = 1 := by omega
      rw [this]; rfl
    have t0 : (A ++ x :: xs).take i = A := by
      rw [← hAl, List.take_append_of_le_length (Nat.le_refl _), List.take_of_length_le (Nat.le_refl _)]
    rw [ch]
    split
    · rename_i hxy
      subst hxy
      by_cases hr : run = []
      · subst hr
        simp only [flush, if_true, List.nil_append, List.length_nil, Nat.sub_zero]
        rw [ap_ch la xs ys (i + 1) [] out e hl (by omega) h65 ho (by simp) (by simp) (fun _ => by have := h3 rfl; omega) (fun h => (h rfl).elim) hx]
        simp [tk]
      · rw [ap_flush la i run _ out e h1 h2 hr (h4 hr) (by omega) h65 ho, h5, ← hA]
        rw [ap_ch la xs ys (i + 1) [] _ i hl (by omega) h65 ho' (by simp) (by simp) (fun _ => by omega) (fun h => (h rfl).elim) d1]
        simp [t1]
    · rename_i hxy
      split
      · rename_i h255
        have hr : run ≠ [] := fun h => by rw [h] at h255; cases h255
        rw [ap_flush la i run _ out e h1 h2 hr (h4 hr) (by omega) h65 ho, h5, ← hA]
        rw [ap_ch la xs ys (i + 1) [y] _ i hl (by omega) h65 ho' (by simp) (by simp) (fun h => by cases h) (fun _ => by simp) d1]
        simp [t0]
      · rename_i h255
        rw [ap_ch la xs ys (i + 1) (run ++ [y]) out e hl (by omega) h65 ho (by simp; omega) (by simp; omega) (fun h => by simp at h) (fun _ => ?_) hx]
        · have : i + 1 - (run.length + 1) = i - run.length := by omega
          simp [this]
        · by_cases hr : run = []
          · have := h3 hr; simp [hr]; omega
          · have := h4 hr; simp; omega
  | [], [], i, run, out, e, hl, hi, h65, ho, h1, h2, h3, h4, h5 => by
    simp at hi
    have hch : ch i run [] [] = flush i run := by simp [ch]
    rw [hch]
    by_cases hr : run = []
    · subst hr
      have : out.take i = out := List.take_of_length_le (by omega)
      simp [flush, ap, this]
    · have := ap_flush la i run [] out e h1 h2 hr (h4 hr) (by omega) h65 ho
      rw [List.append_nil] at this
      rw [this, h5]
      simp [ap]
theorem ap_all (a b : List UInt8) (h : a.length = b.length) (ha : a.length ≤ 600) : ap a.length (ch 0 [] a b) a 0 = (b, 0) := by
  rw [ap_ch a.length a b 0 [] a 0 h (by simp) (by omega) rfl (by simp) (by simp) (fun _ => by omega) (fun h => (h rfl).elim) rfl]
  simp
theorem ch_same : ∀ (a : List UInt8) (i : Nat), ch i [] a a = []
  | [], i => by simp [ch, flush]
  | x :: a, i => by rw [ch_skip, ch_same a]
end Go.Proofs.Ytoipglmjnibdpaa
end

section
namespace Go.Proofs.Ytoipglmjnibdpaa
open Go Go.PS
theorem f87 (n : Nat) (m : Mk) (hp : Heap) : evalCall Try.prog hints (n + 1) 87 [.agg m.cells] hp = some (.bool (m.sort == 1), hp, false) := by
  rw [evalCall_at _ _ _ hh87 rfl Try.func87 rfl (Nat.le_of_ble_eq_true rfl) rfl]
  simp [Mk.cells]
def byL (l : List Mk) : Nat := (l.map fun m => m.data.length).sum
theorem byL_take (l : List Mk) (k : Nat) (h : k < l.length) : byL (l.take (k + 1)) = byL (l.take k) + l[k].data.length := by
  unfold byL
  rw [List.take_succ_eq_append_getElem h, List.map_append, List.sum_append]
  simp
theorem byL_le (l : List Mk) (k : Nat) : byL (l.take k) ≤ byL l := by
  have : byL l = byL (l.take k) + byL (l.drop k) := by
    unfold byL
    rw [← List.sum_append, ← List.map_append, List.take_append_drop]
  omega
theorem f59 (n : Nat) (l : List Mk) (hp : Heap) (hl : l.length ≤ 1000) (hb : byL l ≤ 4611686018427387904) (hn : 1001 < n) :
    evalCall Try.prog hints (n + 1) 59 [.sl .sh l.length (l.flatMap Mk.cells)] hp = some (.int .i64 (byL l), hp, false) := by
  rw [evalCall_at _ _ _ hh59 rfl Try.func59 rfl (Nat.le_of_ble_eq_true rfl) rfl]
  simp
  rw [iter_count (fun k => { fr := [(3, .int .i64 (byL (l.take k))), (6, .sl .sh l.length (l.flatMap Mk.cells)), (7, .int .i64 l.length), (8, .int .i64 k)], hp := hp, base := hp.length, dirty := false })
    (.exit 0, { fr := [(3, .int .i64 (byL l)), (6, .sl .sh l.length (l.flatMap Mk.cells)), (7, .int .i64 l.length), (8, .int .i64 l.length), (9, .bool false)], hp := hp, base := hp.length, dirty := false }) l.length n _ ?_ (by omega)]
  · simp
  · intro k hk
    have hla := flat_len Mk.len l
    have ra := flat_row Mk.len l k hk
    have ka : k * 6 + 6 ≤ l.length * 6 := by omega
    have w := wrap_id (x := (k : Int) + 1) (by omega)
    have b1 := byL_take l k hk
    have b2 := byL_le l (k + 1)
    have w2 := wrap_id (x := (byL (l.take k) : Int) + l[k].data.length) (by omega)
    have b3 : ((byL (l.take (k + 1)) : Nat) : Int) = (byL (l.take k) : Int) + l[k].data.length := by omega
    rw [b3]
    generalize l.flatMap Mk.cells = X at *
    generalize l[k] = m at *
    simp only [Mk.cells] at ra
    simp [hk, hla, ra, ka, w, w2]
  · simp
  · simp
  · simp [byL]
def smallD (l : List Mk) : Bool := l.all fun m => decide (m.data.length ≤ 300)
theorem f54 (n : Nat) (l : List Mk) (hp : Heap) (hl : l.length ≤ 9223372036854775807) (hn : 100 < n) :
    evalCall Try.prog hints (n + 1) 54 [.sl .sh l.length (l.flatMap Mk.cells)] hp = some (.tup [.sl .sh (l.take 40).length ((l.take 40).flatMap Mk.cells), .bool (smallD (l.take 40))], hp, false) := by
  obtain ⟨m, hm⟩ : ∃ m, m = min l.length 40 := ⟨_, rfl⟩
  have hm' : (if (40 : Int) < l.length then 40 else (l.length : Int)) = (m : Int) := by split <;> omega
  have hm2 : (m : Int) ≤ l.length := by omega
  have htk : l.take 40 = l.take m := by
    by_cases h : l.length ≤ 40
    · rw [List.take_of_length_le h, List.take_of_length_le (by omega)]
    · have : m = 40 := by omega
      rw [this]
  have hla := flat_len Mk.len l
  have ft := flat_take Mk.len l m
  have ll : (l.take m).length = m := by rw [List.length_take]; omega
  rw [htk, ll]
  rw [evalCall_at _ _ _ hh54 rfl Try.func54 rfl (Nat.le_of_ble_eq_true rfl) rfl]
  generalize l.take m = A at *
  have hm40 : m ≤ 40 := by omega
  simp [hm', hm2, hla, ft]
  generalize hit : iter _ _ _ = r
  refine iter_elim hit (fun k : Nat => { fr := [(0, .sl .sh m (A.flatMap Mk.cells)), (4, .int .i64 k)], hp := hp, base := hp.length, dirty := false })
    (fun k => k ≤ m ∧ smallD (A.take k) = true) (fun k => m - k)
    (fun x : Bool => if x then (.exit 0, { fr := [(0, .sl .sh m (A.flatMap Mk.cells)), (4, .int .i64 m), (13, .bool false)], hp := hp, base := hp.length, dirty := false })
      else (.ret, { fr := [(2, .sl .sh m (A.flatMap Mk.cells)), (3, .bool false)], hp := hp, base := hp.length, dirty := false }))
    (fun x => smallD A = x) 0 rfl ⟨by omega, rfl⟩ (by omega) ?_ ?_
  · rintro k ⟨h1, h2⟩
    have hlA := flat_len Mk.len A
    have w := wrap_id (x := (k : Int) + 1) (by omega)
    rw [ll] at hlA
    by_cases c1 : k < m
    · have g5 := flat_get Mk.len A k (by omega) 5 (by omega)
      have hs : smallD (A.take (k + 1)) = decide (A[k].data.length ≤ 300) := by
        rw [List.take_succ_eq_append_getElem (by omega)]
        unfold smallD at *
        rw [List.all_append, h2]
        simp
      by_cases c2 : A[k].data.length ≤ 300
      · left
        rw [decide_eq_true c2] at hs
        have c2' : ¬ (300 : Int) < A[k].data.length := by omega
        refine ⟨k + 1, ?_, ⟨by omega, hs⟩, by omega⟩
        generalize A.flatMap Mk.cells = X at *
        generalize A[k] = x at *
        simp only [Mk.cells] at g5
        simp at g5
        simp [-getElem?_pos, List.getElem?_cons_zero, c1, hlA, g5, c2', w]
      · right
        have c2' : (300 : Int) < A[k].data.length := by omega
        refine ⟨false, ?_, by simp, ?_⟩
        · generalize A.flatMap Mk.cells = X at *
          generalize A[k] = x at *
          simp only [Mk.cells] at g5
          simp at g5
          simp [-getElem?_pos, List.getElem?_cons_zero, c1, hlA, g5, c2']
        · unfold smallD
          rw [List.all_eq_false]
          exact ⟨A[k], List.getElem_mem _, by simpa using c2⟩
    · right
      have : k = m := by omega
      subst this
      refine ⟨true, ?_, by simp, ?_⟩
      · simp
      · rw [List.take_of_length_le (by omega)] at h2
        exact h2
  · rintro b rfl h
    rw [h]
    cases b <;> simp
theorem live49g (n : Nat) (hp : Heap) (hn : 1001 < n) : ∃ hp' d, evalCall Try.prog hints (n + 10) 49 [] hp = some (.bool true, hp', d) := by
  apply of_map
  obtain ⟨rd, d, e51⟩ := f51 (n + 4) [97, 98, 99, 100] [0, 0, 1, 120, 2, 0, 1, 121] hp (by simp) (by simp; omega) (by simp)
  have a1 : ap 4 [0, 0, 1, 120, 2, 0, 1, 121] [97, 98, 99, 100] 0 = ([120, 98, 121, 100], 0) := by simp [ap]
  have a2 : ch 0 [] [97, 98, 99, 100] [120, 98, 121, 100] = [0, 0, 1, 120, 2, 0, 1, 121] := by decide
  have e50 := fun hp => f50 (n + 4) [97, 98, 99, 100] [120, 98, 121, 100] hp rfl (by simp) (by omega)
  rw [a2] at e50
  have e59 := fun hp => f59 (n + 8) [⟨0, 0, 0, 0, 0, [97, 98]⟩, ⟨0, 0, 0, 0, 0, [99]⟩] hp (by simp) (by simp [byL]) (by omega)
  rw [evalCall_at _ _ _ hh49 rfl Try.func49 rfl (Nat.le_of_ble_eq_true rfl) rfl]
  simp [a1] at e51
  simp [Mk.cells, byL] at e59
  cases d with
  | true =>
    obtain ⟨rd2, d2, e50⟩ := e50 (hp ++ [rd])
    cases d2 <;> simp [e51, e50, e59]
  | false =>
    obtain ⟨rd2, d2, e50⟩ := e50 hp
    cases d2 <;> simp [e51, e50, e59]
end Go.Proofs.Ytoipglmjnibdpaa
end

section
namespace Go.Proofs.Ytoipglmjnibdpaa
open Go Go.PS
theorem ap_len (la : Nat) : ∀ (n : Nat) (c : List UInt8), c.length ≤ n → ∀ (out : List UInt8) (e : Nat), out.length = la → (ap la c out e).2 = 0 → (ap la c out e).1.length = la
  | _, [], _, out, e, ho, _ => by simp [ap, ho]
  | _, [x], _, out, e, ho, h => by simp [ap] at h
  | _, [x, y], _, out, e, ho, h => by simp [ap] at h
  | n + 1, x :: y :: z :: r, hn, out, e, ho, h => by
    rw [ap] at h ⊢
    split at h
    · cases h
    rename_i h1
    split at h
    · cases h
    rename_i h2
    split at h
    · cases h
    rename_i h3
    rw [if_neg h1, if_neg h2, if_neg h3]
    simp at hn
    exact ap_len la n _ (by simp; omega) _ _ (by simp; omega) h
def pre (m : Mk) : (List Mk ⊕ Int) → List Mk ⊕ Int
  | .inl l => .inl (m :: l)
  | .inr c => .inr c
def preL (a : List Mk) : (List Mk ⊕ Int) → List Mk ⊕ Int
  | .inl l => .inl (a ++ l)
  | .inr c => .inr c
theorem preL_pre (a : List Mk) (m : Mk) (x : List Mk ⊕ Int) : preL a (pre m x) = preL (a ++ [m]) x := by
  cases x <;> simp [pre, preL]
/-- The trace of a short one. -/
def unp : List Mk → Option (List UInt8) → List Mk ⊕ Int
  | [], _ => .inl []
  | m :: r, last =>
    if m.sort = 1 then
      (if m.n = 0 then pre m (unp r (some m.data))
       else if m.n = 1 then
         (match last with
          | none => .inr 13
          | some d => if (ap d.length m.data d 0).2 = 0 then pre { m with n := 0, data := (ap d.length m.data d 0).1 } (unp r (some (ap d.length m.data d 0).1)) else .inr (ap d.length m.data d 0).2)
       else .inr 2)
    else pre m (unp r last)
theorem unp_cons (m : Mk) (r : List Mk) (last : Option (List UInt8)) : unp (m :: r) last = if m.sort = 1 then
      (if m.n = 0 then pre m (unp r (some m.data))
       else if m.n = 1 then
         (match last with
          | none => .inr 13
          | some d => if (ap d.length m.data d 0).2 = 0 then pre { m with n := 0, data := (ap d.length m.data d 0).1 } (unp r (some (ap d.length m.data d 0).1)) else .inr (ap d.length m.data d 0).2)
       else .inr 2)
    else pre m (unp r last) := rfl
structure US where
  out : List Mk
  last : Option (List UInt8)
set_option maxHeartbeats 4000000 in
theorem f56 (n : Nat) (l : List Mk) (hp : Heap) (hl : l.length ≤ 40) (hs : smallD l = true) (hn : 1000 < n) :
    evalCall Try.prog hints (n + 3) 56 [.sl .sh l.length (l.flatMap Mk.cells)] hp = some (match unp l none with
      | .inl r => (.tup [.sl .sh r.length (r.flatMap Mk.cells), .int .i64 0], hp, false)
      | .inr c => (.tup [.sl .sh 0 [], .int .i64 c], hp, false)) := by
  have hsm : ∀ (k : Nat) (h : k < l.length), l[k].data.length ≤ 300 := fun k h => by
    have := List.all_eq_true.1 hs _ (List.getElem_mem h); simpa using this
  rw [evalCall_at _ _ _ hh56 rfl Try.func56 rfl (Nat.le_of_ble_eq_true rfl) rfl]
  obtain ⟨R, hR⟩ : ∃ R, R = unp l none := ⟨_, rfl⟩
  simp
  generalize hit : iter _ _ _ = r
  refine iter_elim hit (fun x : US => { fr := [(0, .sl .sh l.length (l.flatMap Mk.cells)), (4, .sl (.mu 6) x.out.length (x.out.flatMap Mk.cells)), (5, .bool x.last.isSome), (6, .str (x.last.getD [])), (7, .int .i64 x.out.length)], hp := hp, base := hp.length, dirty := false })
    (fun x => x.out.length ≤ l.length ∧ (∀ d, x.last = some d → d.length ≤ 300) ∧ preL x.out (unp (l.drop x.out.length) x.last) = R) (fun x => l.length - x.out.length)
    (fun y : US ⊕ Int => match y with
      | .inl x => (.exit 0, { fr := [(0, .sl .sh l.length (l.flatMap Mk.cells)), (4, .sl (.mu 6) x.out.length (x.out.flatMap Mk.cells)), (5, .bool x.last.isSome), (6, .str (x.last.getD [])), (7, .int .i64 x.out.length), (15, .bool false)], hp := hp, base := hp.length, dirty := false })
      | .inr c => (.ret, { fr := [(2, .sl (.mu 6) 0 []), (3, .int .i64 c)], hp := hp, base := hp.length, dirty := false }))
    (fun y => match y with | .inl x => R = .inl x.out | .inr c => R = .inr c) ⟨[], none⟩ rfl ⟨by simp, by simp, by rw [hR]; cases h : unp l none <;> simp [preL, h]⟩ (by simp; omega) ?_ ?_
  · rintro ⟨out, last⟩ ⟨h1, h2, h3⟩
    dsimp only at h1 h2 h3 ⊢
    obtain ⟨k, hk⟩ : ∃ k, k = out.length := ⟨_, rfl⟩
    rw [← hk] at h1 h3
    have hla := flat_len Mk.len l
    have w := wrap_id (x := (k : Int) + 1) (by omega)
    by_cases c1 : k < l.length
    · have ra := flat_row Mk.len l k c1
      have ka : k * 6 + 6 ≤ l.length * 6 := by omega
      have hdr := List.drop_eq_getElem_cons c1
      have hdl := hsm k c1
      have hlo := flat_len Mk.len out
      rw [← hk] at hlo
      have l1 : (k + 1) * 56 ≤ 140737488355328 := by omega
      have hap : ∀ m : Mk, (out ++ [m]).flatMap Mk.cells = out.flatMap Mk.cells ++ m.cells := fun m => by simp
      rw [hdr] at h3
      generalize l[k] = m at *
      have hml : m.data.length ≤ 300 := hdl
      rw [unp_cons] at h3
      by_cases c2 : m.sort = 1
      · have c2' : (m.sort == 1) = true := by simp [c2]
        rw [if_pos c2] at h3
        by_cases c3 : m.n = 0
        · rw [if_pos c3, preL_pre] at h3
          left
          refine ⟨⟨out ++ [m], some m.data⟩, ?_, ⟨by simp; omega, by simp; exact hml, by simp [← hk]; exact h3⟩, by simp; omega⟩
          simp only [hap, List.length_append, List.length_singleton, ← hk]
          generalize out.flatMap Mk.cells = O at *
          generalize l.flatMap Mk.cells = X at *
          simp only [Mk.cells] at ra
          simp [c1, hla, ra, ka, c2', c3, w, hlo, l1, Mk.cells]
        · rw [if_neg c3] at h3
          by_cases c4 : m.n = 1
          · rw [if_pos c4] at h3
            cases last with
            | none =>
              right
              refine ⟨.inr 13, ?_, by simp, h3.symm⟩
              generalize out.flatMap Mk.cells = O at *
              generalize l.flatMap Mk.cells = X at *
              simp only [Mk.cells] at ra
              simp [c1, hla, ra, ka, c2', c4, w, hlo, ← hk]
            | some d =>
              dsimp only at h3
              have hd := h2 d rfl
              have e53 := fun hp => f53 n d m.data hp (by omega) (by omega) (by omega)
              have al := ap_len d.length m.data.length m.data (Nat.le_refl _) d 0 rfl
              generalize ap d.length m.data d 0 = A at *
              obtain ⟨s, cd⟩ := A
              dsimp only at h3 e53 al
              by_cases c5 : cd = 0
              · rw [if_pos c5, preL_pre] at h3
                subst c5
                left
                refine ⟨⟨out ++ [{ m with n := 0, data := s }], some s⟩, ?_, ⟨by simp; omega, by simp; have := al rfl; omega, by simp [← hk]; exact h3⟩, by simp; omega⟩
                simp only [hap, List.length_append, List.length_singleton, ← hk]
                generalize out.flatMap Mk.cells = O at *
                generalize l.flatMap Mk.cells = X at *
                simp only [Mk.cells] at ra
                simp [c1, hla, ra, ka, c2', c4, w, hlo, l1, Mk.cells, e53]
              · rw [if_neg c5] at h3
                have c5' : (cd != 0) = true := by simp [c5]
                right
                refine ⟨.inr cd, ?_, by simp, h3.symm⟩
                generalize out.flatMap Mk.cells = O at *
                generalize l.flatMap Mk.cells = X at *
                simp only [Mk.cells] at ra
                simp [c1, hla, ra, ka, c2', c4, w, hlo, ← hk, e53, c5']
          · rw [if_neg c4] at h3
            right
            refine ⟨.inr 2, ?_, by simp, h3.symm⟩
            generalize out.flatMap Mk.cells = O at *
            generalize l.flatMap Mk.cells = X at *
            simp only [Mk.cells] at ra
            by_cases c5 : m.n < 0
            · simp [c1, hla, ra, ka, c2', c5, w, hlo, ← hk]
            · have c6 : 1 < m.n := by omega
              simp [c1, hla, ra, ka, c2', c5, c6, w, hlo, ← hk]
      · have c2' : (m.sort == 1) = false := by simp [c2]
        rw [if_neg c2, preL_pre] at h3
        left
        refine ⟨⟨out ++ [m], last⟩, ?_, ⟨by simp; omega, h2, by simp [← hk]; exact h3⟩, by simp; omega⟩
        simp only [hap, List.length_append, List.length_singleton, ← hk]
        generalize out.flatMap Mk.cells = O at *
        generalize l.flatMap Mk.cells = X at *
        simp only [Mk.cells] at ra
        simp [c1, hla, ra, ka, c2', w, hlo, l1, Mk.cells]
    · right
      have hkl : k = l.length := by omega
      rw [List.drop_eq_nil_of_le (by omega)] at h3
      refine ⟨.inl ⟨out, last⟩, ?_, by simp, ?_⟩
      · simp [c1, ← hk]
      · dsimp only; rw [← h3]; simp [unp, preL]
  · rintro (⟨out, last⟩ | c) rfl h
    · dsimp only at h
      rw [← hR, h]
      have hou := flat_out (f := Mk.cells) (fun _ => rfl) out
      have hst := flat_all (f := Mk.cells) (fun _ => rfl) out
      simp [hou]
    · dsimp only at h
      rw [← hR, h]
      simp
end Go.Proofs.Ytoipglmjnibdpaa
end

section
namespace Go.Proofs.Ytoipglmjnibdpaa
open Go Go.PS
theorem flat_set {α : Type} {f : α → List PV} {k : Nat} (hk : ∀ x, (f x).length = k) : ∀ (l : List α) (i : Nat) (h : i < l.length) (c : Nat) (_ : c < k) (v : PV) (x : α) (_ : f x = (f l[i]).set c v), (l.flatMap f).set (i * k + c) v = (l.set i x).flatMap f
  | a :: l, 0, _, c, hc, v, x, hx => by
    simp only [List.flatMap_cons, List.set_cons_zero, Nat.zero_mul, Nat.zero_add]
    rw [List.set_append_left _ _ (by rw [hk]; exact hc), hx]
    rfl
  | a :: l, i + 1, h, c, hc, v, x, hx => by
    have h' : i < l.length := by simpa using h
    simp only [List.flatMap_cons, List.set_cons_succ]
    rw [List.set_append_right _ _ (by rw [hk, Nat.succ_mul]; omega), hk, ← flat_set hk l i h' c hc v x (by simpa using hx)]
    congr 2
    rw [Nat.succ_mul]; omega
structure U5 where
  out : List Mk
  last : Option Nat
  H : Heap
  d : Bool
def U5.li (x : U5) : Int := match x.last with | some j => j | none => -1
def U5.ld (x : U5) : Option (List UInt8) := x.last.map fun j => (x.out.getD j Mk.zero).data
theorem getD_app (out : List Mk) (m : Mk) (j : Nat) (h : j < out.length) : (out ++ [m]).getD j Mk.zero = out.getD j Mk.zero := by
  simp [List.getElem?_append_left h]
set_option maxHeartbeats 4000000 in
theorem f55 (n : Nat) (l : List Mk) (hp : Heap) (hl : l.length ≤ 40) (hs : smallD l = true) (hn : 1000 < n) :
    ∃ hp' d, evalCall Try.prog hints (n + 6) 55 [.sl .sh l.length (l.flatMap Mk.cells)] hp = some ((match unp l none with
      | .inl r => .tup [.sl .sh r.length (r.flatMap Mk.cells), .int .i64 0]
      | .inr c => .tup [.sl .sh 0 [], .int .i64 c]), hp', d) := by
  have hsm : ∀ (k : Nat) (h : k < l.length), l[k].data.length ≤ 300 := fun k h => by
    have := List.all_eq_true.1 hs _ (List.getElem_mem h); simpa using this
  apply of_map
  rw [evalCall_at _ _ _ hh55 rfl Try.func55 rfl (Nat.le_of_ble_eq_true rfl) rfl]
  obtain ⟨R, hR⟩ : ∃ R, R = unp l none := ⟨_, rfl⟩
  have e66 := fun hp => f66 (n + 4) l hp (by omega)
  simp [e66]
  generalize hit : iter _ _ _ = r
  refine iter_elim hit (fun x : U5 => { fr := [(4, .sl (.mu 6) l.length ((x.out ++ l.drop x.out.length).flatMap Mk.cells)), (5, .int .i64 x.li), (12, .sl .sh l.length (l.flatMap Mk.cells)), (13, .int .i64 l.length), (14, .int .i64 x.out.length)], hp := x.H, base := hp.length, dirty := x.d })
    (fun x => x.out.length ≤ l.length ∧ (∀ m ∈ x.out, m.data.length ≤ 300) ∧ (∀ j, x.last = some j → j < x.out.length) ∧ preL x.out (unp (l.drop x.out.length) x.ld) = R) (fun x => l.length - x.out.length)
    (fun y : U5 ⊕ (Int × Heap × Bool) => match y with
      | .inl x => (.exit 0, { fr := [(4, .sl (.mu 6) l.length (x.out.flatMap Mk.cells)), (5, .int .i64 x.li), (12, .sl .sh l.length (l.flatMap Mk.cells)), (13, .int .i64 l.length), (14, .int .i64 x.out.length), (15, .bool false)], hp := x.H, base := hp.length, dirty := x.d })
      | .inr (c, H, d) => (.ret, { fr := [(2, .sl (.mu 6) 0 []), (3, .int .i64 c)], hp := H, base := hp.length, dirty := d }))
    (fun y => match y with | .inl x => R = .inl x.out ∧ x.out.length = l.length | .inr (c, _, _) => R = .inr c) ⟨[], none, hp, false⟩ rfl ⟨by simp, by simp, by simp, by rw [hR]; show preL [] (unp l none) = _; cases h : unp l none <;> simp [preL]⟩ (by simp; omega) ?_ ?_
  · rintro ⟨out, last, H, d⟩ ⟨h1, h2, h4, h3⟩
    dsimp only at h1 h2 h3 h4 ⊢
    obtain ⟨k, hk⟩ : ∃ k, k = out.length := ⟨_, rfl⟩
    rw [← hk] at h1 h3 h4
    have hla := flat_len Mk.len l
    have w := wrap_id (x := (k : Int) + 1) (by omega)
    by_cases c1 : k < l.length
    · have ra := flat_row Mk.len l k c1
      have ka : k * 6 + 6 ≤ l.length * 6 := by omega
      have hdr := List.drop_eq_getElem_cons c1
      have hdl := hsm k c1
      rw [hdr] at h3
      generalize l[k] = m at *
      generalize hrest : l.drop (k + 1) = rest at *
      have hml : m.data.length ≤ 300 := hdl
      have e87 := fun hp => f87 (n + 4) m hp
      rw [unp_cons] at h3
      have hcat : out ++ [m] ++ rest = out ++ m :: rest := by simp
      have hrl : rest.length + (k + 1) = l.length := by rw [← hrest]; simp; omega
      by_cases c2 : m.sort = 1
      · have c2' : (m.sort == 1) = true := by simp [c2]
        rw [if_pos c2] at h3
        have hput : ∀ m' : Mk, m'.data.length ≤ 300 → preL (out ++ [m']) (unp rest (some m'.data)) = R →
            (out ++ [m']).length ≤ l.length ∧ (∀ x ∈ out ++ [m'], x.data.length ≤ 300) ∧ (∀ j, some k = some j → j < (out ++ [m']).length) ∧ preL (out ++ [m']) (unp (l.drop (out ++ [m']).length) (some ((out ++ [m']).getD k Mk.zero).data)) = R := fun m' h5 h6 => by
          refine ⟨by simp; omega, fun x hx => ?_, fun j hj => by cases hj; simp; omega, ?_⟩
          · rcases List.mem_append.1 hx with h | h
            · exact h2 x h
            · simp at h; subst h; exact h5
          · rw [show (out ++ [m']).length = k + 1 by simp [hk], hrest]
            have : (out ++ [m']).getD k Mk.zero = m' := by simp [hk]
            rw [this]; exact h6
        by_cases c3 : m.n = 0
        · rw [if_pos c3, preL_pre] at h3
          left
          have c3t : (m.n == 0) = true := by simp [c3]
          refine ⟨⟨out ++ [m], some k, H, d⟩, ?_, hput m hml h3, by simp; omega⟩
          simp only [List.length_append, List.length_singleton, ← hk, hdr, hrest, hcat]
          generalize (out ++ m :: rest).flatMap Mk.cells = O at *
          generalize l.flatMap Mk.cells = X at *
          simp only [Mk.cells] at ra e87
          simp [c1, hla, ra, ka, e87, c2', c3t, w, U5.li, Mk.cells]
        · rw [if_neg c3] at h3
          have c3' : (m.n == 0) = false := by simp [c3]
          by_cases c4 : m.n = 1
          · rw [if_pos c4] at h3
            have c4t : (m.n == 1) = true := by simp [c4]
            cases last with
            | none =>
              right
              refine ⟨.inr (13, H, d), ?_, by simp, h3.symm⟩
              simp only [← hk, hdr, hrest]
              generalize (out ++ m :: rest).flatMap Mk.cells = O at *
              generalize l.flatMap Mk.cells = X at *
              simp only [Mk.cells] at ra e87
              simp [c1, hla, ra, ka, e87, c2', c3', c4t, w, U5.li, Mk.cells]
            | some j =>
              have hj := h4 j rfl
              have hj' : j < out.length := by omega
              have hld : U5.ld ⟨out, some j, H, d⟩ = some out[j].data := by simp [U5.ld, hj']
              rw [hld] at h3
              dsimp only at h3
              have hd := h2 out[j] (List.getElem_mem hj')
              obtain ⟨rd, d2, e51⟩ := f51 n out[j].data m.data H (by omega) (by omega) (by omega)
              have al := ap_len out[j].data.length m.data.length m.data (Nat.le_refl _) out[j].data 0 rfl
              have gj : ((out ++ m :: rest).flatMap Mk.cells)[j * 6 + 5]? = some (.str out[j].data) := by
                rw [flat_get Mk.len _ j (by simp; omega) 5 (by omega), List.getElem_append_left hj']
                rfl
              have hlO := flat_len Mk.len (out ++ m :: rest)
              have hlO' : (out ++ m :: rest).length = l.length := by simp; omega
              rw [hlO'] at hlO
              have hkl : k < (out ++ m :: rest).length := by omega
              have hmk : (out ++ m :: rest)[k] = m := by simp [hk]
              have hs1 := flat_set Mk.len (out ++ m :: rest) k hkl 4 (by omega) (.int .i64 0) { m with n := 0 } (by rw [hmk]; rfl)
              have hkl' : k < ((out ++ m :: rest).set k { m with n := 0 }).length := by simp; omega
              have e51' := e51
              generalize ap out[j].data.length m.data out[j].data 0 = A at *
              obtain ⟨sd, cd⟩ := A
              dsimp only at h3 e51 al
              have hs2 := flat_set Mk.len ((out ++ m :: rest).set k { m with n := 0 }) k hkl' 5 (by omega) (.str sd) { m with n := 0, data := sd } (by simp [Mk.cells])
              have hss : ((out ++ m :: rest).set k { m with n := 0 }).set k { m with n := 0, data := sd } = out ++ [{ m with n := 0, data := sd }] ++ rest := by
                rw [List.set_set, hk]; simp
              rw [hss, ← hs1] at hs2
              have jl : j < l.length := by omega
              have j0 : ¬ ((j : Int) < 0) := by omega
              have k5 : k * 6 + 5 ≤ l.length * 6 := by omega
              have k4 : k * 6 + 4 + 1 ≤ l.length * 6 := by omega
              by_cases c5 : cd = 0
              · rw [if_pos c5, preL_pre] at h3
                subst c5
                left
                refine ⟨⟨out ++ [{ m with n := 0, data := sd }], some k, if d2 then H ++ [rd] else H, d || d2⟩, ?_, hput { m with n := 0, data := sd } (by show sd.length ≤ 300; have := al rfl; omega) h3, by simp; omega⟩
                simp only [List.length_append, List.length_singleton, ← hk, hdr, hrest]
                generalize (out ++ [{ m with n := 0, data := sd }] ++ rest).flatMap Mk.cells = O2 at *
                generalize (out ++ m :: rest).flatMap Mk.cells = O at *
                generalize l.flatMap Mk.cells = X at *
                simp only [Mk.cells] at ra e87
                cases d2 with
                | true =>
                  simp [-getElem?_pos, List.getElem?_cons_zero, c1, hla, ra, ka, e87, c2', c3', c4t, w, U5.li, Mk.cells, jl, gj, hlO, j0, e51, k5, k4, hs2]
                | false =>
                  simp [-getElem?_pos, List.getElem?_cons_zero, c1, hla, ra, ka, e87, c2', c3', c4t, w, U5.li, Mk.cells, jl, gj, hlO, j0, e51, k5, k4, hs2]
              · rw [if_neg c5] at h3
                have c5' : (cd != 0) = true := by simp [c5]
                right
                refine ⟨.inr (cd, if d2 then H ++ [rd] else H, d || d2), ?_, by simp, h3.symm⟩
                simp only [← hk, hdr, hrest]
                generalize (out ++ m :: rest).flatMap Mk.cells = O at *
                generalize l.flatMap Mk.cells = X at *
                simp only [Mk.cells] at ra e87
                cases d2 with
                | true => simp [-getElem?_pos, List.getElem?_cons_zero, c1, hla, ra, ka, e87, c2', c3', c4t, w, U5.li, Mk.cells, jl, gj, hlO, j0, e51, c5']
                | false => simp [-getElem?_pos, List.getElem?_cons_zero, c1, hla, ra, ka, e87, c2', c3', c4t, w, U5.li, Mk.cells, jl, gj, hlO, j0, e51, c5']
          · rw [if_neg c4] at h3
            have c4' : (m.n == 1) = false := by simp [c4]
            right
            refine ⟨.inr (2, H, d), ?_, by simp, h3.symm⟩
            simp only [← hk, hdr, hrest]
            generalize (out ++ m :: rest).flatMap Mk.cells = O at *
            generalize l.flatMap Mk.cells = X at *
            simp only [Mk.cells] at ra e87
            simp [c1, hla, ra, ka, e87, c2', c3', c4', w, U5.li, Mk.cells]
      · have c2' : (m.sort == 1) = false := by simp [c2]
        rw [if_neg c2, preL_pre] at h3
        left
        refine ⟨⟨out ++ [m], last, H, d⟩, ?_, ⟨by simp; omega, ?_, fun j hj => by have := h4 j hj; simp; omega, ?_⟩, by simp; omega⟩
        · simp only [List.length_append, List.length_singleton, ← hk, hdr, hrest, hcat]
          generalize (out ++ m :: rest).flatMap Mk.cells = O at *
          generalize l.flatMap Mk.cells = X at *
          simp only [Mk.cells] at ra e87
          simp [c1, hla, ra, ka, e87, c2', w, U5.li, Mk.cells]
        · intro m' hm'
          rcases List.mem_append.1 hm' with h | h
          · exact h2 m' h
          · simp at h; subst h; exact hml
        · show preL (out ++ [m]) (unp (l.drop (out ++ [m]).length) _) = R
          rw [show (out ++ [m]).length = k + 1 by simp [hk], hrest]
          rw [← h3]
          congr 2
          cases last with
          | none => rfl
          | some j =>
            have := h4 j rfl
            exact congrArg some (congrArg Mk.data (getD_app out m j (by omega)))
    · right
      have hkl : k = l.length := by omega
      rw [List.drop_eq_nil_of_le (by omega)] at h3
      refine ⟨.inl ⟨out, last, H, d⟩, ?_, by simp, ?_⟩
      · rw [← hk, List.drop_eq_nil_of_le (by omega)]
        simp [c1]
        omega
      · dsimp only; exact ⟨by rw [← h3]; simp [unp, preL], by omega⟩
  · rintro (⟨out, last, H, d⟩ | ⟨c, H, d⟩) rfl h
    · dsimp only at h
      rw [← hR, h.1, ← h.2]
      have hou := flat_out (f := Mk.cells) (fun _ => rfl) out
      have hst := flat_all (f := Mk.cells) (fun _ => rfl) out
      simp [hou]
    · dsimp only at h
      rw [← hR, h]
      simp
end Go.Proofs.Ytoipglmjnibdpaa
end

section
namespace Go.Proofs.Ytoipglmjnibdpaa
open Go Go.PS
theorem unp_len : ∀ (l : List Mk) (last : Option (List UInt8)) (r : List Mk), unp l last = .inl r → r.length = l.length
  | [], _, r, h => by simp [unp] at h; simp [← h]
  | m :: t, last, r, h => by
    have ih := unp_len t
    have key : ∀ (m' : Mk) (la : Option (List UInt8)), pre m' (unp t la) = .inl r → r.length = (m :: t).length := by
      intro m' la h
      cases hu : unp t la with
      | inl q => rw [hu] at h; simp only [pre, Sum.inl.injEq] at h; rw [← h]; simp [ih la q hu]
      | inr c => rw [hu] at h; cases h
    rw [unp_cons] at h
    split at h
    · split at h
      · exact key _ _ h
      · split at h
        · cases last with
          | none => cases h
          | some d =>
            dsimp only at h
            split at h
            · exact key _ _ h
            · cases h
        · cases h
    · exact key _ _ h
set_option maxHeartbeats 2000000 in
theorem f13 (l : List Mk) (hl : l.length ≤ 9223372036854775807) : ∃ hp d, evalCall Try.prog hints 5021 13 [.sl .sh l.length (l.flatMap Mk.cells)] [] = some (.bool true, hp, d) := by
  apply of_map
  have e54 := f54 5019 l [] hl (by omega)
  have l49 := fun hp => live49g 5010 hp (by omega)
  rw [evalCall_at _ _ _ hh13 rfl Try.func13 rfl (Nat.le_of_ble_eq_true rfl) rfl]
  obtain ⟨s, hs⟩ : ∃ s, s = l.take 40 := ⟨_, rfl⟩
  rw [← hs] at e54
  have sl : s.length ≤ 40 := by rw [hs]; simp; omega
  cases hsm : smallD s with
  | false =>
    rw [hsm] at e54
    obtain ⟨hp1, d1, l49⟩ := l49 []
    cases d1 <;> simp [e54, l49]
  | true =>
    rw [hsm] at e54
    obtain ⟨hp1, d1, e55⟩ := f55 5014 s [] sl hsm (by omega)
    have e56 := fun hp => f56 5017 s hp sl hsm (by omega)
    have e31 := fun r hp h => f31 5019 r r hp h (by omega)
    obtain ⟨hp2, d2, l49a⟩ := l49 []
    obtain ⟨hp3, d3, l49b⟩ := l49 hp1
    clear l49
    cases hu : unp s none with
    | inl r =>
      have hr := unp_len s none r hu
      have e31 := fun hp => e31 r hp (by omega)
      simp only [hu] at e55 e56
      generalize s.flatMap Mk.cells = X at *
      cases r with
      | nil =>
        simp at e31 e55 e56
        clear hs
        cases d1 <;> cases d2 <;> cases d3 <;> simp [e54, e55, e56, l49a, l49b, e31]
      | cons x t =>
        obtain ⟨c0, Y, hY⟩ : ∃ c0 Y, (x :: t).flatMap Mk.cells = c0 :: Y := ⟨_, _, rfl⟩
        rw [hY] at e31 e55 e56
        generalize (x :: t).length = rl at *
        cases d1 <;> cases d2 <;> cases d3 <;> simp [e54, e55, e56, l49a, l49b, e31]
    | inr c =>
      have e31 := fun hp => e31 [] hp (by simp)
      simp only [hu] at e55 e56
      simp at e31
      generalize s.flatMap Mk.cells = X at *
      cases d1 <;> cases d2 <;> cases d3 <;> simp [e54, e55, e56, l49a, l49b, e31]
end Go.Proofs.Ytoipglmjnibdpaa
end

section
namespace Go.Proofs.Ytoipglmjnibdpaa
open Go Go.PS
/-- One mark, packed against the text before it. -/
def pk1 (m : Mk) : Option (List UInt8) → Mk
  | none => m
  | some d => if d.length = m.data.length ∧ (ch 0 [] d m.data).length < m.data.length then { m with n := 1, data := ch 0 [] d m.data } else m
/-- The short one of a trace. -/
def pk : List Mk → Option (List UInt8) → List Mk ⊕ Int
  | [], _ => .inl []
  | m :: r, last =>
    if m.sort = 1 then
      (if m.n = 0 then pre (pk1 m last) (pk r (some m.data)) else .inr 2)
    else pre m (pk r last)
theorem pk_cons (m : Mk) (r : List Mk) (last : Option (List UInt8)) : pk (m :: r) last = if m.sort = 1 then
      (if m.n = 0 then pre (pk1 m last) (pk r (some m.data)) else .inr 2)
    else pre m (pk r last) := rfl
theorem pre_inl {m : Mk} {x : List Mk ⊕ Int} {r : List Mk} (h : pre m x = .inl r) : ∃ q, x = .inl q ∧ r = m :: q := by
  cases x with
  | inl q => exact ⟨q, rfl, by simpa [pre] using h.symm⟩
  | inr c => cases h
theorem pk1_small (m : Mk) (last : Option (List UInt8)) : (pk1 m last).data.length ≤ m.data.length := by
  cases last with
  | none => exact Nat.le_refl _
  | some d =>
    simp only [pk1]
    split
    · rename_i h; exact Nat.le_of_lt h.2
    · exact Nat.le_refl _
/-- What was packed is unpacked again. -/
theorem unp_pk : ∀ (l : List Mk) (last : Option (List UInt8)) (r : List Mk), smallD l = true → pk l last = .inl r → unp r last = .inl l
  | [], _, r, _, h => by simp [pk] at h; subst h; rfl
  | m :: t, last, r, hs, h => by
    have hs' : m.data.length ≤ 300 ∧ smallD t = true := by simpa [smallD] using hs
    rw [pk_cons] at h
    split at h
    · rename_i h1
      split at h
      · rename_i h2
        obtain ⟨q, hq, rfl⟩ := pre_inl h
        have ih := unp_pk t _ q hs'.2 hq
        cases last with
        | none => rw [show pk1 m none = m from rfl, unp_cons, if_pos h1, if_pos h2, ih]; rfl
        | some d =>
          simp only [pk1]
          split
          · rename_i h3
            have ha := ap_all d m.data h3.1 (by omega)
            rw [unp_cons, if_pos h1, if_neg (by simp), if_pos rfl]
            simp only [ha, if_true, ih, pre]
            congr 2
            cases m; simp_all
          · rw [unp_cons, if_pos h1, if_pos h2, ih]; rfl
      · cases h
    · rename_i h1
      obtain ⟨q, hq, rfl⟩ := pre_inl h
      rw [unp_cons, if_neg h1, unp_pk t _ q hs'.2 hq]; rfl
/-- What was packed is no longer. -/
theorem byL_pk : ∀ (l : List Mk) (last : Option (List UInt8)) (r : List Mk), pk l last = .inl r → byL r ≤ byL l ∧ r.length = l.length
  | [], _, r, h => by simp [pk] at h; subst h; simp
  | m :: t, last, r, h => by
    rw [pk_cons] at h
    split at h
    · split at h
      · obtain ⟨q, hq, rfl⟩ := pre_inl h
        have ih := byL_pk t _ q hq
        have := pk1_small m last
        simp only [byL, List.map_cons, List.sum_cons, List.length_cons] at *
        omega
      · cases h
    · obtain ⟨q, hq, rfl⟩ := pre_inl h
      have ih := byL_pk t _ q hq
      simp only [byL, List.map_cons, List.sum_cons, List.length_cons] at *
      omega
theorem small_pk : ∀ (l : List Mk) (last : Option (List UInt8)) (r : List Mk), smallD l = true → pk l last = .inl r → smallD r = true
  | [], _, r, _, h => by simp [pk] at h; subst h; rfl
  | m :: t, last, r, hs, h => by
    have hs' : m.data.length ≤ 300 ∧ smallD t = true := by simpa [smallD] using hs
    rw [pk_cons] at h
    split at h
    · split at h
      · obtain ⟨q, hq, rfl⟩ := pre_inl h
        have := pk1_small m last
        have := small_pk t _ q hs'.2 hq
        simp [smallD] at this ⊢
        exact ⟨by omega, this⟩
      · cases h
    · obtain ⟨q, hq, rfl⟩ := pre_inl h
      have := small_pk t _ q hs'.2 hq
      simp [smallD] at this ⊢
      exact ⟨by omega, this⟩
end Go.Proofs.Ytoipglmjnibdpaa
end

section
namespace Go.Proofs.Ytoipglmjnibdpaa
open Go Go.PS
set_option maxHeartbeats 4000000 in
theorem f58 (n : Nat) (l : List Mk) (hp : Heap) (hl : l.length ≤ 40) (hs : smallD l = true) (hn : 1000 < n) :
    evalCall Try.prog hints (n + 6) 58 [.sl .sh l.length (l.flatMap Mk.cells)] hp = some (match pk l none with
      | .inl r => (.tup [.sl .sh r.length (r.flatMap Mk.cells), .int .i64 0], hp, false)
      | .inr c => (.tup [.sl .sh 0 [], .int .i64 c], hp, false)) := by
  have hsm : ∀ (k : Nat) (h : k < l.length), l[k].data.length ≤ 300 := fun k h => by
    have := List.all_eq_true.1 hs _ (List.getElem_mem h); simpa using this
  rw [evalCall_at _ _ _ hh58 rfl Try.func58 rfl (Nat.le_of_ble_eq_true rfl) rfl]
  obtain ⟨R, hR⟩ : ∃ R, R = pk l none := ⟨_, rfl⟩
  simp
  generalize hit : iter _ _ _ = r
  refine iter_elim hit (fun x : US => { fr := [(0, .sl .sh l.length (l.flatMap Mk.cells)), (4, .sl (.mu 6) x.out.length (x.out.flatMap Mk.cells)), (5, .bool x.last.isSome), (6, .str (x.last.getD [])), (7, .int .i64 x.out.length)], hp := hp, base := hp.length, dirty := false })
    (fun x => x.out.length ≤ l.length ∧ (∀ d, x.last = some d → d.length ≤ 300) ∧ preL x.out (pk (l.drop x.out.length) x.last) = R) (fun x => l.length - x.out.length)
    (fun y : US ⊕ Int => match y with
      | .inl x => (.exit 0, { fr := [(0, .sl .sh l.length (l.flatMap Mk.cells)), (4, .sl (.mu 6) x.out.length (x.out.flatMap Mk.cells)), (5, .bool x.last.isSome), (6, .str (x.last.getD [])), (7, .int .i64 x.out.length), (14, .bool false)], hp := hp, base := hp.length, dirty := false })
      | .inr c => (.ret, { fr := [(2, .sl (.mu 6) 0 []), (3, .int .i64 c)], hp := hp, base := hp.length, dirty := false }))
    (fun y => match y with | .inl x => R = .inl x.out | .inr c => R = .inr c) ⟨[], none⟩ rfl ⟨by simp, by simp, by rw [hR]; cases h : pk l none <;> simp [preL, h]⟩ (by simp; omega) ?_ ?_
  · rintro ⟨out, last⟩ ⟨h1, h2, h3⟩
    dsimp only at h1 h2 h3 ⊢
    obtain ⟨k, hk⟩ : ∃ k, k = out.length := ⟨_, rfl⟩
    rw [← hk] at h1 h3
    have hla := flat_len Mk.len l
    have w := wrap_id (x := (k : Int) + 1) (by omega)
    by_cases c1 : k < l.length
    · have ra := flat_row Mk.len l k c1
      have ka : k * 6 + 6 ≤ l.length * 6 := by omega
      have hdr := List.drop_eq_getElem_cons c1
      have hdl := hsm k c1
      have hlo := flat_len Mk.len out
      rw [← hk] at hlo
      have l1 : (k + 1) * 56 ≤ 140737488355328 := by omega
      have hap : ∀ m : Mk, (out ++ [m]).flatMap Mk.cells = out.flatMap Mk.cells ++ m.cells := fun m => by simp
      rw [hdr] at h3
      generalize l[k] = m at *
      have hml : m.data.length ≤ 300 := hdl
      rw [pk_cons] at h3
      by_cases c2 : m.sort = 1
      · have c2' : (m.sort == 1) = true := by simp [c2]
        rw [if_pos c2] at h3
        by_cases c3 : m.n = 0
        · rw [if_pos c3, preL_pre] at h3
          left
          refine ⟨⟨out ++ [pk1 m last], some m.data⟩, ?_, ⟨by simp; omega, by simp; exact hml, by simp [← hk]; exact h3⟩, by simp; omega⟩
          simp only [hap, List.length_append, List.length_singleton, ← hk]
          generalize out.flatMap Mk.cells = O at *
          generalize l.flatMap Mk.cells = X at *
          simp only [Mk.cells] at ra
          cases last with
          | none => simp [c1, hla, ra, ka, c2', c3, w, hlo, l1, Mk.cells, pk1]
          | some d =>
            have hd := h2 d rfl
            have l6 : ¬ (65535 < (m.data.length : Int)) := by omega
            have l7 : (m.data.length : Int) ≤ 65535 := by omega
            simp only [pk1]
            by_cases d1 : d.length = m.data.length
            · have e52 := fun hp => f52 n d m.data hp d1 (by omega) (by omega)
              have d1' : ((d.length : Int) == m.data.length) = true := by simp [d1]
              have d1'' : (d.length : Int) = m.data.length := by omega
              by_cases d2 : (ch 0 [] d m.data).length < m.data.length
              · rw [if_pos ⟨d1, d2⟩]
                generalize ch 0 [] d m.data = C at *
                have d2' : (C.length : Int) < m.data.length := by omega
                simp [c1, hla, ra, ka, c2', c3, w, hlo, l1, Mk.cells, d1, d1', l6, l7, e52, d2, d2']
              · rw [if_neg (fun h => d2 h.2)]
                generalize ch 0 [] d m.data = C at *
                have d2' : ¬ (C.length : Int) < m.data.length := by omega
                have d2'' : (m.data.length : Int) ≤ C.length := by omega
                simp [c1, hla, ra, ka, c2', c3, w, hlo, l1, Mk.cells, d1, d1', l6, l7, e52, d2, d2', d2'']
            · rw [if_neg (fun h => d1 h.1)]
              have d1' : ((d.length : Int) == m.data.length) = false := by simp; omega
              simp [c1, hla, ra, ka, c2', c3, w, hlo, l1, Mk.cells, d1, d1', l6, l7]
        · rw [if_neg c3] at h3
          have c3' : (m.n != 0) = true := by simp [c3]
          right
          refine ⟨.inr 2, ?_, by simp, h3.symm⟩
          generalize out.flatMap Mk.cells = O at *
          generalize l.flatMap Mk.cells = X at *
          simp only [Mk.cells] at ra
          simp [c1, hla, ra, ka, c2', c3', w, hlo, ← hk]
      · have c2' : (m.sort == 1) = false := by simp [c2]
        rw [if_neg c2, preL_pre] at h3
        left
        refine ⟨⟨out ++ [m], last⟩, ?_, ⟨by simp; omega, h2, by simp [← hk]; exact h3⟩, by simp; omega⟩
        simp only [hap, List.length_append, List.length_singleton, ← hk]
        generalize out.flatMap Mk.cells = O at *
        generalize l.flatMap Mk.cells = X at *
        simp only [Mk.cells] at ra
        simp [c1, hla, ra, ka, c2', w, hlo, l1, Mk.cells]
    · right
      have hkl : k = l.length := by omega
      rw [List.drop_eq_nil_of_le (by omega)] at h3
      refine ⟨.inl ⟨out, last⟩, ?_, by simp, ?_⟩
      · simp [c1, ← hk]
      · dsimp only; rw [← h3]; simp [pk, preL]
  · rintro (⟨out, last⟩ | c) rfl h
    · dsimp only at h
      rw [← hR, h]
      have hou := flat_out (f := Mk.cells) (fun _ => rfl) out
      have hst := flat_all (f := Mk.cells) (fun _ => rfl) out
      simp [hou]
    · dsimp only at h
      rw [← hR, h]
      simp
end Go.Proofs.Ytoipglmjnibdpaa
end

section
namespace Go.Proofs.Ytoipglmjnibdpaa
open Go Go.PS
def Ld (l : List Mk) (last : Option Nat) : Option (List UInt8) := last.map fun j => (l.getD j Mk.zero).data
set_option maxHeartbeats 4000000 in
theorem f57 (n : Nat) (l : List Mk) (hp : Heap) (hl : l.length ≤ 40) (hs : smallD l = true) (hn : 1000 < n) :
    ∃ hp' d, evalCall Try.prog hints (n + 6) 57 [.sl .sh l.length (l.flatMap Mk.cells)] hp = some ((match pk l none with
      | .inl r => .tup [.sl .sh r.length (r.flatMap Mk.cells), .int .i64 0]
      | .inr c => .tup [.sl .sh 0 [], .int .i64 c]), hp', d) := by
  have hsm : ∀ (k : Nat) (h : k < l.length), l[k].data.length ≤ 300 := fun k h => by
    have := List.all_eq_true.1 hs _ (List.getElem_mem h); simpa using this
  apply of_map
  rw [evalCall_at _ _ _ hh57 rfl Try.func57 rfl (Nat.le_of_ble_eq_true rfl) rfl]
  obtain ⟨R, hR⟩ : ∃ R, R = pk l none := ⟨_, rfl⟩
  have e66 := fun hp => f66 (n + 4) l hp (by omega)
  simp [e66]
  generalize hit : iter _ _ _ = r
  refine iter_elim hit (fun x : U5 => { fr := [(0, .sl .sh l.length (l.flatMap Mk.cells)), (4, .sl (.mu 6) l.length ((x.out ++ l.drop x.out.length).flatMap Mk.cells)), (5, .int .i64 x.li), (11, .sl .sh l.length (l.flatMap Mk.cells)), (12, .int .i64 l.length), (13, .int .i64 x.out.length)], hp := x.H, base := hp.length, dirty := x.d })
    (fun x => x.out.length ≤ l.length ∧ (∀ j, x.last = some j → j < x.out.length) ∧ preL x.out (pk (l.drop x.out.length) (Ld l x.last)) = R) (fun x => l.length - x.out.length)
    (fun y : U5 ⊕ (Int × Heap × Bool) => match y with
      | .inl x => (.exit 0, { fr := [(0, .sl .sh l.length (l.flatMap Mk.cells)), (4, .sl (.mu 6) l.length (x.out.flatMap Mk.cells)), (5, .int .i64 x.li), (11, .sl .sh l.length (l.flatMap Mk.cells)), (12, .int .i64 l.length), (13, .int .i64 x.out.length), (14, .bool false)], hp := x.H, base := hp.length, dirty := x.d })
      | .inr (c, H, d) => (.ret, { fr := [(2, .sl (.mu 6) 0 []), (3, .int .i64 c)], hp := H, base := hp.length, dirty := d }))
    (fun y => match y with | .inl x => R = .inl x.out ∧ x.out.length = l.length | .inr (c, _, _) => R = .inr c) ⟨[], none, hp, false⟩ rfl ⟨by simp, by simp, by rw [hR]; show preL [] (pk l none) = _; cases h : pk l none <;> simp [preL]⟩ (by simp; omega) ?_ ?_
  · rintro ⟨out, last, H, d⟩ ⟨h1, h4, h3⟩
    dsimp only at h1 h3 h4 ⊢
    obtain ⟨k, hk⟩ : ∃ k, k = out.length := ⟨_, rfl⟩
    rw [← hk] at h1 h3 h4
    have hla := flat_len Mk.len l
    have w := wrap_id (x := (k : Int) + 1) (by omega)
    by_cases c1 : k < l.length
    · have ra := flat_row Mk.len l k c1
      have ka : k * 6 + 6 ≤ l.length * 6 := by omega
      have hdr := List.drop_eq_getElem_cons c1
      have hdl := hsm k c1
      have hgk : Ld l (some k) = some l[k].data := by simp [Ld, c1]
      rw [hdr] at h3
      generalize l[k] = m at *
      generalize hrest : l.drop (k + 1) = rest at *
      have hml : m.data.length ≤ 300 := hdl
      have e87 := fun hp => f87 (n + 4) m hp
      rw [pk_cons] at h3
      have hcat : out ++ [m] ++ rest = out ++ m :: rest := by simp
      have hrl : rest.length + (k + 1) = l.length := by rw [← hrest]; simp; omega
      by_cases c2 : m.sort = 1
      · have c2' : (m.sort == 1) = true := by simp [c2]
        rw [if_pos c2] at h3
        by_cases c3 : m.n = 0
        · rw [if_pos c3, preL_pre] at h3
          have c3t : (m.n != 0) = false := by simp [c3]
          have hput : ∀ m' : Mk, preL (out ++ [m']) (pk rest (some m.data)) = R →
              (out ++ [m']).length ≤ l.length ∧ (∀ j, some k = some j → j < (out ++ [m']).length) ∧ preL (out ++ [m']) (pk (l.drop (out ++ [m']).length) (Ld l (some k))) = R := fun m' h6 => by
            refine ⟨by simp; omega, fun j hj => by cases hj; simp; omega, ?_⟩
            rw [show (out ++ [m']).length = k + 1 by simp [hk], hrest, hgk]
            exact h6
          left
          cases last with
          | none =>
            refine ⟨⟨out ++ [m], some k, H, d⟩, ?_, hput m h3, by simp; omega⟩
            simp only [List.length_append, List.length_singleton, ← hk, hdr, hrest, hcat]
            generalize (out ++ m :: rest).flatMap Mk.cells = O at *
            generalize l.flatMap Mk.cells = X at *
            simp only [Mk.cells] at ra e87
            simp [c1, hla, ra, ka, e87, c2', c3t, w, U5.li, Mk.cells]
          | some j =>
            have hj := h4 j rfl
            have jl : j < l.length := by omega
            have j0 : ¬ ((j : Int) < 0) := by omega
            have j6 : j * 6 + 6 ≤ l.length * 6 := by omega
            have hld : Ld l (some j) = some l[j].data := by simp [Ld, jl]
            have gj : (l.flatMap Mk.cells)[j * 6 + 5]? = some (.str l[j].data) := by
              rw [flat_get Mk.len _ j jl 5 (by omega)]
              rfl
            have hdj := hsm j jl
            rw [hld] at h3
            generalize l[j].data = D at *
            have l6 : ¬ (65535 < (m.data.length : Int)) := by omega
            have l7 : (m.data.length : Int) ≤ 65535 := by omega
            simp only [pk1] at h3
            by_cases d1 : D.length = m.data.length
            · obtain ⟨rd, d2, e50⟩ := f50 n D m.data H d1 (by omega) (by omega)
              by_cases d3 : (ch 0 [] D m.data).length < m.data.length
              · rw [if_pos ⟨d1, d3⟩] at h3
                generalize ch 0 [] D m.data = C at *
                have d3' : (C.length : Int) < m.data.length := by omega
                have hlO := flat_len Mk.len (out ++ m :: rest)
                have hlO' : (out ++ m :: rest).length = l.length := by simp; omega
                rw [hlO'] at hlO
                have hkl : k < (out ++ m :: rest).length := by omega
                have hmk : (out ++ m :: rest)[k] = m := by simp [hk]
                have hs1 := flat_set Mk.len (out ++ m :: rest) k hkl 4 (by omega) (.int .i64 1) { m with n := 1 } (by rw [hmk]; rfl)
                have hkl' : k < ((out ++ m :: rest).set k { m with n := 1 }).length := by simp; omega
                have hs2 := flat_set Mk.len ((out ++ m :: rest).set k { m with n := 1 }) k hkl' 5 (by omega) (.str C) { m with n := 1, data := C } (by simp [Mk.cells])
                have hss : ((out ++ m :: rest).set k { m with n := 1 }).set k { m with n := 1, data := C } = out ++ [{ m with n := 1, data := C }] ++ rest := by
                  rw [List.set_set, hk]; simp
                rw [hss, ← hs1] at hs2
                have k5 : k * 6 + 5 ≤ l.length * 6 := by omega
                have k4 : k * 6 + 4 + 1 ≤ l.length * 6 := by omega
                refine ⟨⟨out ++ [{ m with n := 1, data := C }], some k, if d2 then H ++ [rd] else H, d || d2⟩, ?_, hput _ h3, by simp; omega⟩
                simp only [List.length_append, List.length_singleton, ← hk, hdr, hrest]
                generalize (out ++ [{ m with n := 1, data := C }] ++ rest).flatMap Mk.cells = O2 at *
                generalize (out ++ m :: rest).flatMap Mk.cells = O at *
                generalize l.flatMap Mk.cells = X at *
                simp only [Mk.cells] at ra e87
                cases d2 with
                | true => simp [-getElem?_pos, List.getElem?_cons_zero, c1, hla, ra, ka, e87, c2', c3t, w, U5.li, Mk.cells, jl, gj, hlO, j0, j6, e50, k5, k4, hs2, d1, l6, l7, d3, d3']
                | false => simp [-getElem?_pos, List.getElem?_cons_zero, c1, hla, ra, ka, e87, c2', c3t, w, U5.li, Mk.cells, jl, gj, hlO, j0, j6, e50, k5, k4, hs2, d1, l6, l7, d3, d3']
              · rw [if_neg (fun h => d3 h.2)] at h3
                generalize ch 0 [] D m.data = C at *
                have d3' : ¬ (C.length : Int) < m.data.length := by omega
                have d3'' : (m.data.length : Int) ≤ C.length := by omega
                refine ⟨⟨out ++ [m], some k, if d2 then H ++ [rd] else H, d || d2⟩, ?_, hput m h3, by simp; omega⟩
                simp only [List.length_append, List.length_singleton, ← hk, hdr, hrest, hcat]
                generalize (out ++ m :: rest).flatMap Mk.cells = O at *
                generalize l.flatMap Mk.cells = X at *
                simp only [Mk.cells] at ra e87
                cases d2 with
                | true => simp [-getElem?_pos, List.getElem?_cons_zero, c1, hla, ra, ka, e87, c2', c3t, w, U5.li, Mk.cells, jl, gj, j0, j6, e50, d1, l6, l7, d3, d3', d3'']
                | false => simp [-getElem?_pos, List.getElem?_cons_zero, c1, hla, ra, ka, e87, c2', c3t, w, U5.li, Mk.cells, jl, gj, j0, j6, e50, d1, l6, l7, d3, d3', d3'']
            · rw [if_neg (fun h => d1 h.1)] at h3
              have d1' : ((D.length : Int) == m.data.length) = false := by simp; omega
              refine ⟨⟨out ++ [m], some k, H, d⟩, ?_, hput m h3, by simp; omega⟩
              simp only [List.length_append, List.length_singleton, ← hk, hdr, hrest, hcat]
              generalize (out ++ m :: rest).flatMap Mk.cells = O at *
              generalize l.flatMap Mk.cells = X at *
              simp only [Mk.cells] at ra e87
              simp [-getElem?_pos, List.getElem?_cons_zero, c1, hla, ra, ka, e87, c2', c3t, w, U5.li, Mk.cells, jl, gj, j0, j6, d1, d1', l6, l7]
        · rw [if_neg c3] at h3
          have c3' : (m.n != 0) = true := by simp [c3]
          right
          refine ⟨.inr (2, H, d), ?_, by simp, h3.symm⟩
          simp only [← hk, hdr, hrest]
          generalize (out ++ m :: rest).flatMap Mk.cells = O at *
          generalize l.flatMap Mk.cells = X at *
          simp only [Mk.cells] at ra e87
          simp [c1, hla, ra, ka, e87, c2', c3', w, U5.li, Mk.cells]
      · have c2' : (m.sort == 1) = false := by simp [c2]
        rw [if_neg c2, preL_pre] at h3
        left
        refine ⟨⟨out ++ [m], last, H, d⟩, ?_, ⟨by simp; omega, fun j hj => by have := h4 j hj; simp; omega, ?_⟩, by simp; omega⟩
        · simp only [List.length_append, List.length_singleton, ← hk, hdr, hrest, hcat]
          generalize (out ++ m :: rest).flatMap Mk.cells = O at *
          generalize l.flatMap Mk.cells = X at *
          simp only [Mk.cells] at ra e87
          simp [c1, hla, ra, ka, e87, c2', w, U5.li, Mk.cells]
        · show preL (out ++ [m]) (pk (l.drop (out ++ [m]).length) _) = R
          rw [show (out ++ [m]).length = k + 1 by simp [hk], hrest]
          exact h3
    · right
      have hkl : k = l.length := by omega
      rw [List.drop_eq_nil_of_le (by omega)] at h3
      refine ⟨.inl ⟨out, last, H, d⟩, ?_, by simp, ?_⟩
      · rw [← hk, List.drop_eq_nil_of_le (by omega)]
        simp [c1]
        omega
      · dsimp only; exact ⟨by rw [← h3]; simp [pk, preL], by omega⟩
  · rintro (⟨out, last, H, d⟩ | ⟨c, H, d⟩) rfl h
    · dsimp only at h
      rw [← hR, h.1, ← h.2]
      have hou := flat_out (f := Mk.cells) (fun _ => rfl) out
      have hst := flat_all (f := Mk.cells) (fun _ => rfl) out
      simp [hou]
    · dsimp only at h
      rw [← hR, h]
      simp
end Go.Proofs.Ytoipglmjnibdpaa
end

section
namespace Go.Proofs.Ytoipglmjnibdpaa
open Go Go.PS
theorem byL_small : ∀ (l : List Mk), smallD l = true → byL l ≤ 300 * l.length
  | [], _ => by simp [byL]
  | m :: t, h => by
    have h' : m.data.length ≤ 300 ∧ smallD t = true := by simpa [smallD] using h
    have := byL_small t h'.2
    simp only [byL, List.map_cons, List.sum_cons, List.length_cons] at *
    omega
theorem pk_code : ∀ (l : List Mk) (last : Option (List UInt8)) (c : Int), pk l last = .inr c → c = 2
  | [], _, c, h => by cases h
  | m :: t, last, c, h => by
    have key : ∀ (m' : Mk) (la : Option (List UInt8)), pre m' (pk t la) = .inr c → c = 2 := by
      intro m' la h
      cases hu : pk t la with
      | inl q => rw [hu] at h; cases h
      | inr d => rw [hu] at h; cases h; exact pk_code t la c hu
    rw [pk_cons] at h
    split at h
    · split at h
      · exact key _ _ h
      · cases h; rfl
    · exact key _ _ h
theorem f14nil : fstR (evalCall Try.prog hints 5021 14 [.sl .sh 0 []] []) = some (.bool true) := by kernel_rfl
set_option maxHeartbeats 4000000 in
theorem f14 (l : List Mk) (hl : l.length ≤ 9223372036854775807) : ∃ hp d, evalCall Try.prog hints 5021 14 [.sl .sh l.length (l.flatMap Mk.cells)] [] = some (.bool true, hp, d) := by
  apply of_map
  by_cases hn : l = []
  · subst hn; exact f14nil
  have e54 := f54 5019 l [] hl (by omega)
  have l49 := fun hp => live49g 5010 hp (by omega)
  rw [evalCall_at _ _ _ hh14 rfl Try.func14 rfl (Nat.le_of_ble_eq_true rfl) rfl]
  obtain ⟨s, hs⟩ : ∃ s, s = l.take 40 := ⟨_, rfl⟩
  have hs0 : s ≠ [] := by rw [hs]; simp [hn]
  rw [← hs] at e54
  have sl : s.length ≤ 40 := by rw [hs]; simp; omega
  cases hsm : smallD s with
  | false =>
    rw [hsm] at e54
    obtain ⟨hp1, d1, l49⟩ := l49 []
    cases d1 <;> simp [e54, l49]
  | true =>
    rw [hsm] at e54
    obtain ⟨hp1, d1, e57⟩ := f57 5014 s [] sl hsm (by omega)
    have e58 := fun hp => f58 5014 s hp sl hsm (by omega)
    cases hu : pk s none with
    | inl r =>
      obtain ⟨hb, hr⟩ := byL_pk s none r hu
      have hrs := small_pk s none r hsm hu
      have hrt := unp_pk s none r hsm hu
      have bs := byL_small s hsm
      have e31a := fun hp => f31 5019 r r hp (by omega) (by omega)
      have e31b := fun hp => f31 5019 s s hp (by omega) (by omega)
      obtain ⟨hp2, d2, e55⟩ := f55 5014 r hp1 (by omega) hrs (by omega)
      have e59a := fun hp => f59 5019 r hp (by omega) (by omega) (by omega)
      have e59b := fun hp => f59 5019 s hp (by omega) (by omega) (by omega)
      obtain ⟨hp3, d3, l49⟩ := l49 hp2
      simp only [hu] at e57 e58
      simp only [hrt] at e55
      have hb' : (byL r : Int) ≤ byL s := by omega
      obtain ⟨c0, Y, hY⟩ : ∃ c0 Y, s.flatMap Mk.cells = c0 :: Y := by
        cases s with
        | nil => exact absurd rfl hs0
        | cons x t => exact ⟨_, _, rfl⟩
      obtain ⟨c1, Z, hZ⟩ : ∃ c0 Y, r.flatMap Mk.cells = c0 :: Y := by
        cases r with
        | nil => exact absurd (List.length_eq_zero_iff.1 hr.symm) hs0
        | cons x t => exact ⟨_, _, rfl⟩
      rw [hY] at e54 e55 e57 e58 e31b e59b
      rw [hZ] at e55 e57 e58 e31a e59a
      simp only [decide_true] at e31a e31b
      generalize byL r = br at *
      generalize byL s = bs at *
      generalize s.length = n1 at *
      generalize r.length = n2 at *
      cases d1 <;> cases d2 <;> cases d3 <;> simp [e54, e55, e57, e58, l49, e31a, e31b, e59a, e59b, hb, hb']
    | inr c =>
      have hc := pk_code s none c hu
      subst hc
      have e31 := fun hp => f31 5019 [] [] hp (by simp) (by omega)
      simp only [hu] at e57 e58
      simp at e31
      obtain ⟨hp2, d2, l49a⟩ := l49 []
      obtain ⟨hp3, d3, l49b⟩ := l49 hp1
      generalize s.flatMap Mk.cells = X at *
      cases d1 <;> cases d2 <;> cases d3 <;> simp [e54, e57, e58, l49a, l49b, e31]
end Go.Proofs.Ytoipglmjnibdpaa
end
