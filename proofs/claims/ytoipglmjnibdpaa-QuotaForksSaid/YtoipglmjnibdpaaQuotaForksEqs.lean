/-
  What functions of this program compute, as equations about the evaluator. No condition but those stated.
-/
import Derived.Test.YtoipglmjnibdpaaFacts
set_option linter.all false
section
namespace Go.Proofs.Ytoipglmjnibdpaa
open Go Go.PS
theorem f15 (n : Nat) (a : Int) (hp : Heap) :
    evalCall Try.prog hints (n + 1) 15 [.int .i64 a] hp = some (.ptr (.heap hp.length) none 0, hp ++ [[.int .u64 (a % 281474976710656)]], false) := by
  have h := tm (a := a % 18446744073709551616) 281474976710656 (by omega)
  rw [evalCall_at _ _ _ hh15 rfl Try.func15 rfl (Nat.le_of_ble_eq_true rfl) rfl]
  simp [h]
theorem f16 (n : Nat) (a : Int) (hp : Heap) :
    evalCall Try.prog hints (n + 1) 16 [.int .i64 a] hp = some (.int .i64 (a % 281474976710656), hp, false) := by
  rw [evalCall_at _ _ _ hh16 rfl Try.func16 rfl (Nat.le_of_ble_eq_true rfl) rfl]
  by_cases h : 0 ≤ a
  · have h1 := tm 281474976710656 h
    have h2 : ¬ a % 281474976710656 < 0 := by omega
    simp [h1, h2]
  · obtain ⟨r, hr⟩ : ∃ r, r = a.tmod 281474976710656 := ⟨_, rfl⟩
    have h1 : r = - ((-a) % 281474976710656) := by
      rw [hr, ← tm _ (by omega), Int.neg_tmod, Int.neg_neg]
    by_cases h2 : r < 0
    · simp [← hr, h2, wrap_id (x := r + 281474976710656) (by omega)]
      omega
    · simp [← hr, h2]
      omega
def nx (s : Int) : Int := (s * 25214903917 + 11) % 281474976710656
theorem nx_lt (s : Int) : 0 ≤ nx s ∧ nx s < 281474976710656 := by unfold nx; omega
theorem f18nil (n : Nat) (hp : Heap) : evalCall Try.prog hints (n + 1) 18 [.nilp] hp = some (.int .i64 0, hp, false) := by
  rw [evalCall_at _ _ _ hh18 rfl Try.func18 rfl (Nat.le_of_ble_eq_true rfl) rfl]
  simp
theorem f18 (n : Nat) (i : Nat) (s : Int) (hp : Heap) (hi : hp[i]? = some [.int .u64 s]) (hs : 0 ≤ s) :
    evalCall Try.prog hints (n + 1) 18 [.ptr (.heap i) none 0] hp = some (.int .i64 (nx s), hp.set i [.int .u64 (nx s)], true) := by
  have hl : i < hp.length := (List.getElem?_eq_some_iff.1 hi).1
  have hset : ∀ x, (hp.set i x)[i]? = some x := fun x => List.getElem?_set_self hl
  have e : (s * 25214903917 + 11) % 18446744073709551616 % 281474976710656 = nx s := by unfold nx; omega
  have e' : (s * 25214903917 + 11) % 281474976710656 = nx s := by unfold nx; omega
  have w := wrap_id (x := nx s) (by have := nx_lt s; omega)
  rw [evalCall_at _ _ _ hh18 rfl Try.func18 rfl (Nat.le_of_ble_eq_true rfl) rfl]
  simp [hi, e, e', w, hset]
  exact hl
def dr (x n : Int) : Int := if n < 1 ∨ 65536 < n then 0 else x / 65536 % n
theorem f19nil (n : Nat) (k : Int) (hp : Heap) : evalCall Try.prog hints (n + 2) 19 [.nilp, .int .i64 k] hp = some (.int .i64 0, hp, false) := by
  rw [evalCall_at _ _ _ hh19 rfl Try.func19 rfl (Nat.le_of_ble_eq_true rfl) rfl]
  by_cases h1 : k < 1
  · simp [h1, f18nil]
  by_cases h2 : 65536 < k
  · simp [h1, h2, f18nil]
  have h3 : k ≠ 0 := by omega
  simp [h1, h2, h3, f18nil]
theorem f19 (n : Nat) (i : Nat) (s k : Int) (hp : Heap) (hi : hp[i]? = some [.int .u64 s]) (hs : 0 ≤ s) :
    evalCall Try.prog hints (n + 2) 19 [.ptr (.heap i) none 0, .int .i64 k] hp = some (.int .i64 (dr (nx s) k), hp.set i [.int .u64 (nx s)], true) := by
  have hn := nx_lt s
  have e := f18 n i s hp hi hs
  have e1 := fd (a := nx s) (b := 65536) (by omega)
  have e2 := tm (a := nx s / 65536) k (by omega)
  rw [evalCall_at _ _ _ hh19 rfl Try.func19 rfl (Nat.le_of_ble_eq_true rfl) rfl]
  by_cases h1 : k < 1
  · simp [h1, e, dr, e1]
  by_cases h2 : 65536 < k
  · simp [h1, h2, e, dr, e1]
  have h3 : k ≠ 0 := by omega
  simp [h1, h2, h3, e, e1, e2, dr, IntKind.bits]
theorem f20 (n : Nat) (x k : Int) (hp : Heap) (hx : 0 ≤ x) (hx1 : x < 281474976710656) :
    evalCall Try.prog hints (n + 1) 20 [.int .i64 x, .int .i64 k] hp = some (.int .i64 (dr x k), hp, false) := by
  have e1 := td (a := x) 65536 (by omega)
  have e2 := tm (a := x / 65536) k (by omega)
  have w := wrap_id (x := x / 65536) (by omega)
  rw [evalCall_at _ _ _ hh20 rfl Try.func20 rfl (Nat.le_of_ble_eq_true rfl) rfl]
  by_cases h1 : k < 1
  · simp [h1, dr]
  by_cases h2 : 65536 < k
  · simp [h1, h2, dr]
  have h3 : k ≠ 0 := by omega
  simp [h1, h2, h3, e1, e2, w, dr]
theorem f60 (n : Nat) (a b : Int) (hp : Heap) (ha : 0 ≤ a ∧ a < 281474976710656) (hb : 0 ≤ b ∧ b < 68719476736) (hn : 36 < n) :
    evalCall Try.prog hints (n + 1) 60 [.int .i64 a, .int .i64 b] hp = some (.int .i64 (a * b % 281474976710656), hp, false) := by
  rw [evalCall_at _ _ _ hh60 rfl Try.func60 rfl (Nat.le_of_ble_eq_true rfl) rfl]
  simp
  generalize hit : iter _ n _ = r
  refine iter_elim hit
    (fun x : Nat × Int × Int × Int => { fr := [(0, .int .i64 x.2.1), (1, .int .i64 x.2.2.1), (5, .int .i64 x.2.2.2)], hp := hp, base := hp.length, dirty := false })
    (fun x => (0 ≤ x.2.1 ∧ x.2.1 < 281474976710656) ∧ 0 ≤ x.2.2.1 ∧ x.2.2.1 < 68719476736 ∧ x.2.2.1 < 2 ^ x.1 ∧ (0 ≤ x.2.2.2 ∧ x.2.2.2 < 281474976710656) ∧ (x.2.2.2 + x.2.1 * x.2.2.1) % 281474976710656 = a * b % 281474976710656)
    (fun x => x.1)
    (fun x : Int × Int => (.exit 0, { fr := [(0, .int .i64 x.1), (1, .int .i64 x.2), (5, .int .i64 (a * b % 281474976710656)), (7, .bool false)], hp := hp, base := hp.length, dirty := false }))
    (fun _ => True) (36, a, b, 0) rfl ⟨ha, hb.1, hb.2, by simpa using hb.2, by simp, by simp⟩ hn ?_ ?_
  · rintro ⟨k, a', b', p⟩ ⟨h1, h2, h2', h2k, h3, h4⟩
    dsimp only at h1 h2 h2' h2k h3 h4
    by_cases h : 0 < b'
    · left
      obtain ⟨k, rfl⟩ : ∃ j, k = j + 1 := by
        cases k with
        | zero => simp at h2k; omega
        | succ k => exact ⟨k, rfl⟩
      rw [Int.pow_succ] at h2k
      have hm := tm (a := b') 2 h2
      have hd := td (a := b') 2 h2
      have w1 := wrap_id (x := b' / 2) (by omega)
      have w2 := wrap_id (x := 2 * a') (by omega)
      have w3 := wrap_id (x := p + a') (by omega)
      have m2 := tm (a := 2 * a') 281474976710656 (by omega)
      have m3 := tm (a := p + a') 281474976710656 (by omega)
      have key : ∀ u v c : Int, (u + (2 * c % 281474976710656) * v) % 281474976710656 = (u + c * (2 * v)) % 281474976710656 := fun u v c => by
        rw [Int.add_emod, Int.mul_emod, Int.emod_emod, ← Int.mul_emod, ← Int.add_emod]
        congr 2
        rw [Int.mul_comm 2 c, Int.mul_assoc]
      by_cases h5 : b' % 2 = 1
      · refine ⟨(k, 2 * a' % 281474976710656, b' / 2, (p + a') % 281474976710656), ?_, ⟨⟨by dsimp only; omega, by dsimp only; omega⟩, by dsimp only; omega, by dsimp only; omega, by dsimp only; omega, ⟨by dsimp only; omega, by dsimp only; omega⟩, ?_⟩, by simp⟩
        · simp [h, hm, hd, h5, w1, w2, w3, m2, m3]
        · dsimp only
          rw [key, Int.emod_add_emod, ← h4]
          have : b' = 2 * (b' / 2) + 1 := by omega
          congr 1
          conv => rhs; rw [this, Int.mul_add]
          omega
      · have h6 : b' % 2 = 0 := by omega
        refine ⟨(k, 2 * a' % 281474976710656, b' / 2, p), ?_, ⟨⟨by dsimp only; omega, by dsimp only; omega⟩, by dsimp only; omega, by dsimp only; omega, by dsimp only; omega, h3, ?_⟩, by simp⟩
        · simp [h, hm, hd, h6, w1, w2, w3, m2, m3]
        · dsimp only
          have : b' = 2 * (b' / 2) := by omega
          rw [key, ← h4, ← this]
    · right
      have : b' = 0 := by omega
      subst this
      refine ⟨(a', 0), ?_, by simp, trivial⟩
      have : p = a * b % 281474976710656 := by rw [← h4]; simp; omega
      simp [this]
  · rintro x rfl -
    simp
theorem f17 (n : Nat) (x : Int) (hp : Heap) (hx : 0 ≤ x ∧ x < 281474976710656) (hn : 36 < n) :
    evalCall Try.prog hints (n + 2) 17 [.int .i64 x] hp = some (.int .i64 (nx x), hp, false) := by
  have e := f60 n x 25214903917 hp hx (by omega) hn
  have w := wrap_id (x := x * 25214903917 % 281474976710656 + 11) (by omega)
  have m := tm (a := x * 25214903917 % 281474976710656 + 11) 281474976710656 (by omega)
  rw [evalCall_at _ _ _ hh17 rfl Try.func17 rfl (Nat.le_of_ble_eq_true rfl) rfl]
  simp [e, w, m, nx]
end Go.Proofs.Ytoipglmjnibdpaa
end

section
namespace Go.Proofs.Ytoipglmjnibdpaa
open Go Go.PS
theorem set_same {α : Type} {l : List α} {i : Nat} {x : α} (h : l[i]? = some x) : l.set i x = l := by
  obtain ⟨h1, h2⟩ := List.getElem?_eq_some_iff.1 h
  subst h2
  exact List.set_getElem_self h1
def it (s : Int) : Nat → Int
  | 0 => s
  | k + 1 => nx (it s k)
theorem it_lt {s : Int} (hs : 0 ≤ s ∧ s < 281474976710656) : ∀ k, 0 ≤ it s k ∧ it s k < 281474976710656
  | 0 => hs
  | k + 1 => nx_lt _
theorem it_nonneg {s : Int} (hs : 0 ≤ s) : ∀ k, 0 ≤ it s k
  | 0 => hs
  | k + 1 => (nx_lt _).1
def bt (s : Int) (j : Nat) : Int := dr (it s (j + 1)) 256
theorem bt_lt (s : Int) (j : Nat) : 0 ≤ bt s j ∧ bt s j < 256 := by
  unfold bt dr
  have := nx_lt (it s j)
  simp [it]
  omega
def tx (s : Int) (m : Nat) : List UInt8 := (List.range m).map fun j => UInt8.ofNat (bt s j).toNat
def tcell (s : Int) (m k : Nat) : List PV := (List.range m).map fun j => .int .u8 (if j < k then bt s j else 0)
theorem tcell_zero (s : Int) (m : Nat) : tcell s m 0 = List.replicate m (.int .u8 0) := by
  unfold tcell
  apply List.ext_getElem (by simp)
  intro j h1 h2
  simp
theorem tcell_len (s : Int) (m k : Nat) : (tcell s m k).length = m := by simp [tcell]
theorem tcell_set (s : Int) (m k : Nat) (hk : k < m) : (tcell s m k).set k (.int .u8 (bt s k)) = tcell s m (k + 1) := by
  apply List.ext_getElem (by simp [tcell])
  intro j h1 h2
  simp [tcell] at h1 h2
  by_cases h : k = j
  · subst h; simp [tcell]
  · rw [List.getElem_set_ne h]
    simp only [tcell, List.getElem_map, List.getElem_range]
    by_cases hj : j < k
    · rw [if_pos hj, if_pos (by omega)]
    · rw [if_neg hj, if_neg (by omega)]
theorem bytes_tcell (s : Int) (m : Nat) : bytesOf (tcell s m m) = some (tx s m) := by
  have : ∀ l : List Nat, (∀ j ∈ l, j < m) → bytesOf (l.map fun j => .int .u8 (if j < m then bt s j else 0)) = some (l.map fun j => UInt8.ofNat (bt s j).toNat) := by
    intro l hl
    induction l with
    | nil => rfl
    | cons a l ih =>
      have h := hl a (by simp)
      simp only [List.map_cons, bytesOf, if_pos h]
      rw [ih fun j hj => hl j (by simp [hj])]
  exact this _ fun j hj => List.mem_range.1 hj
theorem f21nil (n : Nat) (k : Int) (hp : Heap) : evalCall Try.prog hints (n + 1) 21 [.nilp, .int .i64 k] hp = some (.str [], hp, false) := by
  rw [evalCall_at _ _ _ hh21 rfl Try.func21 rfl (Nat.le_of_ble_eq_true rfl) rfl]
  simp
theorem f21none (n : Nat) (i : Nat) (k : Int) (hp : Heap) (hk : k < 1) : evalCall Try.prog hints (n + 1) 21 [.ptr (.heap i) none 0, .int .i64 k] hp = some (.str [], hp, false) := by
  rw [evalCall_at _ _ _ hh21 rfl Try.func21 rfl (Nat.le_of_ble_eq_true rfl) rfl]
  simp [hk]
theorem f21 (n : Nat) (i : Nat) (s k : Int) (hp : Heap) (hi : hp[i]? = some [.int .u64 s]) (hs : 0 ≤ s) (hk : 1 ≤ k) (m : Nat) (hm : (m : Int) = min k 4096) (hn : 4096 < n) :
    evalCall Try.prog hints (n + 3) 21 [.ptr (.heap i) none 0, .int .i64 k] hp = some (.str (tx s m), hp.set i [.int .u64 (it s m)], true) := by
  have hl : i < hp.length := (List.getElem?_eq_some_iff.1 hi).1
  have h1 : ¬ k < 1 := by omega
  have hm1 : 1 ≤ m ∧ m ≤ 4096 := by omega
  rw [evalCall_at _ _ _ hh21 rfl Try.func21 rfl (Nat.le_of_ble_eq_true rfl) rfl]
  have e : (if 4096 < k then 4096 else k) = (m : Int) := by split <;> omega
  have e1 : (m : Int) ≤ 140737488355328 := by omega
  simp [h1, e, e1]
  rw [iter_count (fun j => { fr := [(0, .ptr (.heap i) none 0), (5, .sl (.mu 1) m (tcell s m j)), (17, .int .i64 m), (18, .int .i64 j)], hp := hp.set i [.int .u64 (it s j)], base := hp.length, dirty := decide (0 < j) })
    (.exit 0, { fr := [(0, .ptr (.heap i) none 0), (5, .sl (.mu 1) m (tcell s m m)), (17, .int .i64 m), (18, .int .i64 m), (19, .bool false)], hp := hp.set i [.int .u64 (it s m)], base := hp.length, dirty := true }) m (n + 2) _ ?_ (by omega)]
  · simp [tcell_len, bytes_tcell]
  · intro j hj
    have e19 := f19 n i (it s j) 256 (hp.set i [.int .u64 (it s j)]) (List.getElem?_set_self hl) (it_nonneg hs j)
    have b1 := bt_lt s j
    have e2 : dr (it s (j + 1)) 256 = bt s j := rfl
    have e3 : nx (it s j) = it s (j + 1) := rfl
    have e4 : bt s j % 256 = bt s j := by omega
    have e5 := wrap_id (x := (j : Int) + 1) (by omega)
    simp [hj, (show j + 1 ≤ m from hj), e19, e2, e3, e4, e5, tcell_len, tcell_set]
  · simp
    omega
  · simp
  · rw [← tcell_zero s]
    simp [it]
    exact (set_same hi).symm
theorem live22 (n : Nat) (hp : Heap) : ∃ hp', evalCall Try.prog hints (n + 10) 22 [] hp = some (.bool true, hp ++ hp', true) := by
  have e1 := f18 (n + 8) hp.length 0 (hp ++ [[.int .u64 0]]) (by simp) (by omega)
  have e2 := f18 (n + 8) hp.length (nx 0) (hp ++ [[.int .u64 (nx 0)]]) (by simp) (by decide)
  have e3 := f18 (n + 8) (hp.length + 1) 5 (hp ++ [[.int .u64 (nx (nx 0))], [.int .u64 5]]) (by simp) (by omega)
  have e4 := f18 (n + 8) (hp.length + 2) 5 (hp ++ [[.int .u64 (nx (nx 0))], [.int .u64 (nx 5)], [.int .u64 5]]) (by simp) (by omega)
  have c1 : nx 0 = 11 := by decide
  have c2 : nx 11 = 277363943098 := by decide
  simp only [c1, c2] at e1 e2 e3 e4
  rw [evalCall_at _ _ _ hh22 rfl Try.func22 rfl (Nat.le_of_ble_eq_true rfl) rfl]
  simp at e1 e2 e3 e4
  simp [f15, e1, e2, e3, e4]
end Go.Proofs.Ytoipglmjnibdpaa
end

section
namespace Go.Proofs.Ytoipglmjnibdpaa
open Go Go.PS
def rightB (f : Int) : Bool := decide (1 ≤ f) && decide (f ≤ 4096)
theorem f71 (n : Nat) (f : Int) (hp : Heap) : evalCall Try.prog hints (n + 1) 71 [.int .i64 f] hp = some (.bool (rightB f), hp, false) := by
  rw [evalCall_at _ _ _ hh71 rfl Try.func71 rfl (Nat.le_of_ble_eq_true rfl) rfl]
  by_cases h : 1 ≤ f
  · simp [h, rightB]
  · simp [h, rightB]
theorem f72 (n : Nat) (f : Int) (hp : Heap) : evalCall Try.prog hints (n + 1) 72 [.int .i64 f] hp = some (.bool (rightB f), hp, false) := by
  rw [evalCall_at _ _ _ hh72 rfl Try.func72 rfl (Nat.le_of_ble_eq_true rfl) rfl]
  by_cases h : 1 ≤ f
  · simp [h, rightB]
  · simp [h, rightB]
theorem f96 (n : Nat) (t f : Int) (hp : Heap) (hf : 1 ≤ f ∧ f ≤ 4096) (ht : 0 ≤ t ∧ t ≤ 9223372036854775807) : evalCall Try.prog hints (n + 2) 96 [.int .i64 t, .int .i64 f] hp = some (.tup [.int .i64 (t / f), .int .i64 (t % f)], hp, false) := by
  have e1 : rightB f = true := by simp [rightB, hf.1, hf.2]
  have h0 : f ≠ 0 := by omega
  have h1 : ¬ t < 0 := by omega
  have d0 : 0 ≤ t / f := Int.ediv_nonneg (by omega) (by omega)
  have d1 : t / f ≤ t := Int.ediv_le_self f (by omega)
  have w := wrap_id (x := t / f) (by omega)
  have e2 := td (a := t) f ht.1
  have e3 := tm (a := t) f ht.1
  rw [evalCall_at _ _ _ hh96 rfl Try.func96 rfl (Nat.le_of_ble_eq_true rfl) rfl]
  simp [f71, e1, h0, h1, e2, e3, w]
/-- The quotas are such. -/
def goodQ (l : List Int) : Bool := l.all fun q => decide (1 ≤ q) && decide (q ≤ 16)
def checkI (f : Int) (l : List Int) : Int := if rightB f = true then (if l.length > 8 then 4 else if goodQ l then 0 else 2) else 2
/-- An account. -/
structure Acc where
  f : Int
  n : Int
  fr : Int
  q : Nat → Int
  u : Nat → Int
  t : Nat → Int
  r : Nat → Int
def Acc.rowC (a : Acc) (i : Nat) : List PV := [.int .i64 (a.q i), .int .i64 (a.u i), .int .i64 (a.t i), .int .i64 (a.r i)]
def Acc.cells (a : Acc) : List PV := .int .i64 a.f :: .int .i64 a.n :: .int .i64 a.fr :: ((List.range 8).map a.rowC).flatten
def upd (f : Nat → Int) (i : Nat) (v : Int) : Nat → Int := fun j => if j = i then v else f j
theorem Acc.cells_eq (a : Acc) : a.cells = [.int .i64 a.f, .int .i64 a.n, .int .i64 a.fr, .int .i64 (a.q 0), .int .i64 (a.u 0), .int .i64 (a.t 0), .int .i64 (a.r 0), .int .i64 (a.q 1), .int .i64 (a.u 1), .int .i64 (a.t 1), .int .i64 (a.r 1), .int .i64 (a.q 2), .int .i64 (a.u 2), .int .i64 (a.t 2), .int .i64 (a.r 2), .int .i64 (a.q 3), .int .i64 (a.u 3), .int .i64 (a.t 3), .int .i64 (a.r 3), .int .i64 (a.q 4), .int .i64 (a.u 4), .int .i64 (a.t 4), .int .i64 (a.r 4), .int .i64 (a.q 5), .int .i64 (a.u 5), .int .i64 (a.t 5), .int .i64 (a.r 5), .int .i64 (a.q 6), .int .i64 (a.u 6), .int .i64 (a.t 6), .int .i64 (a.r 6), .int .i64 (a.q 7), .int .i64 (a.u 7), .int .i64 (a.t 7), .int .i64 (a.r 7)] := rfl
theorem Acc.len (a : Acc) : a.cells.length = 35 := by rw [Acc.cells_eq]; rfl
theorem lt8 {i : Nat} (h : i < 8) : i = 0 ∨ i = 1 ∨ i = 2 ∨ i = 3 ∨ i = 4 ∨ i = 5 ∨ i = 6 ∨ i = 7 := by omega
theorem Acc.get_q (a : Acc) {i : Nat} (h : i < 8) : a.cells[3 + i * 4]? = some (.int .i64 (a.q i)) := by
  rw [Acc.cells_eq]; rcases lt8 h with rfl | rfl | rfl | rfl | rfl | rfl | rfl | rfl <;> rfl
theorem Acc.get_u (a : Acc) {i : Nat} (h : i < 8) : a.cells[3 + i * 4 + 1]? = some (.int .i64 (a.u i)) := by
  rw [Acc.cells_eq]; rcases lt8 h with rfl | rfl | rfl | rfl | rfl | rfl | rfl | rfl <;> rfl
theorem Acc.get_t (a : Acc) {i : Nat} (h : i < 8) : a.cells[3 + i * 4 + 2]? = some (.int .i64 (a.t i)) := by
  rw [Acc.cells_eq]; rcases lt8 h with rfl | rfl | rfl | rfl | rfl | rfl | rfl | rfl <;> rfl
theorem Acc.get_r (a : Acc) {i : Nat} (h : i < 8) : a.cells[3 + i * 4 + 3]? = some (.int .i64 (a.r i)) := by
  rw [Acc.cells_eq]; rcases lt8 h with rfl | rfl | rfl | rfl | rfl | rfl | rfl | rfl <;> rfl
theorem Acc.set_q (a : Acc) {i : Nat} (h : i < 8) (v : Int) : a.cells.set (3 + i * 4) (.int .i64 v) = { a with q := upd a.q i v }.cells := by
  rw [Acc.cells_eq, Acc.cells_eq]; rcases lt8 h with rfl | rfl | rfl | rfl | rfl | rfl | rfl | rfl <;> rfl
theorem Acc.set_u (a : Acc) {i : Nat} (h : i < 8) (v : Int) : a.cells.set (3 + i * 4 + 1) (.int .i64 v) = { a with u := upd a.u i v }.cells := by
  rw [Acc.cells_eq, Acc.cells_eq]; rcases lt8 h with rfl | rfl | rfl | rfl | rfl | rfl | rfl | rfl <;> rfl
theorem Acc.set_t (a : Acc) {i : Nat} (h : i < 8) (v : Int) : a.cells.set (3 + i * 4 + 2) (.int .i64 v) = { a with t := upd a.t i v }.cells := by
  rw [Acc.cells_eq, Acc.cells_eq]; rcases lt8 h with rfl | rfl | rfl | rfl | rfl | rfl | rfl | rfl <;> rfl
theorem Acc.set_r (a : Acc) {i : Nat} (h : i < 8) (v : Int) : a.cells.set (3 + i * 4 + 3) (.int .i64 v) = { a with r := upd a.r i v }.cells := by
  rw [Acc.cells_eq, Acc.cells_eq]; rcases lt8 h with rfl | rfl | rfl | rfl | rfl | rfl | rfl | rfl <;> rfl
theorem Acc.get_f (a : Acc) : a.cells[0]? = some (.int .i64 a.f) := rfl
theorem Acc.get_n (a : Acc) : a.cells[1]? = some (.int .i64 a.n) := rfl
theorem Acc.get_fr (a : Acc) : a.cells[2]? = some (.int .i64 a.fr) := rfl
theorem Acc.set_fr (a : Acc) (v : Int) : a.cells.set 2 (.int .i64 v) = { a with fr := v }.cells := rfl
def askI (a : Acc) (t o : Int) : Prop := 1 ≤ o ∧ o ≤ a.n ∧ 0 ≤ t ∧ t ≤ 2147483647
instance (a : Acc) (t o : Int) : Decidable (askI a t o) := inferInstanceAs (Decidable (_ ∧ _ ∧ _ ∧ _))
def Acc.ok (a : Acc) : Prop := (1 ≤ a.f ∧ a.f ≤ 4096) ∧ (0 ≤ a.n ∧ a.n ≤ 8) ∧ 0 ≤ a.fr
theorem f73 (n i : Nat) (a : Acc) (t o : Int) (hp : Heap) (hi : hp[i]? = some a.cells) (ha : a.ok) :
    evalCall Try.prog hints (n + 3) 73 [.ptr (.heap i) none 0, .int .i64 t, .int .i64 o] hp = some (.tup [.int .i64 (if askI a t o then t / a.f else 0), .bool (decide (askI a t o ∧ a.fr ≤ t / a.f))], hp, false) := by
  rw [evalCall_at _ _ _ hh73 rfl Try.func73 rfl (Nat.le_of_ble_eq_true rfl) rfl]
  by_cases h1 : o < 1
  · have : ¬ askI a t o := fun h => by unfold askI at h; omega
    simp [h1, this]
  by_cases h2 : a.n < o
  · have : ¬ askI a t o := fun h => by unfold askI at h; omega
    simp [h1, h2, this, hi, Acc.get_n]
  by_cases h3 : t < 0
  · have : ¬ askI a t o := fun h => by unfold askI at h; omega
    simp [h1, h2, h3, this, hi, Acc.get_n]
  by_cases h4 : 2147483647 < t
  · have : ¬ askI a t o := fun h => by unfold askI at h; omega
    simp [h1, h2, h3, h4, this, hi, Acc.get_n]
  have h5 : askI a t o := by unfold askI; omega
  have e96 := f96 n t a.f hp ha.1 (by omega)
  simp [h1, h2, h3, h4, h5, hi, Acc.get_n, Acc.get_f, Acc.get_fr, e96]
end Go.Proofs.Ytoipglmjnibdpaa
end

section
namespace Go.Proofs.Ytoipglmjnibdpaa
open Go Go.PS
theorem good_take (l : List Int) (k : Nat) (h : k < l.length) (hg : goodQ (l.take k) = true) : goodQ (l.take (k + 1)) = (decide (1 ≤ l[k]) && decide (l[k] ≤ 16)) := by
  rw [List.take_succ_eq_append_getElem h]
  unfold goodQ at *
  rw [List.all_append, hg]
  simp
theorem good_bad (l : List Int) (k : Nat) (h : k < l.length) (hb : ¬ (1 ≤ l[k] ∧ l[k] ≤ 16)) : goodQ l = false := by
  rw [goodQ, List.all_eq_false]
  exact ⟨l[k], List.getElem_mem h, by simpa using hb⟩
theorem f39 (n : Nat) (f : Int) (l : List Int) (hp : Heap) (hl : l.length ≤ 9223372036854775807) (hn : 8 < n) :
    evalCall Try.prog hints (n + 2) 39 [.int .i64 f, .sl .sh l.length (l.map (PV.int .i64))] hp = some (.int .i64 (checkI f l), hp, false) := by
  rw [evalCall_at _ _ _ hh39 rfl Try.func39 rfl (Nat.le_of_ble_eq_true rfl) rfl]
  by_cases h1 : rightB f = true
  · by_cases h2 : 8 < l.length
    · have h2' : (8 : Int) < l.length := by omega
      simp [f72, h1, h2, h2', checkI]
    · have h2' : ¬ (8 : Int) < l.length := by omega
      simp [f72, h1, h2']
      generalize hit : iter _ _ _ = r
      refine iter_elim hit (fun k : Nat => { fr := [(1, .sl .sh l.length (l.map (PV.int .i64))), (5, .int .i64 k)], hp := hp, base := hp.length, dirty := false })
        (fun k => k ≤ l.length ∧ goodQ (l.take k) = true) (fun k => l.length - k)
        (fun b : Bool => if b then (.exit 0, { fr := [(1, .sl .sh l.length (l.map (PV.int .i64))), (5, .int .i64 l.length), (15, .bool false)], hp := hp, base := hp.length, dirty := false })
          else (.ret, { fr := [(4, .int .i64 2)], hp := hp, base := hp.length, dirty := false })) (fun b => goodQ l = b) 0 rfl ⟨by omega, rfl⟩ (by simp; omega) ?_ ?_
      · rintro k ⟨hk, hg⟩
        by_cases hk' : k < l.length
        · have w := wrap_id (x := (k : Int) + 1) (by omega)
          by_cases h3 : l[k] < 1
          · right
            refine ⟨false, ?_, by simp, good_bad l k hk' (by omega)⟩
            simp [hk', h3]
          by_cases h4 : 16 < l[k]
          · right
            refine ⟨false, ?_, by simp, good_bad l k hk' (by omega)⟩
            simp [hk', h3, h4]
          left
          refine ⟨k + 1, ?_, ⟨by omega, ?_⟩, by omega⟩
          · simp [hk', h3, h4, w]
          · rw [good_take l k hk' hg]; simp; omega
        · right
          have : k = l.length := by omega
          subst this
          refine ⟨true, ?_, by simp, by simpa using hg⟩
          simp
      · rintro b rfl hb
        cases b <;> simp [checkI, h1, h2, hb]
  · simp [f72, h1, checkI]
def newA (f : Int) (l : List Int) : Acc := { f := f, n := l.length, fr := 0, q := fun i => l.getD i 0, u := fun _ => 0, t := fun _ => 0, r := fun _ => 0 }
def newK (f : Int) (l : List Int) (k : Nat) : Acc := { newA f l with q := fun i => if i < k then l.getD i 0 else 0 }
theorem newK_zero (f : Int) (l : List Int) : (newK f l 0).cells = [.int .i64 f, .int .i64 l.length, .int .i64 0, .int .i64 0, .int .i64 0, .int .i64 0, .int .i64 0, .int .i64 0, .int .i64 0, .int .i64 0, .int .i64 0, .int .i64 0, .int .i64 0, .int .i64 0, .int .i64 0, .int .i64 0, .int .i64 0, .int .i64 0, .int .i64 0, .int .i64 0, .int .i64 0, .int .i64 0, .int .i64 0, .int .i64 0, .int .i64 0, .int .i64 0, .int .i64 0, .int .i64 0, .int .i64 0, .int .i64 0, .int .i64 0, .int .i64 0, .int .i64 0, .int .i64 0, .int .i64 0] := rfl
theorem newK_succ (f : Int) (l : List Int) (k : Nat) (hk : k < 8) (v : Int) (hv : l.getD k 0 = v) : (newK f l k).cells.set (3 + k * 4) (.int .i64 v) = (newK f l (k + 1)).cells := by
  rw [Acc.set_q _ hk]
  congr 1
  simp only [newK]
  congr 1
  funext i
  unfold upd
  by_cases h : i = k
  · subst h; simp [← hv]
  · simp only [if_neg h]
    by_cases h2 : i < k
    · rw [if_pos h2, if_pos (by omega)]
    · rw [if_neg h2, if_neg (by omega)]
theorem newK_all (f : Int) (l : List Int) (h : l.length ≤ 8) : (newK f l l.length) = newA f l := by
  simp only [newK, newA]
  congr 1
  funext i
  by_cases h : i < l.length
  · rw [if_pos h]
  · rw [if_neg h]; simp [List.getD, List.getElem?_eq_none (Nat.le_of_not_lt h)]
theorem f37 (n : Nat) (f : Int) (l : List Int) (hp : Heap) (hl : l.length ≤ 9223372036854775807) (hn : 8 < n) :
    ∃ hp', evalCall Try.prog hints (n + 2) 37 [.int .i64 f, .sl .sh l.length (l.map (PV.int .i64))] hp = some (if checkI f l = 0 then (.tup [.ptr (.heap hp.length) none 0, .int .i64 0], hp ++ [(newA f l).cells], false) else (.tup [.nilp, .int .i64 (checkI f l)], hp', false)) := by
  rw [evalCall_at _ _ _ hh37 rfl Try.func37 rfl (Nat.le_of_ble_eq_true rfl) rfl]
  by_cases h1 : rightB f = true
  · by_cases h2 : 8 < l.length
    · have h2' : (8 : Int) < l.length := by omega
      simp [f71, h1, h2, h2', checkI]
    · have h2' : ¬ (8 : Int) < l.length := by omega
      simp [f71, h1, h2']
      rw [← newK_zero]
      generalize hit : iter _ _ _ = r
      refine iter_elim hit (fun k : Nat => { fr := [(6, .ptr (.heap hp.length) none 0), (22, .sl .sh l.length (l.map (PV.int .i64))), (23, .int .i64 l.length), (24, .int .i64 k)], hp := hp ++ [(newK f l k).cells], base := hp.length, dirty := false })
        (fun k => k ≤ l.length ∧ goodQ (l.take k) = true) (fun k => l.length - k)
        (fun x : Bool × Nat => if x.1 then (.exit 1, { fr := [(6, .ptr (.heap hp.length) none 0), (22, .sl .sh l.length (l.map (PV.int .i64))), (23, .int .i64 l.length), (24, .int .i64 l.length), (25, .bool false)], hp := hp ++ [(newA f l).cells], base := hp.length, dirty := false })
          else (.ret, { fr := [(4, .nilp), (5, .int .i64 2)], hp := hp ++ [(newK f l x.2).cells], base := hp.length, dirty := false })) (fun x => goodQ l = x.1) 0 rfl ⟨by omega, rfl⟩ (by simp; omega) ?_ ?_
      · rintro k ⟨hk, hg⟩
        by_cases hk' : k < l.length
        · have w := wrap_id (x := (k : Int) + 1) (by omega)
          by_cases h3 : l[k] < 1
          · right
            refine ⟨(false, k), ?_, by simp, good_bad l k hk' (by omega)⟩
            simp [hk', h3]
          by_cases h4 : 16 < l[k]
          · right
            refine ⟨(false, k), ?_, by simp, good_bad l k hk' (by omega)⟩
            simp [hk', h3, h4]
          left
          refine ⟨k + 1, ?_, ⟨by omega, ?_⟩, by omega⟩
          · have hs := newK_succ f l k (by omega) l[k] (by simp [hk'])
            have hk8 : (k : Int) < 8 := by omega
            have hk9 : 3 + k * 4 ≤ 34 := by omega
            simp [hk', h3, h4, w, hs, hk8, Acc.len, hk9]
          · rw [good_take l k hk' hg]; simp; omega
        · right
          have : k = l.length := by omega
          subst this
          refine ⟨(true, 0), ?_, by simp, by simpa using hg⟩
          simp [newK_all f l (by omega)]
      · rintro ⟨b, k⟩ rfl hb
        simp only at hb
        cases b <;> simp [checkI, h1, h2, hb]
  · simp [f71, h1, checkI]
end Go.Proofs.Ytoipglmjnibdpaa
end

section
namespace Go.Proofs.Ytoipglmjnibdpaa
open Go Go.PS
def inA (a : Acc) (o : Int) : Prop := 1 ≤ o ∧ o ≤ a.n
instance (a : Acc) (o : Int) : Decidable (inA a o) := inferInstanceAs (Decidable (_ ∧ _))
theorem f74 (n i : Nat) (a : Acc) (o : Int) (hp : Heap) (hi : hp[i]? = some a.cells) (ha : a.ok) :
    evalCall Try.prog hints (n + 1) 74 [.ptr (.heap i) none 0, .int .i64 o] hp = some (.agg (if inA a o then a.rowC (o - 1).toNat else [.int .i64 0, .int .i64 0, .int .i64 0, .int .i64 0]), hp, false) := by
  rw [evalCall_at _ _ _ hh74 rfl Try.func74 rfl (Nat.le_of_ble_eq_true rfl) rfl]
  by_cases h1 : o < 1
  · have : ¬ inA a o := fun h => by unfold inA at h; omega
    simp [h1, this]
  by_cases h2 : a.n < o
  · have : ¬ inA a o := fun h => by unfold inA at h; omega
    simp [h1, h2, this, hi, Acc.get_n]
  have h3 : inA a o := by unfold inA; omega
  obtain ⟨j, hj⟩ : ∃ j : Nat, o - 1 = j := ⟨(o - 1).toNat, by omega⟩
  have hn := ha.2.1
  have w := wrap_id (x := (j : Int)) (by omega)
  have hj8 : (j : Int) < 8 := by omega
  have hj9 : 3 + j * 4 + 4 ≤ a.cells.length := by rw [Acc.len]; omega
  have hr : (a.cells.drop (3 + j * 4)).take 4 = a.rowC j := by
    rw [Acc.cells_eq]; rcases lt8 (show j < 8 by omega) with rfl | rfl | rfl | rfl | rfl | rfl | rfl | rfl <;> rfl
  simp [h1, h2, h3, hi, Acc.get_n, hj, w, hj8, hj9, hr]
  simp [Acc.rowC]
theorem f74nil (n : Nat) (o : Int) (hp : Heap) :
    evalCall Try.prog hints (n + 1) 74 [.nilp, .int .i64 o] hp = some (.agg [.int .i64 0, .int .i64 0, .int .i64 0, .int .i64 0], hp, false) := by
  rw [evalCall_at _ _ _ hh74 rfl Try.func74 rfl (Nat.le_of_ble_eq_true rfl) rfl]
  simp
def totI (a : Acc) (o : Int) : Int := if inA a o then a.t (o - 1).toNat else 0
def refI (a : Acc) (o : Int) : Int := if inA a o then a.r (o - 1).toNat else 0
theorem f42 (n i : Nat) (a : Acc) (o : Int) (hp : Heap) (hi : hp[i]? = some a.cells) (ha : a.ok) :
    evalCall Try.prog hints (n + 2) 42 [.ptr (.heap i) none 0, .int .i64 o] hp = some (.int .i64 (totI a o), hp, false) := by
  have e := f74 n i a o hp hi ha
  rw [evalCall_at _ _ _ hh42 rfl Try.func42 rfl (Nat.le_of_ble_eq_true rfl) rfl]
  by_cases h : inA a o
  · simp [e, h, totI, Acc.rowC]
  · simp [e, h, totI]
theorem f43 (n i : Nat) (a : Acc) (o : Int) (hp : Heap) (hi : hp[i]? = some a.cells) (ha : a.ok) :
    evalCall Try.prog hints (n + 2) 43 [.ptr (.heap i) none 0, .int .i64 o] hp = some (.int .i64 (refI a o), hp, false) := by
  have e := f74 n i a o hp hi ha
  rw [evalCall_at _ _ _ hh43 rfl Try.func43 rfl (Nat.le_of_ble_eq_true rfl) rfl]
  by_cases h : inA a o
  · simp [e, h, refI, Acc.rowC]
  · simp [e, h, refI]
theorem f42nil (n : Nat) (o : Int) (hp : Heap) : evalCall Try.prog hints (n + 2) 42 [.nilp, .int .i64 o] hp = some (.int .i64 0, hp, false) := by
  rw [evalCall_at _ _ _ hh42 rfl Try.func42 rfl (Nat.le_of_ble_eq_true rfl) rfl]
  simp [f74nil]
theorem f43nil (n : Nat) (o : Int) (hp : Heap) : evalCall Try.prog hints (n + 2) 43 [.nilp, .int .i64 o] hp = some (.int .i64 0, hp, false) := by
  rw [evalCall_at _ _ _ hh43 rfl Try.func43 rfl (Nat.le_of_ble_eq_true rfl) rfl]
  simp [f74nil]
theorem f47 (n i : Nat) (a : Acc) (hp : Heap) (hi : hp[i]? = some a.cells) :
    evalCall Try.prog hints (n + 1) 47 [.ptr (.heap i) none 0] hp = some (.int .i64 a.fr, hp, false) := by
  rw [evalCall_at _ _ _ hh47 rfl Try.func47 rfl (Nat.le_of_ble_eq_true rfl) rfl]
  simp [hi, Acc.get_fr]
theorem f47nil (n : Nat) (hp : Heap) : evalCall Try.prog hints (n + 1) 47 [.nilp] hp = some (.int .i64 0, hp, false) := by
  rw [evalCall_at _ _ _ hh47 rfl Try.func47 rfl (Nat.le_of_ble_eq_true rfl) rfl]
  simp
theorem f48 (n i : Nat) (a : Acc) (hp : Heap) (hi : hp[i]? = some a.cells) :
    evalCall Try.prog hints (n + 1) 48 [.ptr (.heap i) none 0] hp = some (.ptr (.heap hp.length) none 0, hp ++ [a.cells], false) := by
  rw [evalCall_at _ _ _ hh48 rfl Try.func48 rfl (Nat.le_of_ble_eq_true rfl) rfl]
  rw [Acc.cells_eq] at hi ⊢
  simp [hi]
theorem f48nil (n : Nat) (hp : Heap) : evalCall Try.prog hints (n + 1) 48 [.nilp] hp = some (.nilp, hp, false) := by
  rw [evalCall_at _ _ _ hh48 rfl Try.func48 rfl (Nat.le_of_ble_eq_true rfl) rfl]
  simp
def clearA (a : Acc) (k : Nat) : Acc := { a with u := fun i => if i < k then 0 else a.u i }
def stepF (a : Acc) (t : Int) : Acc := if a.fr < t / a.f then { clearA a 8 with fr := t / a.f } else a
def goI (a : Acc) (t o : Int) : Prop := askI a t o ∧ a.fr ≤ t / a.f
instance (a : Acc) (t o : Int) : Decidable (goI a t o) := inferInstanceAs (Decidable (_ ∧ _))
def useA (a : Acc) (t o : Int) : Acc × Bool :=
  if goI a t o then
    (let b := stepF a t
     let i := (o - 1).toNat
     if b.q i ≤ b.u i then ({ b with r := upd b.r i (b.r i + 1) }, false)
     else ({ b with u := upd b.u i (b.u i + 1), t := upd b.t i (b.t i + 1) }, true))
  else (a, false)
def leftA (a : Acc) (t o : Int) : Int := if goI a t o then (stepF a t).q (o - 1).toNat - (stepF a t).u (o - 1).toNat else 0
end Go.Proofs.Ytoipglmjnibdpaa
end

section
namespace Go.Proofs.Ytoipglmjnibdpaa
open Go Go.PS
def Acc.small (a : Acc) : Prop := ∀ i, i < 8 → (0 ≤ a.q i ∧ a.q i ≤ 16) ∧ (0 ≤ a.u i ∧ a.u i < 4611686018427387904) ∧ (0 ≤ a.t i ∧ a.t i < 4611686018427387904) ∧ (0 ≤ a.r i ∧ a.r i < 4611686018427387904)
theorem clear_zero (a : Acc) : clearA a 0 = a := by simp [clearA]
theorem clear_succ (a : Acc) (k : Nat) (hk : k < 8) : (clearA a k).cells.set (3 + k * 4 + 1) (.int .i64 0) = (clearA a (k + 1)).cells := by
  rw [Acc.set_u _ hk]
  congr 1
  simp only [clearA]
  congr 1
  funext i
  unfold upd
  by_cases h : i = k
  · subst h; simp
  · simp only [if_neg h]
    by_cases h2 : i < k
    · rw [if_pos h2, if_pos (by omega)]
    · rw [if_neg h2, if_neg (by omega)]
set_option maxHeartbeats 1000000 in
theorem f40 (n i : Nat) (a : Acc) (t o : Int) (hp : Heap) (hi : hp[i]? = some a.cells) (ha : a.ok) (hs : a.small) (hn : 8 < n) :
    evalCall Try.prog hints (n + 4) 40 [.ptr (.heap i) none 0, .int .i64 t, .int .i64 o] hp = some (.bool (useA a t o).2, hp.set i (useA a t o).1.cells, decide (goI a t o)) := by
  have hl : i < hp.length := (List.getElem?_eq_some_iff.1 hi).1
  have hset : ∀ x, (hp.set i x)[i]? = some x := fun x => List.getElem?_set_self hl
  have e73 := f73 n i a t o hp hi ha
  rw [evalCall_at _ _ _ hh40 rfl Try.func40 rfl (Nat.le_of_ble_eq_true rfl) rfl]
  by_cases hg : goI a t o
  · have hd : decide (askI a t o ∧ a.fr ≤ t / a.f) = true := decide_eq_true hg
    rw [hd, if_pos hg.1] at e73
    obtain ⟨j, hj⟩ : ∃ j : Nat, o - 1 = j := ⟨(o - 1).toNat, by have := hg.1.1; omega⟩
    have hn' := ha.2.1
    have ho := hg.1
    unfold askI at ho
    have w := wrap_id (x := (j : Int)) (by omega)
    have hj8 : (j : Int) < 8 := by omega
    have hj8' : j < 8 := by omega
    obtain ⟨b, hb⟩ : ∃ b, b = stepF a t := ⟨_, rfl⟩
    have sm := hs j hj8'
    have hbu : b.u j = a.u j ∨ b.u j = 0 := by
      rw [hb]; unfold stepF; split
      · right; simp [clearA, hj8']
      · left; rfl
    have hbt : b.t j = a.t j := by rw [hb]; unfold stepF; split <;> rfl
    have hbr : b.r j = a.r j := by rw [hb]; unfold stepF; split <;> rfl
    have w1 := wrap_id (x := b.u j + 1) (by omega)
    have w2 := wrap_id (x := b.t j + 1) (by omega)
    have w3 := wrap_id (x := b.r j + 1) (by omega)
    have hu : useA a t o = if b.q j ≤ b.u j then ({ b with r := upd b.r j (b.r j + 1) }, false) else ({ b with u := upd b.u j (b.u j + 1), t := upd b.t j (b.t j + 1) }, true) := by
      unfold useA
      rw [if_pos hg]
      simp only [hj, ← hb, Int.toNat_natCast]
    have gq := b.get_q hj8'
    have gu := b.get_u hj8'
    have gt := b.get_t hj8'
    have gr := b.get_r hj8'
    have ls0 : 3 + j * 4 + 1 ≤ 35 := by omega
    have ls1 : 3 + j * 4 + 1 + 1 ≤ 35 := by omega
    have ls2 : 3 + j * 4 + 2 + 1 ≤ 35 := by omega
    have ls3 : 3 + j * 4 + 3 + 1 ≤ 35 := by omega
    rw [← b.len] at ls0 ls1 ls2 ls3
    have s1 := b.set_r hj8' (b.r j + 1)
    have s2 := b.set_u hj8' (b.u j + 1)
    have s3 := ({ b with u := upd b.u j (b.u j + 1) } : Acc).set_t hj8' (b.t j + 1)
    have g3 := ({ b with u := upd b.u j (b.u j + 1) } : Acc).get_t hj8'
    have ls4 : 3 + j * 4 + 2 + 1 ≤ ({ b with u := upd b.u j (b.u j + 1) } : Acc).cells.length := by rw [Acc.len]; omega
    have dg : decide (goI a t o) = decide (i < hp.length) := by rw [decide_eq_true hg, decide_eq_true hl]
    rw [hu, dg]
    by_cases hf : a.fr < t / a.f
    · have l3 : 3 ≤ a.cells.length := by rw [Acc.len]; omega
      have hbc : (clearA { a with fr := t / a.f } 8) = b := by
        rw [hb]; unfold stepF; rw [if_pos hf]; rfl
      simp [e73, hi, Acc.get_fr, hf, l3, Acc.set_fr]
      rw [iter_count (fun k => { fr := [(0, .ptr (.heap i) none 0), (2, .int .i64 o), (30, .int .i64 k)], hp := hp.set i (clearA { a with fr := t / a.f } k).cells, base := hp.length, dirty := decide (i < hp.length) })
        (.exit 0, { fr := [(0, .ptr (.heap i) none 0), (2, .int .i64 o), (30, .int .i64 8), (31, .bool false)], hp := hp.set i b.cells, base := hp.length, dirty := decide (i < hp.length) }) 8 (n + 3) _ ?_ (by omega)]
      · by_cases hq : b.q j ≤ b.u j
        · simp [hset, hj, w, hj8, gu, gq, gr, hq, w3, s1, ls3]
        · simp [hset, hj, w, hj8, gu, gq, gt, hq, w1, w2, s2, s3, ls1, ls4, g3]
      · intro k hk
        have hk8 : (k : Int) < 8 := by omega
        have w4 := wrap_id (x := (k : Int) + 1) (by omega)
        have l4 : 3 + k * 4 + 1 + 1 ≤ (clearA { a with fr := t / a.f } k).cells.length := by rw [Acc.len]; omega
        have c := clear_succ { a with fr := t / a.f } k hk
        simp [hset, hk8, w4, l4, c]
      · simp [hbc]
      · simp
      · simp [clear_zero]
    · have hba : b = a := by rw [hb]; unfold stepF; rw [if_neg hf]
      subst hba
      by_cases hq : b.q j ≤ b.u j
      · simp [e73, hi, Acc.get_fr, hf, hset, hj, w, hj8, gu, gq, gr, hq, w3, s1, ls3]
      · simp [e73, hi, Acc.get_fr, hf, hset, hj, w, hj8, gu, gq, gt, hq, w1, w2, s2, s3, ls1, ls4, g3]
  · have hd : decide (askI a t o ∧ a.fr ≤ t / a.f) = false := decide_eq_false hg
    rw [hd] at e73
    have hu : useA a t o = (a, false) := by unfold useA; rw [if_neg hg]
    rw [hu]
    simp [e73, hg]
    exact (set_same hi).symm
end Go.Proofs.Ytoipglmjnibdpaa
end

section
namespace Go.Proofs.Ytoipglmjnibdpaa
open Go Go.PS
theorem f44 (n i : Nat) (a : Acc) (t o : Int) (hp : Heap) (hi : hp[i]? = some a.cells) (ha : a.ok) (hs : a.small) :
    evalCall Try.prog hints (n + 4) 44 [.ptr (.heap i) none 0, .int .i64 t, .int .i64 o] hp = some (.int .i64 (leftA a t o), hp, false) := by
  have e73 := f73 n i a t o hp hi ha
  rw [evalCall_at _ _ _ hh44 rfl Try.func44 rfl (Nat.le_of_ble_eq_true rfl) rfl]
  by_cases hg : goI a t o
  · have hd : decide (askI a t o ∧ a.fr ≤ t / a.f) = true := decide_eq_true hg
    rw [hd, if_pos hg.1] at e73
    obtain ⟨j, hj⟩ : ∃ j : Nat, o - 1 = j := ⟨(o - 1).toNat, by have := hg.1.1; omega⟩
    have hn' := ha.2.1
    have ho := hg.1
    unfold askI at ho
    have w := wrap_id (x := (j : Int)) (by omega)
    have hj8 : (j : Int) < 8 := by omega
    have hj8' : j < 8 := by omega
    have sm := hs j hj8'
    have gq := a.get_q hj8'
    have gu := a.get_u hj8'
    by_cases hf : a.fr < t / a.f
    · have hl : leftA a t o = a.q j := by
        unfold leftA stepF; rw [if_pos hg, if_pos hf]
        simp [hj, clearA, hj8']
      rw [hl]
      simp [e73, hi, Acc.get_fr, hf, hj, w, hj8, gq]
    · have hl : leftA a t o = a.q j - a.u j := by
        unfold leftA stepF; rw [if_pos hg, if_neg hf]
        simp [hj]
      have w2 := wrap_id (x := a.q j - a.u j) (by omega)
      rw [hl]
      simp [e73, hi, Acc.get_fr, hf, hj, w, hj8, gq, gu, w2]
  · have hd : decide (askI a t o ∧ a.fr ≤ t / a.f) = false := decide_eq_false hg
    rw [hd] at e73
    have hu : leftA a t o = 0 := by unfold leftA; rw [if_neg hg]
    rw [hu]
    simp [e73]
theorem f73nil (n : Nat) (t o : Int) (hp : Heap) : evalCall Try.prog hints (n + 3) 73 [.nilp, .int .i64 t, .int .i64 o] hp = some (.tup [.int .i64 0, .bool false], hp, false) := by
  rw [evalCall_at _ _ _ hh73 rfl Try.func73 rfl (Nat.le_of_ble_eq_true rfl) rfl]
  simp
theorem f40nil (n : Nat) (t o : Int) (hp : Heap) : evalCall Try.prog hints (n + 4) 40 [.nilp, .int .i64 t, .int .i64 o] hp = some (.bool false, hp, false) := by
  rw [evalCall_at _ _ _ hh40 rfl Try.func40 rfl (Nat.le_of_ble_eq_true rfl) rfl]
  simp [f73nil]
theorem f44nil (n : Nat) (t o : Int) (hp : Heap) : evalCall Try.prog hints (n + 4) 44 [.nilp, .int .i64 t, .int .i64 o] hp = some (.int .i64 0, hp, false) := by
  rw [evalCall_at _ _ _ hh44 rfl Try.func44 rfl (Nat.le_of_ble_eq_true rfl) rfl]
  simp [f73nil]
/-- The document's account. -/
structure Us where
  fr : Int
  o : Int
  ok : Bool
def Us.cells (e : Us) : List PV := [.int .i64 e.fr, .int .i64 e.o, .bool e.ok]
theorem Us.len (e : Us) : e.cells.length = 3 := rfl
structure Ref where
  f : Int
  qs : List Int
  fr : Int
  l : List Us
def Ref.cells (x : Ref) : List PV := [.int .i64 x.f, .sl .sh x.qs.length (x.qs.map (PV.int .i64)), .int .i64 x.fr, .sl .sh x.l.length (x.l.flatMap Us.cells)]
def hitU (fr o : Int) (ok : Bool) (e : Us) : Bool := decide (e.o = o) && (e.ok == ok) && (decide (fr < 0) || decide (e.fr = fr))
def cntU (l : List Us) (fr o : Int) (ok : Bool) : Int := (l.countP (hitU fr o ok) : Nat)
theorem cnt_take (l : List Us) (fr o : Int) (ok : Bool) (k : Nat) (h : k < l.length) : cntU (l.take (k + 1)) fr o ok = cntU (l.take k) fr o ok + (if hitU fr o ok l[k] = true then 1 else 0) := by
  unfold cntU
  rw [List.take_succ_eq_append_getElem h, List.countP_append]
  simp [List.countP_cons]
  split <;> rfl
theorem cnt_le (l : List Us) (fr o : Int) (ok : Bool) : 0 ≤ cntU l fr o ok ∧ cntU l fr o ok ≤ l.length := by
  have := List.countP_le_length (p := hitU fr o ok) (l := l)
  unfold cntU; omega
theorem f41 (n : Nat) (x : Ref) (fr o : Int) (ok : Bool) (hp : Heap) (hl : x.l.length ≤ n) (hl' : x.l.length ≤ 9223372036854775807) :
    evalCall Try.prog hints (n + 2) 41 [.agg x.cells, .int .i64 fr, .int .i64 o, .bool ok] hp = some (.int .i64 (cntU x.l fr o ok), hp, false) := by
  rw [evalCall_at _ _ _ hh41 rfl Try.func41 rfl (Nat.le_of_ble_eq_true rfl) rfl]
  simp [Ref.cells]
  rw [iter_count (fun k => { fr := [(1, .int .i64 fr), (2, .int .i64 o), (3, .bool ok), (4, .box x.cells), (9, .int .i64 (cntU (x.l.take k) fr o ok)), (10, .int .i64 k)], hp := hp, base := hp.length, dirty := false })
    (.exit 0, { fr := [(1, .int .i64 fr), (2, .int .i64 o), (3, .bool ok), (4, .box x.cells), (9, .int .i64 (cntU x.l fr o ok)), (10, .int .i64 x.l.length), (15, .bool false)], hp := hp, base := hp.length, dirty := false }) x.l.length (n + 1) _ ?_ (by omega)]
  · simp
  · intro k hk
    have hlen := flat_len Us.len x.l
    have g0 := flat_get Us.len x.l k hk 0 (by omega)
    have g1 := flat_get Us.len x.l k hk 1 (by omega)
    have g2 := flat_get Us.len x.l k hk 2 (by omega)
    have w := wrap_id (x := (k : Int) + 1) (by omega)
    have c0 := cnt_le (x.l.take k) fr o ok
    have c1 : (x.l.take k).length = k := by rw [List.length_take]; omega
    have w2 := wrap_id (x := cntU (x.l.take k) fr o ok + 1) (by omega)
    have ct := cnt_take x.l fr o ok k hk
    simp only [Us.cells, Nat.add_zero] at g0 g1 g2
    generalize x.l[k] = e at g0 g1 g2 ct
    simp at g0 g1 g2
    rw [ct]
    by_cases h1 : e.o = o
    · by_cases h2 : e.ok = ok
      · by_cases h3 : fr < 0
        · simp [-getElem?_pos, List.getElem?_cons_zero, Ref.cells, hk, hlen, g0, g1, g2, h1, h2, h3, hitU, w, w2]
        · by_cases h4 : e.fr = fr
          · simp [-getElem?_pos, List.getElem?_cons_zero, Ref.cells, hk, hlen, g0, g1, g2, h1, h2, h3, h4, hitU, w, w2]
          · have h4' : (e.fr == fr) = false := by simp [h4]
            simp [-getElem?_pos, List.getElem?_cons_zero, Ref.cells, hk, hlen, g0, g1, g2, h1, h2, h3, h4, h4', hitU, w]
      · have h2' : (e.ok == ok) = false := by simp [h2]
        simp [-getElem?_pos, List.getElem?_cons_zero, Ref.cells, hk, hlen, g0, g1, g2, h1, h2', hitU, w]
    · have h1' : (e.o == o) = false := by simp [h1]
      simp [-getElem?_pos, List.getElem?_cons_zero, Ref.cells, hk, hlen, g0, g1, g2, h1, h1', hitU, w]
  · simp [Ref.cells]
  · simp
  · simp [Ref.cells, cntU]
end Go.Proofs.Ytoipglmjnibdpaa
end

section
namespace Go.Proofs.Ytoipglmjnibdpaa
open Go Go.PS
def askX (x : Ref) (t o : Int) : Prop := 1 ≤ o ∧ o ≤ x.qs.length ∧ 0 ≤ t ∧ t ≤ 2147483647 ∧ x.fr ≤ t / x.f
instance (x : Ref) (t o : Int) : Decidable (askX x t o) := inferInstanceAs (Decidable (_ ∧ _))
theorem f75 (n : Nat) (x : Ref) (t o : Int) (hp : Heap) (hf : 1 ≤ x.f) :
    evalCall Try.prog hints (n + 1) 75 [.agg x.cells, .int .i64 t, .int .i64 o] hp = some (.bool (decide (askX x t o)), hp, false) := by
  have hf0 : x.f ≠ 0 := by omega
  rw [evalCall_at _ _ _ hh75 rfl Try.func75 rfl (Nat.le_of_ble_eq_true rfl) rfl]
  by_cases h1 : 1 ≤ o
  · by_cases h2 : o ≤ x.qs.length
    · by_cases h3 : 0 ≤ t
      · by_cases h4 : t ≤ 2147483647
        · have e2 := td (a := t) x.f h3
          have d0 : 0 ≤ t / x.f := Int.ediv_nonneg h3 (by omega)
          have d1 : t / x.f ≤ t := Int.ediv_le_self x.f h3
          have w := wrap_id (x := t / x.f) (by omega)
          simp [Ref.cells, h1, h2, h3, h4, hf0, e2, w, askX]
        · simp [Ref.cells, h1, h2, h3, h4, askX]
      · simp [Ref.cells, h1, h2, h3, askX]
    · simp [Ref.cells, h1, h2, askX]
  · simp [Ref.cells, h1, askX]
def leftX (x : Ref) (t o : Int) : Int := if askX x t o then x.qs.getD (o - 1).toNat 0 - cntU x.l (t / x.f) o true else 0
theorem f45 (n : Nat) (x : Ref) (t o : Int) (hp : Heap) (hf : 1 ≤ x.f) (hl : x.l.length ≤ n) (hl' : x.l.length ≤ 1000) (hq : goodQ x.qs = true) (hql : x.qs.length ≤ 8) :
    evalCall Try.prog hints (n + 3) 45 [.agg x.cells, .int .i64 t, .int .i64 o] hp = some (.int .i64 (leftX x t o), hp, false) := by
  have hf0 : x.f ≠ 0 := by omega
  have e75 := f75 (n + 1) x t o hp hf
  rw [evalCall_at _ _ _ hh45 rfl Try.func45 rfl (Nat.le_of_ble_eq_true rfl) rfl]
  by_cases h : askX x t o
  · rw [decide_eq_true h] at e75
    have h' := h
    unfold askX at h'
    obtain ⟨j, hj⟩ : ∃ j : Nat, o - 1 = j := ⟨(o - 1).toNat, by omega⟩
    have e2 := td (a := t) x.f h'.2.2.1
    have d0 : 0 ≤ t / x.f := Int.ediv_nonneg h'.2.2.1 (by omega)
    have d1 : t / x.f ≤ t := Int.ediv_le_self x.f h'.2.2.1
    have w := wrap_id (x := t / x.f) (by omega)
    have w1 := wrap_id (x := (j : Int)) (by omega)
    have e41 := f41 n x (t / x.f) o true hp hl (by omega)
    have hj8 : j < x.qs.length := by omega
    have c := cnt_le x.l (t / x.f) o true
    have hg : 1 ≤ x.qs[j] ∧ x.qs[j] ≤ 16 := by
      have := List.all_eq_true.1 hq _ (List.getElem_mem hj8)
      simpa using this
    have w2 := wrap_id (x := x.qs[j] - cntU x.l (t / x.f) o true) (by omega)
    have hx : leftX x t o = x.qs[j] - cntU x.l (t / x.f) o true := by
      unfold leftX; rw [if_pos h, hj]; simp [hj8]
    rw [hx]
    simp [Ref.cells] at e75 e41
    simp [Ref.cells, e75, hf0, e2, w, w1, w2, hj, hj8, e41]
  · rw [decide_eq_false h] at e75
    have hx : leftX x t o = 0 := by unfold leftX; rw [if_neg h]
    rw [hx]
    simp [Ref.cells] at e75
    simp [Ref.cells, e75]
def useX (x : Ref) (t o : Int) : Ref × Bool :=
  if askX x t o then ({ x with fr := t / x.f, l := x.l ++ [⟨t / x.f, o, decide (0 < leftX x t o)⟩] }, decide (0 < leftX x t o)) else (x, false)
theorem f46 (n : Nat) (x : Ref) (t o : Int) (hp : Heap) (hf : 1 ≤ x.f) (hl : x.l.length ≤ n) (hl' : x.l.length ≤ 1000) (hq : goodQ x.qs = true) (hql : x.qs.length ≤ 8) :
    evalCall Try.prog hints (n + 4) 46 [.agg x.cells, .int .i64 t, .int .i64 o] hp = some (.tup [.agg (useX x t o).1.cells, .bool (useX x t o).2], hp, false) := by
  have hf0 : x.f ≠ 0 := by omega
  have e75 := f75 (n + 2) x t o hp hf
  have e45 := f45 n x t o hp hf hl hl' hq hql
  rw [evalCall_at _ _ _ hh46 rfl Try.func46 rfl (Nat.le_of_ble_eq_true rfl) rfl]
  by_cases h : askX x t o
  · rw [decide_eq_true h] at e75
    have h' := h
    unfold askX at h'
    have e2 := td (a := t) x.f h'.2.2.1
    have d0 : 0 ≤ t / x.f := Int.ediv_nonneg h'.2.2.1 (by omega)
    have d1 : t / x.f ≤ t := Int.ediv_le_self x.f h'.2.2.1
    have w := wrap_id (x := t / x.f) (by omega)
    have hx : useX x t o = ({ x with fr := t / x.f, l := x.l ++ [⟨t / x.f, o, decide (0 < leftX x t o)⟩] }, decide (0 < leftX x t o)) := by
      unfold useX; rw [if_pos h]
    rw [hx]
    have hlen := flat_len Us.len x.l
    have hst := flat_all (f := Us.cells) (fun _ => rfl) x.l
    have hou := flat_out (f := Us.cells) (fun _ => rfl) x.l
    have hap : ∀ e : Us, (x.l ++ [e]).flatMap Us.cells = x.l.flatMap Us.cells ++ e.cells := fun e => by simp
    have l1 : x.l.length * 24 ≤ 140737488355328 := by omega
    have l2 : (x.l.length + 1) * 24 ≤ 140737488355328 := by omega
    simp [Ref.cells] at e75 e45
    simp only [Ref.cells, hap, List.length_append, List.length_singleton]
    generalize x.l.flatMap Us.cells = L at *
    simp [e75, e45, hf0, e2, w, hlen, l1, l2, hst, hou]
    rfl
  · rw [decide_eq_false h] at e75
    have hx : useX x t o = (x, false) := by unfold useX; rw [if_neg h]
    rw [hx]
    simp [Ref.cells] at e75
    simp [Ref.cells, e75]
def A0 : Acc := newA 10 [2]
def A1 : Acc := (useA A0 1 1).1
def A2 : Acc := (useA A1 2 1).1
def A3 : Acc := (useA A2 3 1).1
def A4 : Acc := (useA A3 10 1).1
instance (a : Acc) : Decidable a.ok := inferInstanceAs (Decidable (_ ∧ _))
instance (a : Acc) : Decidable a.small := inferInstanceAs (Decidable (∀ i, i < 8 → _))
theorem live38 (n : Nat) (hp : Heap) (hn : 8 < n) : evalCall Try.prog hints (n + 5) 38 [] hp = some (.bool true, hp ++ [A4.cells], true) := by
  obtain ⟨hp', e37⟩ := f37 (n + 2) 10 [2] hp (by simp) (by omega)
  have c : checkI 10 [2] = 0 := by decide
  rw [if_pos c] at e37
  have e1 := f40 n hp.length A0 1 1 (hp ++ [A0.cells]) (by simp) (by decide) (by decide) hn
  have e2 := f40 n hp.length A1 2 1 (hp ++ [A1.cells]) (by simp) (by decide) (by decide) hn
  have e3 := f40 n hp.length A2 3 1 (hp ++ [A2.cells]) (by simp) (by decide) (by decide) hn
  have e4 := f40 n hp.length A3 10 1 (hp ++ [A3.cells]) (by simp) (by decide) (by decide) hn
  have e5 := f42 (n + 2) hp.length A4 1 (hp ++ [A4.cells]) (by simp) (by decide)
  have e6 := f43 (n + 2) hp.length A4 1 (hp ++ [A4.cells]) (by simp) (by decide)
  have e7 := f47 (n + 3) hp.length A4 (hp ++ [A4.cells]) (by simp)
  have r1 : (useA A0 1 1).2 = true := by decide
  have r2 : (useA A1 2 1).2 = true := by decide
  have r3 : (useA A2 3 1).2 = false := by decide
  have r4 : (useA A3 10 1).2 = true := by decide
  have r5 : totI A4 1 = 3 := by decide
  have r6 : refI A4 1 = 1 := by decide
  have r7 : A4.fr = 1 := by decide
  have g1 : goI A0 1 1 := by decide
  have g2 : goI A1 2 1 := by decide
  have g3 : goI A2 3 1 := by decide
  have g4 : goI A3 10 1 := by decide
  rw [r1, decide_eq_true g1, ← A1] at e1
  rw [r2, decide_eq_true g2, ← A2] at e2
  rw [r3, decide_eq_true g3, ← A3] at e3
  rw [r4, decide_eq_true g4, ← A4] at e4
  rw [r5] at e5
  rw [r6] at e6
  rw [r7] at e7
  change _ = some (_, hp ++ [A0.cells], false) at e37
  rw [evalCall_at _ _ _ hh38 rfl Try.func38 rfl (Nat.le_of_ble_eq_true rfl) rfl]
  generalize A0.cells = a0 at *
  generalize A1.cells = a1 at *
  generalize A2.cells = a2 at *
  generalize A3.cells = a3 at *
  generalize A4.cells = a4 at *
  simp at e1 e2 e3 e4 e5 e6 e7 e37
  simp [e37, e1, e2, e3, e4, e5, e6, e7]
end Go.Proofs.Ytoipglmjnibdpaa
end

section
namespace Go.Proofs.Ytoipglmjnibdpaa
open Go Go.PS
structure Ask where
  t : Int
  o : Int
def Ask.cells (e : Ask) : List PV := [.int .i64 e.t, .int .i64 e.o]
theorem Ask.len (e : Ask) : e.cells.length = 2 := rfl
theorem ask_of (r : List PV) (h : Ty Try.prog 61 r) : ∃ a : Ask, r = a.cells ∧ True := by
  obtain ⟨parts, rfl, h1, h2⟩ := ty_struct Try.underlying61 h
  match parts, h1, h2 with
  | [p, q], _, h2 =>
    obtain ⟨a, rfl, _⟩ := ty_int Try.underlying3 (h2 0 _ _ rfl rfl)
    obtain ⟨b, rfl, _⟩ := ty_int Try.underlying3 (h2 1 _ _ rfl rfl)
    exact ⟨⟨a, b⟩, rfl, trivial⟩
structure Inv (f : Int) (q : List Int) (a : Acc) (L : List Us) (j : Nat) : Prop where
  ok : a.ok
  hf : a.f = f
  hn : a.n = q.length
  hq : ∀ i, a.q i = q.getD i 0
  gq : goodQ q = true
  q8 : q.length ≤ 8
  bd : ∀ i, i < 8 → (0 ≤ a.u i ∧ a.u i ≤ j) ∧ (0 ≤ a.t i ∧ a.t i ≤ j) ∧ (0 ≤ a.r i ∧ a.r i ≤ j)
  fr : ∀ e ∈ L, e.fr ≤ a.fr
  cu : ∀ i : Nat, i < 8 → cntU L a.fr ((i : Int) + 1) true = a.u i
theorem Inv.qb {f : Int} {q : List Int} {a : Acc} {L : List Us} {j : Nat} (h : Inv f q a L j) (i : Nat) : 0 ≤ a.q i ∧ a.q i ≤ 16 := by
  rw [h.hq]
  by_cases hi : i < q.length
  · have := List.all_eq_true.1 h.gq _ (List.getElem_mem hi)
    simp [hi] at this ⊢
    omega
  · simp [hi]
theorem Inv.small {f : Int} {q : List Int} {a : Acc} {L : List Us} {j : Nat} (h : Inv f q a L j) (hj : j ≤ 1000) : a.small := fun i hi => by
  have := h.bd i hi
  have := h.qb i
  omega
theorem cnt_append (l : List Us) (e : Us) (fr o : Int) (ok : Bool) : cntU (l ++ [e]) fr o ok = cntU l fr o ok + (if hitU fr o ok e = true then 1 else 0) := by
  unfold cntU
  rw [List.countP_append]
  simp [List.countP_cons]
  split <;> rfl
theorem cnt_zero (l : List Us) (fr o : Int) (ok : Bool) (h : ∀ e ∈ l, e.fr < fr) (hfr : 0 ≤ fr) : cntU l fr o ok = 0 := by
  unfold cntU
  rw [List.countP_eq_zero.2]
  · rfl
  · intro e he
    have := h e he
    simp [hitU]
    intro _ _
    omega
theorem div_mono0 {f : Int} (hf : 1 ≤ f) {t : Int} (ht : 0 ≤ t) : 0 ≤ t / f := Int.ediv_nonneg ht (by omega)
/-- The frame goes on. -/
theorem Inv.adv {f : Int} {q : List Int} {a : Acc} {L : List Us} {j : Nat} (h : Inv f q a L j) {t o : Int} (hg : goI a t o) : Inv f q (stepF a t) L j ∧ (stepF a t).fr = t / f := by
  have ht := div_mono0 h.ok.1.1 hg.1.2.2.1
  unfold stepF
  split
  · rename_i hlt
    refine ⟨⟨⟨h.ok.1, h.ok.2.1, ht⟩, h.hf, h.hn, h.hq, h.gq, h.q8, fun i hi => ?_, fun e he => ?_, fun i hi => ?_⟩, by show t / a.f = _; rw [h.hf]⟩
    · have := h.bd i hi
      simp [clearA, hi]
      omega
    · have := h.fr e he
      show e.fr ≤ t / a.f
      omega
    · show cntU L (t / a.f) _ true = (clearA a 8).u i
      rw [cnt_zero L _ _ _ (fun e he => by have := h.fr e he; omega) ht]
      simp [clearA, hi]
  · rename_i hlt
    have := hg.2
    exact ⟨h, by rw [← h.hf]; omega⟩
theorem idx {o : Int} {n : Int} (h1 : 1 ≤ o) (h2 : o ≤ n) (h3 : n ≤ 8) : ∃ i : Nat, i < 8 ∧ (o - 1).toNat = i ∧ o = (i : Int) + 1 := ⟨(o - 1).toNat, by omega, rfl, by omega⟩
/-- One is used. -/
theorem Inv.used {f : Int} {q : List Int} {a : Acc} {L : List Us} {j : Nat} (h : Inv f q a L j) {t o : Int} (hu : (useA a t o).2 = true) :
    goI a t o ∧ Inv f q (useA a t o).1 (L ++ [⟨t / f, o, true⟩]) (j + 1) ∧ cntU (L ++ [⟨t / f, o, true⟩]) (t / f) o true ≤ q.getD (o - 1).toNat 0 := by
  by_cases hg : goI a t o
  · refine ⟨hg, ?_⟩
    obtain ⟨hb, hfr⟩ := h.adv hg
    obtain ⟨i, hi, hio, rfl⟩ := idx hg.1.1 hg.1.2.1 h.ok.2.1.2
    unfold useA at hu ⊢
    rw [if_pos hg] at hu ⊢
    simp only [hio] at hu ⊢
    split at hu
    · cases hu
    rename_i hlt
    rw [if_neg hlt]
    generalize stepF a t = b at *
    have hcu := hb.cu i hi
    rw [hfr] at hcu
    have key : ∀ k : Nat, cntU (L ++ [⟨t / f, (i : Int) + 1, true⟩]) (t / f) ((k : Int) + 1) true = cntU L (t / f) ((k : Int) + 1) true + (if k = i then 1 else 0) := fun k => by
      rw [cnt_append]
      by_cases hk : k = i
      · subst hk; simp [hitU]
      · have : ¬ (i : Int) + 1 = (k : Int) + 1 := by omega
        simp [hitU, hk, this]
    refine ⟨⟨hb.ok, hb.hf, hb.hn, hb.hq, hb.gq, hb.q8, fun k hk => ?_, fun e he => ?_, fun k hk => ?_⟩, ?_⟩
    · have h1 := hb.bd k hk
      have h2 := hb.bd i hi
      simp only [upd]
      by_cases hki : k = i
      · subst hki; simp only [if_true]; omega
      · simp only [if_neg hki]; omega
    · rcases List.mem_append.1 he with he | he
      · exact hb.fr e he
      · simp at he; subst he; show t / f ≤ b.fr; omega
    · show cntU _ b.fr _ true = upd b.u i (b.u i + 1) k
      have := hb.cu k hk
      rw [hfr] at this ⊢
      rw [key, this]
      unfold upd
      by_cases hki : k = i
      · subst hki; simp
      · simp [hki]
    · rw [key, hcu]
      have := hb.hq i
      simp
      simp at this
      omega
  · unfold useA at hu; rw [if_neg hg] at hu; cases hu
/-- One is refused, or not asked. -/
theorem Inv.refused {f : Int} {q : List Int} {a : Acc} {L : List Us} {j : Nat} (h : Inv f q a L j) {t o : Int} (hu : (useA a t o).2 = false) :
    Inv f q (useA a t o).1 L (j + 1) := by
  have mono : Inv f q a L (j + 1) := { h with bd := fun i hi => by have := h.bd i hi; omega }
  by_cases hg : goI a t o
  · obtain ⟨hb, hfr⟩ := h.adv hg
    obtain ⟨i, hi, hio, rfl⟩ := idx hg.1.1 hg.1.2.1 h.ok.2.1.2
    unfold useA at hu ⊢
    rw [if_pos hg] at hu ⊢
    simp only [hio] at hu ⊢
    split at hu
    · rename_i hlt
      rw [if_pos hlt]
      refine ⟨hb.ok, hb.hf, hb.hn, hb.hq, hb.gq, hb.q8, fun k hk => ?_, hb.fr, hb.cu⟩
      have h1 := hb.bd k hk
      have h2 := hb.bd i hi
      simp only [upd]
      by_cases hki : k = i
      · subst hki; simp only [if_true]; omega
      · simp only [if_neg hki]; omega
    · cases hu
  · unfold useA; rw [if_neg hg]; exact mono
theorem Inv.new (f : Int) (q : List Int) (hc : checkI f q = 0) : Inv f q (newA f q) [] 0 := by
  unfold checkI at hc
  split at hc
  · rename_i h1
    split at hc
    · cases hc
    · rename_i h2
      split at hc
      · rename_i h3
        simp [rightB] at h1
        refine ⟨⟨h1, ⟨?_, ?_⟩, by simp [newA]⟩, rfl, rfl, fun i => rfl, h3, by omega, fun i hi => by simp [newA], fun e he => by simp at he, fun i hi => by simp [newA, cntU]⟩
        · simp [newA]
        · simp [newA]; omega
      · cases hc
  · cases hc
end Go.Proofs.Ytoipglmjnibdpaa
end

section
namespace Go.Proofs.Ytoipglmjnibdpaa
open Go Go.PS
structure Both (f : Int) (q : List Int) (a : Acc) (x : Ref) (j : Nat) : Prop where
  inv : Inv f q a x.l j
  xf : x.f = f
  xq : x.qs = q
  xr : x.fr = a.fr
  xl : x.l.length ≤ j
  tt : ∀ i : Nat, i < 8 → cntU x.l (-1) ((i : Int) + 1) true = a.t i
  tr : ∀ i : Nat, i < 8 → cntU x.l (-1) ((i : Int) + 1) false = a.r i
  ow : ∀ e ∈ x.l, 1 ≤ e.o ∧ e.o ≤ a.n
theorem Both.ask {f : Int} {q : List Int} {a : Acc} {x : Ref} {j : Nat} (h : Both f q a x j) (t o : Int) : askX x t o ↔ goI a t o := by
  unfold askX goI askI
  rw [h.xf, h.xq, h.xr, h.inv.hn, h.inv.hf]
  omega
theorem Both.left {f : Int} {q : List Int} {a : Acc} {x : Ref} {j : Nat} (h : Both f q a x j) (t o : Int) : leftX x t o = leftA a t o := by
  unfold leftX leftA
  by_cases hg : goI a t o
  · rw [if_pos ((h.ask t o).2 hg), if_pos hg]
    obtain ⟨hb, hfr⟩ := h.inv.adv hg
    obtain ⟨i, hi, hio, rfl⟩ := idx hg.1.1 hg.1.2.1 h.inv.ok.2.1.2
    rw [hio, hb.hq, ← hb.cu i hi, hfr, h.xq, h.xf]
  · rw [if_neg (fun hh => hg ((h.ask t o).1 hh)), if_neg hg]
theorem useA_eq (a : Acc) (t o : Int) (hg : goI a t o) : useA a t o = (if (stepF a t).q (o - 1).toNat ≤ (stepF a t).u (o - 1).toNat then ({ stepF a t with r := upd (stepF a t).r (o - 1).toNat ((stepF a t).r (o - 1).toNat + 1) }, false) else ({ stepF a t with u := upd (stepF a t).u (o - 1).toNat ((stepF a t).u (o - 1).toNat + 1), t := upd (stepF a t).t (o - 1).toNat ((stepF a t).t (o - 1).toNat + 1) }, true)) := by
  unfold useA; rw [if_pos hg]
theorem stepF_t (a : Acc) (t : Int) : (stepF a t).t = a.t := by unfold stepF; split <;> rfl
theorem stepF_r (a : Acc) (t : Int) : (stepF a t).r = a.r := by unfold stepF; split <;> rfl
theorem stepF_n (a : Acc) (t : Int) : (stepF a t).n = a.n := by unfold stepF; split <;> rfl
theorem hit_all (o : Int) (ok : Bool) (k : Int) (i : Nat) (b : Bool) : hitU (-1) ((i : Int) + 1) b ⟨k, o, ok⟩ = (decide (o = (i : Int) + 1) && (ok == b)) := by
  simp [hitU]
theorem Both.use {f : Int} {q : List Int} {a : Acc} {x : Ref} {j : Nat} (h : Both f q a x j) (t o : Int) :
    (useX x t o).2 = (useA a t o).2 ∧ Both f q (useA a t o).1 (useX x t o).1 (j + 1) := by
  by_cases hg : goI a t o
  · have hx : useX x t o = ({ x with fr := t / f, l := x.l ++ [⟨t / f, o, decide (0 < leftA a t o)⟩] }, decide (0 < leftA a t o)) := by
      unfold useX; rw [if_pos ((h.ask t o).2 hg), h.left, h.xf]
    rw [hx]
    have hown : 1 ≤ o ∧ o ≤ a.n := ⟨hg.1.1, hg.1.2.1⟩
    obtain ⟨hb, hfr⟩ := h.inv.adv hg
    obtain ⟨i, hi, hio, hoi⟩ := idx hg.1.1 hg.1.2.1 h.inv.ok.2.1.2
    have hue := useA_eq a t o hg
    rw [hio] at hue
    have hla : leftA a t o = (stepF a t).q i - (stepF a t).u i := by unfold leftA; rw [if_pos hg, hio]
    have ht : (useA a t o).2 = decide (0 < leftA a t o) := by
      rw [hue, hla]; split
      · simp; omega
      · simp; omega
    refine ⟨ht.symm, ?_⟩
    have cnt : ∀ (k : Nat) (b : Bool), cntU (x.l ++ [⟨t / f, o, decide (0 < leftA a t o)⟩]) (-1) ((k : Int) + 1) b = cntU x.l (-1) ((k : Int) + 1) b + (if k = i ∧ decide (0 < leftA a t o) = b then 1 else 0) := fun k b => by
      rw [cnt_append, hit_all]
      congr 1
      by_cases hk : k = i
      · subst hk
        have : o = (k : Int) + 1 := hoi
        simp [this]
      · have : ¬ o = (k : Int) + 1 := by omega
        simp [this, hk]
    by_cases hl : 0 < leftA a t o
    · rw [decide_eq_true hl] at ht cnt ⊢
      have hu := h.inv.used ht
      have hn : ¬ (stepF a t).q i ≤ (stepF a t).u i := by omega
      rw [if_neg hn] at hue
      refine ⟨hu.2.1, h.xf, h.xq, ?_, by have := h.xl; simp; omega, fun k hk => ?_, fun k hk => ?_, fun e he => ?_⟩
      · rw [hue]; exact hfr.symm
      · rw [cnt, h.tt k hk, hue]
        show _ = upd (stepF a t).t i _ k
        rw [stepF_t]; unfold upd
        by_cases hki : k = i
        · subst hki; simp
        · simp [hki]
      · rw [cnt, h.tr k hk, hue]
        show _ = (stepF a t).r k
        rw [stepF_r]; simp
      · have : (useA a t o).1.n = a.n := by rw [hue]; exact stepF_n a t
        rw [this]
        rcases List.mem_append.1 he with he | he
        · exact h.ow e he
        · simp at he; subst he; exact hown
    · rw [decide_eq_false hl] at ht cnt ⊢
      have hr := h.inv.refused ht
      have hn : (stepF a t).q i ≤ (stepF a t).u i := by omega
      rw [if_pos hn] at hue
      have hfr' : (useA a t o).1.fr = t / f := by rw [hue]; exact hfr
      refine ⟨⟨hr.ok, hr.hf, hr.hn, hr.hq, hr.gq, hr.q8, hr.bd, fun e he => ?_, fun k hk => ?_⟩, h.xf, h.xq, hfr'.symm, by have := h.xl; simp; omega, fun k hk => ?_, fun k hk => ?_, fun e he => ?_⟩
      · rcases List.mem_append.1 he with he | he
        · exact hr.fr e he
        · simp at he; subst he; rw [hfr']; exact Int.le_refl _
      · rw [cnt_append, hr.cu k hk]; simp [hitU]
      · rw [cnt, h.tt k hk, hue]
        show _ = (stepF a t).t k
        rw [stepF_t]; simp
      · rw [cnt, h.tr k hk, hue]
        show _ = upd (stepF a t).r i _ k
        rw [stepF_r]; unfold upd
        by_cases hki : k = i
        · subst hki; simp
        · simp [hki]
      · have : (useA a t o).1.n = a.n := by rw [hue]; exact stepF_n a t
        rw [this]
        rcases List.mem_append.1 he with he | he
        · exact h.ow e he
        · simp at he; subst he; exact hown
  · have hx : useX x t o = (x, false) := by unfold useX; rw [if_neg (fun hh => hg ((h.ask t o).1 hh))]
    have ha : useA a t o = (a, false) := by unfold useA; rw [if_neg hg]
    have hr := h.inv.refused (t := t) (o := o) (by rw [ha])
    rw [ha] at hr
    rw [hx, ha]
    exact ⟨rfl, { h with inv := hr, xl := by have := h.xl; show x.l.length ≤ j + 1; omega }⟩
theorem Both.tot {f : Int} {q : List Int} {a : Acc} {x : Ref} {j : Nat} (h : Both f q a x j) (o : Int) : cntU x.l (-1) o true = totI a o ∧ cntU x.l (-1) o false = refI a o := by
  unfold totI refI
  by_cases hi : inA a o
  · obtain ⟨i, hi8, hio, rfl⟩ := idx hi.1 hi.2 h.inv.ok.2.1.2
    rw [if_pos hi, if_pos hi, hio]
    exact ⟨h.tt i hi8, h.tr i hi8⟩
  · rw [if_neg hi, if_neg hi]
    have : ∀ b, cntU x.l (-1) o b = 0 := fun b => by
      unfold cntU
      rw [List.countP_eq_zero.2]
      · rfl
      · intro e he
        have := h.ow e he
        unfold inA at hi
        simp [hitU]
        intro he; subst he; exact (hi this).elim
    exact ⟨this _, this _⟩
theorem Both.new (f : Int) (q : List Int) (hc : checkI f q = 0) : Both f q (newA f q) ⟨f, q, 0, []⟩ 0 :=
  ⟨Inv.new f q hc, rfl, rfl, rfl, by simp, fun i hi => by simp [newA, cntU], fun i hi => by simp [newA, cntU], fun e he => by simp at he⟩
end Go.Proofs.Ytoipglmjnibdpaa
end

section
namespace Go.Proofs.Ytoipglmjnibdpaa
open Go Go.PS
structure Bs (f : Int) (q : List Int) (a : Acc) (j : Nat) : Prop where
  ok : a.ok
  hf : a.f = f
  hn : a.n = q.length
  hq : ∀ i, a.q i = q.getD i 0
  gq : goodQ q = true
  q8 : q.length ≤ 8
  bd : ∀ i, i < 8 → (0 ≤ a.u i ∧ a.u i ≤ j) ∧ (0 ≤ a.t i ∧ a.t i ≤ j) ∧ (0 ≤ a.r i ∧ a.r i ≤ j)
theorem Bs.qb {f : Int} {q : List Int} {a : Acc} {j : Nat} (h : Bs f q a j) (i : Nat) : 0 ≤ a.q i ∧ a.q i ≤ 16 := by
  rw [h.hq]
  by_cases hi : i < q.length
  · have := List.all_eq_true.1 h.gq _ (List.getElem_mem hi)
    simp [hi] at this ⊢
    omega
  · simp [hi]
theorem Bs.small {f : Int} {q : List Int} {a : Acc} {j : Nat} (h : Bs f q a j) (hj : j ≤ 1000) : a.small := fun i hi => by
  have := h.bd i hi
  have := h.qb i
  omega
theorem Bs.mono {f : Int} {q : List Int} {a : Acc} {j k : Nat} (h : Bs f q a j) (hk : j ≤ k) : Bs f q a k := { h with bd := fun i hi => by have := h.bd i hi; omega }
theorem Bs.step {f : Int} {q : List Int} {a : Acc} {j : Nat} (h : Bs f q a j) {t : Int} (ht : 0 ≤ t) : Bs f q (stepF a t) j := by
  have ht := div_mono0 h.ok.1.1 ht
  unfold stepF
  split
  · exact ⟨⟨h.ok.1, h.ok.2.1, ht⟩, h.hf, h.hn, h.hq, h.gq, h.q8, fun i hi => by have := h.bd i hi; simp [clearA, hi]; omega⟩
  · exact h
theorem Bs.use {f : Int} {q : List Int} {a : Acc} {j : Nat} (h : Bs f q a j) (t o : Int) : Bs f q (useA a t o).1 (j + 1) := by
  by_cases hg : goI a t o
  · have hb := h.step hg.1.2.2.1
    rw [useA_eq a t o hg]
    obtain ⟨i, hi, hio, hoi⟩ := idx hg.1.1 hg.1.2.1 h.ok.2.1.2
    rw [hio]
    split
    · refine ⟨hb.ok, hb.hf, hb.hn, hb.hq, hb.gq, hb.q8, fun k hk => ?_⟩
      have h1 := hb.bd k hk
      have h2 := hb.bd i hi
      simp only [upd]
      by_cases hki : k = i
      · subst hki; simp only [if_true]; omega
      · simp only [if_neg hki]; omega
    · refine ⟨hb.ok, hb.hf, hb.hn, hb.hq, hb.gq, hb.q8, fun k hk => ?_⟩
      have h1 := hb.bd k hk
      have h2 := hb.bd i hi
      simp only [upd]
      by_cases hki : k = i
      · subst hki; simp only [if_true]; omega
      · simp only [if_neg hki]; omega
  · unfold useA; rw [if_neg hg]; exact h.mono (by omega)
theorem Bs.new (f : Int) (q : List Int) (hc : checkI f q = 0) : Bs f q (newA f q) 0 := by
  have h := Inv.new f q hc
  exact ⟨h.ok, h.hf, h.hn, h.hq, h.gq, h.q8, h.bd⟩
structure Ap (f : Int) (q : List Int) (a b : Acc) (ow : Int) (T : Int) (j : Nat) : Prop where
  ba : Bs f q a j
  bb : Bs f q b j
  frT : a.fr ≤ T / f
  brT : b.fr ≤ T / f
  ab : ∀ i : Nat, i < 8 → ow = (i : Int) + 1 → b.fr ≤ a.fr ∧ a.u i = (if b.fr = a.fr then b.u i else 0) ∧ a.t i = b.t i ∧ a.r i = b.r i
theorem stepF_fr (a : Acc) (t : Int) (h : a.fr ≤ t / a.f) : (stepF a t).fr = t / a.f := by
  unfold stepF; split
  · rfl
  · omega
theorem stepF_u (a : Acc) (t : Int) (i : Nat) (hi : i < 8) : (stepF a t).u i = if a.fr < t / a.f then 0 else a.u i := by
  unfold stepF; split <;> simp [clearA, hi]
theorem stepF_q (a : Acc) (t : Int) : (stepF a t).q = a.q := by unfold stepF; split <;> rfl
theorem Ap.use {f : Int} {q : List Int} {a b : Acc} {ow T T' : Int} {j : Nat} (h : Ap f q a b ow T j) (h0 : 0 ≤ T) (hT : T ≤ T') (hT' : T' ≤ 1000000) (o : Int) :
    Ap f q (useA a T' o).1 (if o = ow then (useA b T' ow).1 else b) ow T' (j + 1) ∧ (o = ow → (useA a T' o).2 = (useA b T' ow).2) := by
  have hf1 : 0 < f := by have := h.ba.ok.1.1; rw [h.ba.hf] at this; omega
  have hk : T / f ≤ T' / f := Int.ediv_le_ediv hf1 hT
  have gA : ∀ o, goI a T' o ↔ (1 ≤ o ∧ o ≤ q.length) := fun o => by
    unfold goI askI
    rw [h.ba.hn, h.ba.hf]
    have := h.frT
    omega
  have gB : ∀ o, goI b T' o ↔ (1 ≤ o ∧ o ≤ q.length) := fun o => by
    unfold goI askI
    rw [h.bb.hn, h.bb.hf]
    have := h.brT
    omega
  have ha := h.ba.use T' o
  have hb := h.bb.use T' ow
  have hfrA := stepF_fr a T' (by rw [h.ba.hf]; have := h.frT; omega)
  have hfrB := stepF_fr b T' (by rw [h.bb.hf]; have := h.brT; omega)
  rw [h.ba.hf] at hfrA
  rw [h.bb.hf] at hfrB
  have frA : (useA a T' o).1.fr = if 1 ≤ o ∧ o ≤ q.length then T' / f else a.fr := by
    by_cases hg : goI a T' o
    · rw [if_pos ((gA o).1 hg), useA_eq a T' o hg]
      split <;> exact hfrA
    · rw [if_neg (fun hh => hg ((gA o).2 hh))]
      unfold useA; rw [if_neg hg]
  have frB : (useA b T' ow).1.fr = if 1 ≤ ow ∧ ow ≤ q.length then T' / f else b.fr := by
    by_cases hg : goI b T' ow
    · rw [if_pos ((gB ow).1 hg), useA_eq b T' ow hg]
      split <;> exact hfrB
    · rw [if_neg (fun hh => hg ((gB ow).2 hh))]
      unfold useA; rw [if_neg hg]
  by_cases ho : o = ow
  · subst ho
    simp only [if_true, forall_const]
    by_cases hr : 1 ≤ o ∧ o ≤ q.length
    · obtain ⟨i, hi, hio, hoi⟩ := idx hr.1 hr.2 (by have := h.ba.q8; omega)
      obtain ⟨e1, e2, e3, e4⟩ := h.ab i hi hoi
      have eA := useA_eq a T' o ((gA o).2 hr)
      have eB := useA_eq b T' o ((gB o).2 hr)
      rw [hio] at eA eB
      have uu : (stepF a T').u i = (stepF b T').u i := by
        rw [stepF_u a T' i hi, stepF_u b T' i hi, h.ba.hf, h.bb.hf]
        have := h.frT
        by_cases c : a.fr < T' / f
        · rw [if_pos c, if_pos (by omega)]
        · rw [if_neg c, e2]
          by_cases c2 : b.fr = a.fr
          · rw [if_pos c2, if_neg (by omega)]
          · rw [if_neg c2, if_pos (by omega)]
      have qq : (stepF a T').q i = (stepF b T').q i := by rw [stepF_q, stepF_q, h.ba.hq, h.bb.hq]
      have tt : (stepF a T').t i = (stepF b T').t i := by rw [stepF_t, stepF_t, e3]
      have rr : (stepF a T').r i = (stepF b T').r i := by rw [stepF_r, stepF_r, e4]
      rw [if_pos hr] at frA frB
      refine ⟨⟨ha, hb, by omega, by omega, fun k hk hok => ?_⟩, ?_⟩
      · have : k = i := by omega
        subst this
        rw [frA, frB]
        refine ⟨Int.le_refl _, ?_, ?_, ?_⟩
        · rw [if_pos rfl, eA, eB, qq, uu]
          split <;> simp [upd, uu]
        · rw [eA, eB, qq, uu]
          split <;> simp [upd, tt]
        · rw [eA, eB, qq, uu]
          split <;> simp [upd, rr]
      · rw [eA, eB, qq, uu]
        split <;> rfl
    · have eA : useA a T' o = (a, false) := by unfold useA; rw [if_neg (fun hh => hr ((gA o).1 hh))]
      have eB : useA b T' o = (b, false) := by unfold useA; rw [if_neg (fun hh => hr ((gB o).1 hh))]
      rw [eA, eB]
      refine ⟨⟨h.ba.mono (by omega), h.bb.mono (by omega), by have := h.frT; dsimp only; omega, by have := h.brT; dsimp only; omega, h.ab⟩, rfl⟩
  · rw [if_neg ho]
    refine ⟨⟨ha, h.bb.mono (by omega), ?_, by have := h.brT; omega, fun i hi hoi => ?_⟩, fun h => (ho h).elim⟩
    · rw [frA]; have := h.frT; split <;> omega
    · obtain ⟨e1, e2, e3, e4⟩ := h.ab i hi hoi
      rw [frA]
      by_cases hr : 1 ≤ o ∧ o ≤ q.length
      · obtain ⟨k, hk8, hko, hok⟩ := idx hr.1 hr.2 (by have := h.ba.q8; omega)
        have hki : i ≠ k := fun e => ho (by omega)
        have eA := useA_eq a T' o ((gA o).2 hr)
        rw [hko] at eA
        rw [if_pos hr]
        have := h.frT
        have uu : (useA a T' o).1.u i = (stepF a T').u i := by
          rw [eA]; split <;> simp [upd, hki]
        have tt : (useA a T' o).1.t i = a.t i := by
          rw [eA]; split <;> simp [upd, hki, stepF_t]
        have rr : (useA a T' o).1.r i = a.r i := by
          rw [eA]; split <;> simp [upd, hki, stepF_r]
        refine ⟨by omega, ?_, by rw [tt, e3], by rw [rr, e4]⟩
        rw [uu, stepF_u a T' i hi, h.ba.hf]
        by_cases c : a.fr < T' / f
        · rw [if_pos c, if_neg (by omega)]
        · have : a.fr = T' / f := by omega
          rw [if_neg c, e2, this]
      · have eA : useA a T' o = (a, false) := by unfold useA; rw [if_neg (fun hh => hr ((gA o).1 hh))]
        rw [if_neg hr, eA]
        exact ⟨e1, e2, e3, e4⟩
theorem Ap.tot {f : Int} {q : List Int} {a b : Acc} {ow T : Int} {j : Nat} (h : Ap f q a b ow T j) : totI a ow = totI b ow ∧ refI a ow = refI b ow := by
  have ia : inA a ow ↔ 1 ≤ ow ∧ ow ≤ q.length := by unfold inA; rw [h.ba.hn]
  have ib : inA b ow ↔ 1 ≤ ow ∧ ow ≤ q.length := by unfold inA; rw [h.bb.hn]
  unfold totI refI
  by_cases hr : 1 ≤ ow ∧ ow ≤ q.length
  · obtain ⟨i, hi, hio, hoi⟩ := idx hr.1 hr.2 (by have := h.ba.q8; omega)
    obtain ⟨_, _, e3, e4⟩ := h.ab i hi hoi
    rw [if_pos (ia.2 hr), if_pos (ib.2 hr), if_pos (ia.2 hr), if_pos (ib.2 hr), hio]
    exact ⟨e3, e4⟩
  · rw [if_neg (fun hh => hr (ia.1 hh)), if_neg (fun hh => hr (ib.1 hh)), if_neg (fun hh => hr (ia.1 hh)), if_neg (fun hh => hr (ib.1 hh))]
    exact ⟨rfl, rfl⟩
theorem Ap.new (f : Int) (q : List Int) (ow : Int) (hc : checkI f q = 0) : Ap f q (newA f q) (newA f q) ow 0 0 :=
  ⟨Bs.new f q hc, Bs.new f q hc, by simp [newA], by simp [newA], fun i hi ho => ⟨Int.le_refl _, by simp, rfl, rfl⟩⟩
end Go.Proofs.Ytoipglmjnibdpaa
end

section
namespace Go.Proofs.Ytoipglmjnibdpaa
open Go Go.PS
structure FSt where
  j : Nat
  b : Acc
  d : Bool
set_option maxHeartbeats 4000000 in
theorem f10 (n : Nat) (f : Int) (q : List Int) (l : List Ask) (hq : q.length ≤ 9223372036854775807) (hl : l.length ≤ 9223372036854775807) (hn : 100 < n) :
    ∃ hp d, evalCall Try.prog hints (n + 20) 10 [.int .i64 f, .sl .sh q.length (q.map (PV.int .i64)), .sl .sh l.length (l.flatMap Ask.cells)] [] = some (.bool true, hp, d) := by
  apply of_map
  obtain ⟨m, hm⟩ : ∃ m, m = min q.length 12 := ⟨_, rfl⟩
  obtain ⟨q', hq'⟩ : ∃ q', q' = q.take m := ⟨_, rfl⟩
  have hm' : (if (12 : Int) < q.length then 12 else (q.length : Int)) = (m : Int) := by split <;> omega
  have ht : (q.map (PV.int .i64)).take m = q'.map (PV.int .i64) := by rw [hq', List.map_take]
  have hql : q'.length = m := by rw [hq', List.length_take]; omega
  obtain ⟨hp', e37⟩ := f37 (n + 17) f q' [] (by omega) (by omega)
  have e39 := fun hp => f39 (n + 17) f q' hp (by omega) (by omega)
  rw [evalCall_at _ _ _ hh10 rfl Try.func10 rfl (Nat.le_of_ble_eq_true rfl) rfl]
  have hm2 : (m : Int) ≤ q.length := by omega
  rw [hql] at e37 e39
  by_cases hc : checkI f q' = 0
  · rw [if_pos hc] at e37
    have hinv := Bs.new f q' hc
    obtain ⟨a, ha⟩ : ∃ a, a = newA f q' := ⟨_, rfl⟩
    rw [← ha] at e37 hinv
    have e48 := f48 (n + 18) 0 a [a.cells] rfl
    have hz : ∀ o, totI a o = 0 ∧ refI a o = 0 := fun o => by
      rw [ha]; unfold totI refI; simp [newA]
    have hfr0 : a.fr = 0 := by rw [ha]; rfl
    have w0 := wrap_id (x := 0) (by omega)
    simp at e37
    simp [hm', hm2, ht, e37, e48]
    generalize hit : iter _ _ _ = r
    refine iter_elim hit (fun x : FSt => { fr := [(2, .sl .sh l.length (l.flatMap Ask.cells)), (7, .ptr (.heap 0) none 0), (9, .ptr (.heap 1) none 0), (10, .nilp), (11, .int .i64 x.j)], hp := [a.cells, x.b.cells], base := 0, dirty := x.d })
      (fun x => (x.j ≤ l.length ∧ x.j ≤ 40) ∧ Bs f q' x.b x.j) (fun x => 40 - x.j)
      (fun x : FSt => (.exit 0, { fr := [(2, .sl .sh l.length (l.flatMap Ask.cells)), (7, .ptr (.heap 0) none 0), (9, .ptr (.heap 1) none 0), (10, .nilp), (11, .int .i64 x.j), (48, .bool false)], hp := [a.cells, x.b.cells], base := 0, dirty := x.d })) (fun x => True) ⟨0, a, false⟩ rfl ⟨by simp, hinv⟩ (by simp; omega) ?_ ?_
    · rintro ⟨j, b, d⟩ ⟨⟨h1, h2⟩, h4⟩
      dsimp only at h1 h2 h4 ⊢
      by_cases c1 : j < l.length
      · by_cases c2 : (j : Int) < 40
        · have g0 := flat_get Ask.len l j c1 0 (by omega)
          have g1 := flat_get Ask.len l j c1 1 (by omega)
          have hlen := flat_len Ask.len l
          simp only [Ask.cells, Nat.add_zero] at g0 g1
          generalize l[j] = e at g0 g1
          simp at g0 g1
          have w := wrap_id (x := (j : Int) + 1) (by omega)
          left
          have hb := h4.use e.t e.o
          have e40 := f40 (n + 15) 1 b e.t e.o [a.cells, b.cells] rfl h4.ok (h4.small (by omega)) (by omega)
          have hnb : decide (goI b e.t e.o) = false → (useA b e.t e.o).1 = b := fun h => by
            unfold useA; rw [if_neg (of_decide_eq_false h)]
          generalize useA b e.t e.o = B at *
          obtain ⟨B, y⟩ := B
          dsimp only at hb hnb e40
          generalize decide (goI b e.t e.o) = gb at *
          have e42 := f42 (n + 17) 0 a e.o [a.cells, B.cells] rfl hinv.ok
          have e43 := f43 (n + 17) 0 a e.o [a.cells, B.cells] rfl hinv.ok
          have e47 := f47 (n + 18) 0 a [a.cells, B.cells] rfl
          rw [(hz e.o).1] at e42
          rw [(hz e.o).2] at e43
          rw [hfr0] at e47
          refine ⟨⟨j + 1, B, d || gb⟩, ?_, ⟨⟨by dsimp only; omega, by dsimp only; omega⟩, hb⟩, by dsimp only; omega⟩
          cases gb with
          | true => simp [-getElem?_pos, List.getElem?_cons_zero, c1, c2, g0, g1, hlen, w, e40, e42, e43, e47, w0, f40nil, f44nil]
          | false =>
            obtain rfl := hnb rfl
            simp [-getElem?_pos, List.getElem?_cons_zero, c1, c2, g0, g1, hlen, w, e40, e42, e43, e47, w0, f40nil, f44nil]
        · right
          exact ⟨⟨j, b, d⟩, by simp [c1, c2], by simp, trivial⟩
      · right
        exact ⟨⟨j, b, d⟩, by simp [c1], by simp, trivial⟩
    · rintro ⟨j, b, d⟩ rfl h4
      have e38 := live38 (n + 14) [a.cells, b.cells] (by omega)
      simp [e38, f42nil, f43nil, f47nil, f48nil, w0]
  · rw [if_neg hc] at e37
    have e38 := live38 (n + 14) [] (by omega)
    simp [hm', hm2, ht, e37, e38, e39]
end Go.Proofs.Ytoipglmjnibdpaa
end
