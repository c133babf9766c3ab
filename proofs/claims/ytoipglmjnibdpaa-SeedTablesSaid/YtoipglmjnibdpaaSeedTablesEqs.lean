/-
  What functions of this program compute, as equations about the evaluator. No condition but those stated.
-/
import Derived.Test.YtoipglmjnibdpaaFacts
set_option linter.all false
section
namespace Go.Proofs.Ytoipglmjnibdpaa
open Go Go.PS
theorem f15 (n : Nat) (a : Int) (hp : Heap) :
    evalCall Try.prog hints (n + 1) 15 [.int .i64 a] hp = some (.ptr (.heap hp.length) none 0, hp ++ [[.int .u64 (a % 281474976710656)]], false) := by
  have h := tm (a := a % 18446744073709551616) 281474976710656 (by omega)
  rw [evalCall_at _ _ _ hh15 rfl Try.func15 rfl (Nat.le_of_ble_eq_true rfl) rfl]
  simp [h]
theorem f16 (n : Nat) (a : Int) (hp : Heap) :
    evalCall Try.prog hints (n + 1) 16 [.int .i64 a] hp = some (.int .i64 (a % 281474976710656), hp, false) := by
  rw [evalCall_at _ _ _ hh16 rfl Try.func16 rfl (Nat.le_of_ble_eq_true rfl) rfl]
  by_cases h : 0 ≤ a
  · have h1 := tm 281474976710656 h
    have h2 : ¬ a % 281474976710656 < 0 := by omega
    simp [h1, h2]
  · obtain ⟨r, hr⟩ : ∃ r, r = a.tmod 281474976710656 := ⟨_, rfl⟩
    have h1 : r = - ((-a) % 281474976710656) := by
      rw [hr, ← tm _ (by omega), Int.neg_tmod, Int.neg_neg]
    by_cases h2 : r < 0
    · simp [← hr, h2, wrap_id (x := r + 281474976710656) (by omega)]
      omega
    · simp [← hr, h2]
      omega
def nx (s : Int) : Int := (s * 25214903917 + 11) % 281474976710656
theorem nx_lt (s : Int) : 0 ≤ nx s ∧ nx s < 281474976710656 := by unfold nx; omega
theorem f18nil (n : Nat) (hp : Heap) : evalCall Try.prog hints (n + 1) 18 [.nilp] hp = some (.int .i64 0, hp, false) := by
  rw [evalCall_at _ _ _ hh18 rfl Try.func18 rfl (Nat.le_of_ble_eq_true rfl) rfl]
  simp
theorem f18 (n : Nat) (i : Nat) (s : Int) (hp : Heap) (hi : hp[i]? = some [.int .u64 s]) (hs : 0 ≤ s) :
    evalCall Try.prog hints (n + 1) 18 [.ptr (.heap i) none 0] hp = some (.int .i64 (nx s), hp.set i [.int .u64 (nx s)], true) := by
  have hl : i < hp.length := (List.getElem?_eq_some_iff.1 hi).1
  have hset : ∀ x, (hp.set i x)[i]? = some x := fun x => List.getElem?_set_self hl
  have e : (s * 25214903917 + 11) % 18446744073709551616 % 281474976710656 = nx s := by unfold nx; omega
  have e' : (s * 25214903917 + 11) % 281474976710656 = nx s := by unfold nx; omega
  have w := wrap_id (x := nx s) (by have := nx_lt s; omega)
  rw [evalCall_at _ _ _ hh18 rfl Try.func18 rfl (Nat.le_of_ble_eq_true rfl) rfl]
  simp [hi, e, e', w, hset]
  exact hl
def dr (x n : Int) : Int := if n < 1 ∨ 65536 < n then 0 else x / 65536 % n
theorem f19nil (n : Nat) (k : Int) (hp : Heap) : evalCall Try.prog hints (n + 2) 19 [.nilp, .int .i64 k] hp = some (.int .i64 0, hp, false) := by
  rw [evalCall_at _ _ _ hh19 rfl Try.func19 rfl (Nat.le_of_ble_eq_true rfl) rfl]
  by_cases h1 : k < 1
  · simp [h1, f18nil]
  by_cases h2 : 65536 < k
  · simp [h1, h2, f18nil]
  have h3 : k ≠ 0 := by omega
  simp [h1, h2, h3, f18nil]
theorem f19 (n : Nat) (i : Nat) (s k : Int) (hp : Heap) (hi : hp[i]? = some [.int .u64 s]) (hs : 0 ≤ s) :
    evalCall Try.prog hints (n + 2) 19 [.ptr (.heap i) none 0, .int .i64 k] hp = some (.int .i64 (dr (nx s) k), hp.set i [.int .u64 (nx s)], true) := by
  have hn := nx_lt s
  have e := f18 n i s hp hi hs
  have e1 := fd (a := nx s) (b := 65536) (by omega)
  have e2 := tm (a := nx s / 65536) k (by omega)
  rw [evalCall_at _ _ _ hh19 rfl Try.func19 rfl (Nat.le_of_ble_eq_true rfl) rfl]
  by_cases h1 : k < 1
  · simp [h1, e, dr, e1]
  by_cases h2 : 65536 < k
  · simp [h1, h2, e, dr, e1]
  have h3 : k ≠ 0 := by omega
  simp [h1, h2, h3, e, e1, e2, dr, IntKind.bits]
theorem f20 (n : Nat) (x k : Int) (hp : Heap) (hx : 0 ≤ x) (hx1 : x < 281474976710656) :
    evalCall Try.prog hints (n + 1) 20 [.int .i64 x, .int .i64 k] hp = some (.int .i64 (dr x k), hp, false) := by
  have e1 := td (a := x) 65536 (by omega)
  have e2 := tm (a := x / 65536) k (by omega)
  have w := wrap_id (x := x / 65536) (by omega)
  rw [evalCall_at _ _ _ hh20 rfl Try.func20 rfl (Nat.le_of_ble_eq_true rfl) rfl]
  by_cases h1 : k < 1
  · simp [h1, dr]
  by_cases h2 : 65536 < k
  · simp [h1, h2, dr]
  have h3 : k ≠ 0 := by omega
  simp [h1, h2, h3, e1, e2, w, dr]
theorem f60 (n : Nat) (a b : Int) (hp : Heap) (ha : 0 ≤ a ∧ a < 281474976710656) (hb : 0 ≤ b ∧ b < 68719476736) (hn : 36 < n) :
    evalCall Try.prog hints (n + 1) 60 [.int .i64 a, .int .i64 b] hp = some (.int .i64 (a * b % 281474976710656), hp, false) := by
  rw [evalCall_at _ _ _ hh60 rfl Try.func60 rfl (Nat.le_of_ble_eq_true rfl) rfl]
  simp
  generalize hit : iter _ n _ = r
  refine iter_elim hit
    (fun x : Nat × Int × Int × Int => { fr := [(0, .int .i64 x.2.1), (1, .int .i64 x.2.2.1), (5, .int .i64 x.2.2.2)], hp := hp, base := hp.length, dirty := false })
    (fun x => (0 ≤ x.2.1 ∧ x.2.1 < 281474976710656) ∧ 0 ≤ x.2.2.1 ∧ x.2.2.1 < 68719476736 ∧ x.2.2.1 < 2 ^ x.1 ∧ (0 ≤ x.2.2.2 ∧ x.2.2.2 < 281474976710656) ∧ (x.2.2.2 + x.2.1 * x.2.2.1) % 281474976710656 = a * b % 281474976710656)
    (fun x => x.1)
    (fun x : Int × Int => (.exit 0, { fr := [(0, .int .i64 x.1), (1, .int .i64 x.2), (5, .int .i64 (a * b % 281474976710656)), (7, .bool false)], hp := hp, base := hp.length, dirty := false }))
    (fun _ => True) (36, a, b, 0) rfl ⟨ha, hb.1, hb.2, by simpa using hb.2, by simp, by simp⟩ hn ?_ ?_
  · rintro ⟨k, a', b', p⟩ ⟨h1, h2, h2', h2k, h3, h4⟩
    dsimp only at h1 h2 h2' h2k h3 h4
    by_cases h : 0 < b'
    · left
      obtain ⟨k, rfl⟩ : ∃ j, k = j + 1 := by
        cases k with
        | zero => simp at h2k; omega
        | succ k => exact ⟨k, rfl⟩
      rw [Int.pow_succ] at h2k
      have hm := tm (a := b') 2 h2
      have hd := td (a := b') 2 h2
      have w1 := wrap_id (x := b' / 2) (by omega)
      have w2 := wrap_id (x := 2 * a') (by omega)
      have w3 := wrap_id (x := p + a') (by omega)
      have m2 := tm (a := 2 * a') 281474976710656 (by omega)
      have m3 := tm (a := p + a') 281474976710656 (by omega)
      have key : ∀ u v c : Int, (u + (2 * c % 281474976710656) * v) % 281474976710656 = (u + c * (2 * v)) % 281474976710656 := fun u v c => by
        rw [Int.add_emod, Int.mul_emod, Int.emod_emod, ← Int.mul_emod, ← Int.add_emod]
        congr 2
        rw [Int.mul_comm 2 c, Int.mul_assoc]
      by_cases h5 : b' % 2 = 1
      · refine ⟨(k, 2 * a' % 281474976710656, b' / 2, (p + a') % 281474976710656), ?_, ⟨⟨by dsimp only; omega, by dsimp only; omega⟩, by dsimp only; omega, by dsimp only; omega, by dsimp only; omega, ⟨by dsimp only; omega, by dsimp only; omega⟩, ?_⟩, by simp⟩
        · simp [h, hm, hd, h5, w1, w2, w3, m2, m3]
        · dsimp only
          rw [key, Int.emod_add_emod, ← h4]
          have : b' = 2 * (b' / 2) + 1 := by omega
          congr 1
          conv => rhs; rw [this, Int.mul_add]
          omega
      · have h6 : b' % 2 = 0 := by omega
        refine ⟨(k, 2 * a' % 281474976710656, b' / 2, p), ?_, ⟨⟨by dsimp only; omega, by dsimp only; omega⟩, by dsimp only; omega, by dsimp only; omega, by dsimp only; omega, h3, ?_⟩, by simp⟩
        · simp [h, hm, hd, h6, w1, w2, w3, m2, m3]
        · dsimp only
          have : b' = 2 * (b' / 2) := by omega
          rw [key, ← h4, ← this]
    · right
      have : b' = 0 := by omega
      subst this
      refine ⟨(a', 0), ?_, by simp, trivial⟩
      have : p = a * b % 281474976710656 := by rw [← h4]; simp; omega
      simp [this]
  · rintro x rfl -
    simp
theorem f17 (n : Nat) (x : Int) (hp : Heap) (hx : 0 ≤ x ∧ x < 281474976710656) (hn : 36 < n) :
    evalCall Try.prog hints (n + 2) 17 [.int .i64 x] hp = some (.int .i64 (nx x), hp, false) := by
  have e := f60 n x 25214903917 hp hx (by omega) hn
  have w := wrap_id (x := x * 25214903917 % 281474976710656 + 11) (by omega)
  have m := tm (a := x * 25214903917 % 281474976710656 + 11) 281474976710656 (by omega)
  rw [evalCall_at _ _ _ hh17 rfl Try.func17 rfl (Nat.le_of_ble_eq_true rfl) rfl]
  simp [e, w, m, nx]
end Go.Proofs.Ytoipglmjnibdpaa
end

section
namespace Go.Proofs.Ytoipglmjnibdpaa
open Go Go.PS
theorem set_same {α : Type} {l : List α} {i : Nat} {x : α} (h : l[i]? = some x) : l.set i x = l := by
  obtain ⟨h1, h2⟩ := List.getElem?_eq_some_iff.1 h
  subst h2
  exact List.set_getElem_self h1
def it (s : Int) : Nat → Int
  | 0 => s
  | k + 1 => nx (it s k)
theorem it_lt {s : Int} (hs : 0 ≤ s ∧ s < 281474976710656) : ∀ k, 0 ≤ it s k ∧ it s k < 281474976710656
  | 0 => hs
  | k + 1 => nx_lt _
theorem it_nonneg {s : Int} (hs : 0 ≤ s) : ∀ k, 0 ≤ it s k
  | 0 => hs
  | k + 1 => (nx_lt _).1
def bt (s : Int) (j : Nat) : Int := dr (it s (j + 1)) 256
theorem bt_lt (s : Int) (j : Nat) : 0 ≤ bt s j ∧ bt s j < 256 := by
  unfold bt dr
  have := nx_lt (it s j)
  simp [it]
  omega
def tx (s : Int) (m : Nat) : List UInt8 := (List.range m).map fun j => UInt8.ofNat (bt s j).toNat
def tcell (s : Int) (m k : Nat) : List PV := (List.range m).map fun j => .int .u8 (if j < k then bt s j else 0)
theorem tcell_zero (s : Int) (m : Nat) : tcell s m 0 = List.replicate m (.int .u8 0) := by
  unfold tcell
  apply List.ext_getElem (by simp)
  intro j h1 h2
  simp
theorem tcell_len (s : Int) (m k : Nat) : (tcell s m k).length = m := by simp [tcell]
theorem tcell_set (s : Int) (m k : Nat) (hk : k < m) : (tcell s m k).set k (.int .u8 (bt s k)) = tcell s m (k + 1) := by
  apply List.ext_getElem (by simp [tcell])
  intro j h1 h2
  simp [tcell] at h1 h2
  by_cases h : k = j
  · subst h; simp [tcell]
  · rw [List.getElem_set_ne h]
    simp only [tcell, List.getElem_map, List.getElem_range]
    by_cases hj : j < k
    · rw [if_pos hj, if_pos (by omega)]
    · rw [if_neg hj, if_neg (by omega)]
theorem bytes_tcell (s : Int) (m : Nat) : bytesOf (tcell s m m) = some (tx s m) := by
  have : ∀ l : List Nat, (∀ j ∈ l, j < m) → bytesOf (l.map fun j => .int .u8 (if j < m then bt s j else 0)) = some (l.map fun j => UInt8.ofNat (bt s j).toNat) := by
    intro l hl
    induction l with
    | nil => rfl
    | cons a l ih =>
      have h := hl a (by simp)
      simp only [List.map_cons, bytesOf, if_pos h]
      rw [ih fun j hj => hl j (by simp [hj])]
  exact this _ fun j hj => List.mem_range.1 hj
theorem f21nil (n : Nat) (k : Int) (hp : Heap) : evalCall Try.prog hints (n + 1) 21 [.nilp, .int .i64 k] hp = some (.str [], hp, false) := by
  rw [evalCall_at _ _ _ hh21 rfl Try.func21 rfl (Nat.le_of_ble_eq_true rfl) rfl]
  simp
theorem f21none (n : Nat) (i : Nat) (k : Int) (hp : Heap) (hk : k < 1) : evalCall Try.prog hints (n + 1) 21 [.ptr (.heap i) none 0, .int .i64 k] hp = some (.str [], hp, false) := by
  rw [evalCall_at _ _ _ hh21 rfl Try.func21 rfl (Nat.le_of_ble_eq_true rfl) rfl]
  simp [hk]
theorem f21 (n : Nat) (i : Nat) (s k : Int) (hp : Heap) (hi : hp[i]? = some [.int .u64 s]) (hs : 0 ≤ s) (hk : 1 ≤ k) (m : Nat) (hm : (m : Int) = min k 4096) (hn : 4096 < n) :
    evalCall Try.prog hints (n + 3) 21 [.ptr (.heap i) none 0, .int .i64 k] hp = some (.str (tx s m), hp.set i [.int .u64 (it s m)], true) := by
  have hl : i < hp.length := (List.getElem?_eq_some_iff.1 hi).1
  have h1 : ¬ k < 1 := by omega
  have hm1 : 1 ≤ m ∧ m ≤ 4096 := by omega
  rw [evalCall_at _ _ _ hh21 rfl Try.func21 rfl (Nat.le_of_ble_eq_true rfl) rfl]
  have e : (if 4096 < k then 4096 else k) = (m : Int) := by split <;> omega
  have e1 : (m : Int) ≤ 140737488355328 := by omega
  simp [h1, e, e1]
  rw [iter_count (fun j => { fr := [(0, .ptr (.heap i) none 0), (5, .sl (.mu 1) m (tcell s m j)), (17, .int .i64 m), (18, .int .i64 j)], hp := hp.set i [.int .u64 (it s j)], base := hp.length, dirty := decide (0 < j) })
    (.exit 0, { fr := [(0, .ptr (.heap i) none 0), (5, .sl (.mu 1) m (tcell s m m)), (17, .int .i64 m), (18, .int .i64 m), (19, .bool false)], hp := hp.set i [.int .u64 (it s m)], base := hp.length, dirty := true }) m (n + 2) _ ?_ (by omega)]
  · simp [tcell_len, bytes_tcell]
  · intro j hj
    have e19 := f19 n i (it s j) 256 (hp.set i [.int .u64 (it s j)]) (List.getElem?_set_self hl) (it_nonneg hs j)
    have b1 := bt_lt s j
    have e2 : dr (it s (j + 1)) 256 = bt s j := rfl
    have e3 : nx (it s j) = it s (j + 1) := rfl
    have e4 : bt s j % 256 = bt s j := by omega
    have e5 := wrap_id (x := (j : Int) + 1) (by omega)
    simp [hj, (show j + 1 ≤ m from hj), e19, e2, e3, e4, e5, tcell_len, tcell_set]
  · simp
    omega
  · simp
  · rw [← tcell_zero s]
    simp [it]
    exact (set_same hi).symm
theorem live22 (n : Nat) (hp : Heap) : ∃ hp', evalCall Try.prog hints (n + 10) 22 [] hp = some (.bool true, hp ++ hp', true) := by
  have e1 := f18 (n + 8) hp.length 0 (hp ++ [[.int .u64 0]]) (by simp) (by omega)
  have e2 := f18 (n + 8) hp.length (nx 0) (hp ++ [[.int .u64 (nx 0)]]) (by simp) (by decide)
  have e3 := f18 (n + 8) (hp.length + 1) 5 (hp ++ [[.int .u64 (nx (nx 0))], [.int .u64 5]]) (by simp) (by omega)
  have e4 := f18 (n + 8) (hp.length + 2) 5 (hp ++ [[.int .u64 (nx (nx 0))], [.int .u64 (nx 5)], [.int .u64 5]]) (by simp) (by omega)
  have c1 : nx 0 = 11 := by decide
  have c2 : nx 11 = 277363943098 := by decide
  simp only [c1, c2] at e1 e2 e3 e4
  rw [evalCall_at _ _ _ hh22 rfl Try.func22 rfl (Nat.le_of_ble_eq_true rfl) rfl]
  simp at e1 e2 e3 e4
  simp [f15, e1, e2, e3, e4]
end Go.Proofs.Ytoipglmjnibdpaa
end

section
namespace Go.Proofs.Ytoipglmjnibdpaa
open Go Go.PS
theorem it_add (s : Int) (a : Nat) : ∀ b, it s (a + b) = it (it s a) b
  | 0 => rfl
  | b + 1 => by rw [← Nat.add_assoc]; simp only [it]; rw [it_add s a b]
set_option maxHeartbeats 2000000 in
theorem f3 (n : Nat) (a : Int) (l : List Int) (hl : l.length ≤ 9223372036854775807) (hn : 5000 < n) : ∃ hp d, evalCall Try.prog hints (n + 20) 3 [.int .i64 a, .sl .sh l.length (l.map (PV.int .i64))] [] = some (.bool true, hp, d) := by
  obtain ⟨N, hN⟩ : ∃ N, N = min l.length 60 := ⟨_, rfl⟩
  obtain ⟨s, hs⟩ : ∃ s, s = a % 281474976710656 := ⟨_, rfl⟩
  have s0 : 0 ≤ s ∧ s < 281474976710656 := by omega
  obtain ⟨u, hu⟩ : ∃ u, u = it s N := ⟨_, rfl⟩
  have u0 : 0 ≤ u ∧ u < 281474976710656 := hu ▸ it_lt s0 N
  obtain ⟨hp', e22⟩ := live22 (n + 9) [[.int .u64 (it u 3)]]
  apply of_map
  rw [evalCall_at _ _ _ hh3 rfl Try.func3 rfl (Nat.le_of_ble_eq_true rfl) rfl]
  simp [f15, f16, ← hs]
  rw [iter_count (fun j => { fr := [(1, .sl .sh l.length (l.map (PV.int .i64))), (5, .ptr (.heap 0) none 0), (6, .int .i64 (it s j)), (7, .int .i64 j)], hp := [[.int .u64 (it s j)]], base := 0, dirty := decide (0 < j) })
    (.exit 0, { fr := [(1, .sl .sh l.length (l.map (PV.int .i64))), (5, .ptr (.heap 0) none 0), (6, .int .i64 u), (7, .int .i64 N), (23, .bool false)], hp := [[.int .u64 u]], base := 0, dirty := decide (0 < N) }) N (n + 19) _ ?_ (by omega)]
  · have e21 := f21 (n + 16) 0 u 3 [[.int .u64 u]] rfl u0.1 (by omega) 3 (by omega) (by omega)
    simp [e21]
    rw [iter_count (fun j => { fr := [(5, .ptr (.heap 0) none 0), (6, .int .i64 (it u j)), (8, .str (tx u 3)), (9, .sl (.mu 1) j ((List.range j).map fun j => .int .u8 (bt u j))), (10, .int .i64 j)], hp := [[.int .u64 (it u 3)]], base := 0, dirty := true })
      (.exit 2, { fr := [(5, .ptr (.heap 0) none 0), (6, .int .i64 (it u 3)), (8, .str (tx u 3)), (9, .sl (.mu 1) 3 ((List.range 3).map fun j => .int .u8 (bt u j))), (10, .int .i64 3), (60, .bool false)], hp := [[.int .u64 (it u 3)]], base := 0, dirty := true }) 3 (n + 19) _ ?_ (by omega)]
    · have v0 := (it_lt u0 3).1
      have b3 : bytesOf ((List.range 3).map fun j => .int .u8 (bt u j)) = some (tx u 3) := by
        rw [← bytes_tcell]
        congr 1
      have g1 := f21none (n + 18) 0 0 ([.int .u64 (it u 3)] :: hp') (by omega)
      have g2 := f21 (n + 16) 0 (it u 3) 5000 ([.int .u64 (it u 3)] :: hp') rfl v0 (by omega) 4096 (by omega) (by omega)
      have g3 : (tx (it u 3) 4096).length = 4096 := by simp [tx]
      simp [e22, b3, g1, g2, g3, f21nil, f18nil, f19nil]
    · intro j hj
      have e17 := f17 (n + 17) (it u j) [[.int .u64 (it u 3)]] (it_lt u0 j) (by omega)
      have e17' : nx (it u j) = it u (j + 1) := rfl
      have e20 := f20 (n + 18) (it u (j + 1)) 256 [[.int .u64 (it u 3)]] (it_lt u0 _).1 (it_lt u0 _).2
      have e20' : dr (it u (j + 1)) 256 = bt u j := rfl
      have b1 := bt_lt u j
      have e4 : bt u j % 256 = bt u j := by omega
      have e5 := wrap_id (x := (j : Int) + 1) (by omega)
      have e6 : j ≤ 140737488355327 := by omega
      have c2 : (j : Int) < 3 := by omega
      simp [c2, e17, e17', e20, e20', e4, e5, e6, List.range_succ]
    · simp
    · simp
    · simp [it]
  · intro j hj
    have c1 : j < l.length := by omega
    have c2 : (j : Int) < 60 := by omega
    have e17 := f17 (n + 17) (it s j) [[.int .u64 (it s j)]] (it_lt s0 j) (by omega)
    have e17' : nx (it s j) = it s (j + 1) := rfl
    have w := wrap_id (x := (j : Int) + 1) (by omega)
    have tj := tm (a := (j : Int)) 2 (by omega)
    by_cases h2 : (j : Int) % 2 = 0
    · have e18 := f18 (n + 18) 0 (it s j) [[.int .u64 (it s j)]] rfl (it_lt s0 j).1
      simp [c1, c2, e17, e17', tj, h2, e18, w]
    · have h3 : (j : Int) % 2 = 1 := by omega
      have e19 := f19 (n + 17) 0 (it s j) l[j] [[.int .u64 (it s j)]] rfl (it_lt s0 j).1
      have e20 := f20 (n + 18) (it s (j + 1)) l[j] [[.int .u64 (it s (j + 1))]] (it_lt s0 _).1 (it_lt s0 _).2
      simp [c1, c2, e17, e17', tj, h3, e19, e20, w]
  · by_cases c1 : N < l.length
    · have c2 : ¬ (N : Int) < 60 := by omega
      simp [c1, c2, hu]
    · simp [c1, hu]
  · simp
  · simp [it]
end Go.Proofs.Ytoipglmjnibdpaa
end

section
namespace Go.Proofs.Ytoipglmjnibdpaa
open Go Go.PS
/-- The words of a ring of q. -/
def ring (q : Int) : Int := if q = 1 ∨ q = 2 ∨ q = 4 ∨ q = 8 ∨ q = 16 then 2 + 8 * q else 0
theorem f88 (n : Nat) (q : Int) (hp : Heap) : evalCall Try.prog hints (n + 1) 88 [.int .i64 q] hp = some (.int .i64 (ring q), hp, false) := by
  rw [evalCall_at _ _ _ hh88 rfl Try.func88 rfl (Nat.le_of_ble_eq_true rfl) rfl]
  unfold ring
  by_cases h1 : q = 1
  · subst h1; simp [wrap_id (x := 8) (by omega), wrap_id (x := 10) (by omega)]
  by_cases h2 : q = 2
  · subst h2; simp [wrap_id (x := 16) (by omega), wrap_id (x := 18) (by omega)]
  by_cases h4 : q = 4
  · subst h4; simp [wrap_id (x := 32) (by omega), wrap_id (x := 34) (by omega)]
  by_cases h8 : q = 8
  · subst h8; simp [wrap_id (x := 64) (by omega), wrap_id (x := 66) (by omega)]
  by_cases h16 : q = 16
  · subst h16; simp [wrap_id (x := 128) (by omega), wrap_id (x := 130) (by omega)]
  have e1 : (q == 1) = false := by simp [h1]
  have e2 : (q == 2) = false := by simp [h2]
  have e4 : (q == 4) = false := by simp [h4]
  have e8 : (q == 8) = false := by simp [h8]
  have e16 : (q == 16) = false := by simp [h16]
  simp [e1, e2, e4, e8, e16, h1, h2, h4, h8, h16]
end Go.Proofs.Ytoipglmjnibdpaa
end

section
namespace Go.Proofs.Ytoipglmjnibdpaa
open Go Go.PS
theorem dr4 (x k : Int) (h : 1 ≤ k ∧ k ≤ 65536) : 0 ≤ dr x k ∧ dr x k < k := by
  unfold dr
  rw [if_neg (by omega)]
  exact ⟨Int.emod_nonneg _ (by omega), Int.emod_lt_of_pos _ (by omega)⟩
/-- The size of a client's queue. -/
def qs (s : Int) : Int := if dr (nx s) 4 = 0 then 1 else if dr (nx s) 4 = 1 then 2 else if dr (nx s) 4 = 2 then 4 else 8
def offs (s : Int) : Int := 64 + 4 * dr (nx (it s 3)) 20
def client (s a b c : Int) : List PV := [.int .i64 b, .int .i64 (offs s + ring (qs s) + dr (nx (it s 4)) 40), .int .i64 (qs s), .int .i64 (offs s), .int .i64 0, .int .i64 (dr (nx (it s 1)) 5), .int .i64 a, .int .i64 (100 + a), .int .i64 c, .int .i64 (dr (nx (it s 2)) 4)]
set_option maxHeartbeats 1000000 in
theorem f67 (n i : Nat) (s a b c : Int) (hp : Heap) (hi : hp[i]? = some [.int .u64 s]) (hs : 0 ≤ s) (ha : 0 ≤ a ∧ a ≤ 1000) :
    evalCall Try.prog hints (n + 3) 67 [.ptr (.heap i) none 0, .int .i64 a, .int .i64 b, .int .i64 c] hp = some (.agg (client s a b c), hp.set i [.int .u64 (it s 5)], true) := by
  have hl : i < hp.length := (List.getElem?_eq_some_iff.1 hi).1
  have hset : ∀ x, (hp.set i x)[i]? = some x := fun x => List.getElem?_set_self hl
  have n0 := nx_lt s
  have n1 := nx_lt (it s 1)
  have n2 := nx_lt (it s 2)
  have n3 := nx_lt (it s 3)
  have n4 := nx_lt (it s 4)
  have e0 := f19 n i s 4 hp hi hs
  have e1 := f19 n i (it s 1) 5 (hp.set i [.int .u64 (it s 1)]) (hset _) n0.1
  have e2 := f19 n i (it s 2) 4 (hp.set i [.int .u64 (it s 2)]) (hset _) n1.1
  have e3 := f19 n i (it s 3) 20 (hp.set i [.int .u64 (it s 3)]) (hset _) n2.1
  have e4 := f19 n i (it s 4) 40 (hp.set i [.int .u64 (it s 4)]) (hset _) n3.1
  simp only [List.set_set] at e1 e2 e3 e4
  rw [show nx s = it s 1 from rfl] at e0
  rw [show nx (it s 1) = it s 2 from rfl] at e1
  rw [show nx (it s 2) = it s 3 from rfl] at e2
  rw [show nx (it s 3) = it s 4 from rfl] at e3
  rw [show nx (it s 4) = it s 5 from rfl] at e4
  have e88 := fun q hp => f88 (n + 1) q hp
  have d0 := dr4 (it s 1) 4 (by omega)
  have d3 := dr4 (it s 4) 20 (by omega)
  have d4 := dr4 (it s 5) 40 (by omega)
  unfold client offs qs
  rw [show nx s = it s 1 from rfl, show nx (it s 1) = it s 2 from rfl, show nx (it s 2) = it s 3 from rfl, show nx (it s 3) = it s 4 from rfl, show nx (it s 4) = it s 5 from rfl]
  generalize dr (it s 1) 4 = r0 at *
  generalize dr (it s 2) 5 = r1 at *
  generalize dr (it s 3) 4 = r2 at *
  generalize dr (it s 4) 20 = r3 at *
  generalize dr (it s 5) 40 = r4 at *
  have w1 := wrap_id (x := 100 + a) (by omega)
  have w2 := wrap_id (x := 4 * r3) (by omega)
  have w3 := wrap_id (x := 64 + 4 * r3) (by omega)
  rw [evalCall_at _ _ _ hh67 rfl Try.func67 rfl (Nat.le_of_ble_eq_true rfl) rfl]
  rcases (by omega : r0 = 0 ∨ r0 = 1 ∨ r0 = 2 ∨ r0 = 3) with h | h | h | h <;> subst h
  · have w4 := wrap_id (x := 64 + 4 * r3 + ring 1) (by rw [show ring 1 = 10 from rfl]; omega)
    have w5 := wrap_id (x := 64 + 4 * r3 + ring 1 + r4) (by rw [show ring 1 = 10 from rfl]; omega)
    simp [e0, e1, e2, e3, e4, e88, w1, w2, w3, w4, w5, wrap_id (x := 1) (by omega)]
  · have w4 := wrap_id (x := 64 + 4 * r3 + ring 2) (by rw [show ring 2 = 18 from rfl]; omega)
    have w5 := wrap_id (x := 64 + 4 * r3 + ring 2 + r4) (by rw [show ring 2 = 18 from rfl]; omega)
    simp [e0, e1, e2, e3, e4, e88, w1, w2, w3, w4, w5, wrap_id (x := 2) (by omega)]
  · have w4 := wrap_id (x := 64 + 4 * r3 + ring 4) (by rw [show ring 4 = 34 from rfl]; omega)
    have w5 := wrap_id (x := 64 + 4 * r3 + ring 4 + r4) (by rw [show ring 4 = 34 from rfl]; omega)
    simp [e0, e1, e2, e3, e4, e88, w1, w2, w3, w4, w5, wrap_id (x := 4) (by omega)]
  · have w4 := wrap_id (x := 64 + 4 * r3 + ring 8) (by rw [show ring 8 = 66 from rfl]; omega)
    have w5 := wrap_id (x := 64 + 4 * r3 + ring 8 + r4) (by rw [show ring 8 = 66 from rfl]; omega)
    simp [e0, e1, e2, e3, e4, e88, w1, w2, w3, w4, w5, wrap_id (x := 8) (by omega)]
end Go.Proofs.Ytoipglmjnibdpaa
end

section
namespace Go.Proofs.Ytoipglmjnibdpaa
open Go Go.PS
/-- Does the window [a, b) hold x? -/
def holds (a b x : Int) : Bool := decide (0 ≤ a ∧ a ≤ x ∧ x < b)
theorem f104 (n : Nat) (a b x : Int) (hp : Heap) : evalCall Try.prog hints (n + 1) 104 [.agg [.int .i64 a, .int .i64 b], .int .i64 x] hp = some (.bool (holds a b x), hp, false) := by
  rw [evalCall_at _ _ _ hh104 rfl Try.func104 rfl (Nat.le_of_ble_eq_true rfl) rfl]
  unfold holds
  by_cases h1 : 0 ≤ a
  · have h1' : ¬ a < 0 := by omega
    by_cases h2 : a ≤ x
    · have h2' : ¬ x < a := by omega
      simp [h1, h2, h1', h2']
    · have h2' : x < a := by omega
      simp [h1, h2, h1', h2']
  · have h1' : a < 0 := by omega
    simp [h1, h1']
theorem f103 (n : Nat) (a b : Int) (hp : Heap) : evalCall Try.prog hints (n + 2) 103 [.agg [.int .i64 a, .int .i64 b]] hp = some (.bool (decide (0 ≤ a ∧ a < b)), hp, false) := by
  have e := fun hp => f104 n a b a hp
  rw [evalCall_at _ _ _ hh103 rfl Try.func103 rfl (Nat.le_of_ble_eq_true rfl) rfl]
  simp [e, holds]
/-- Do two windows meet? -/
def meets (a b c d : Int) : Bool := decide (0 ≤ a ∧ a < b) && decide (0 ≤ c ∧ c < d) && (holds a b c || holds c d a)
theorem f92 (n : Nat) (a b c d : Int) (hp : Heap) : evalCall Try.prog hints (n + 3) 92 [.agg [.int .i64 a, .int .i64 b], .agg [.int .i64 c, .int .i64 d]] hp = some (.bool (meets a b c d), hp, false) := by
  have e1 := fun hp => f103 n a b hp
  have e2 := fun hp => f103 n c d hp
  have e3 := fun hp => f104 (n + 1) a b c hp
  have e4 := fun hp => f104 (n + 1) c d a hp
  rw [evalCall_at _ _ _ hh92 rfl Try.func92 rfl (Nat.le_of_ble_eq_true rfl) rfl]
  unfold meets
  generalize decide (0 ≤ a ∧ a < b) = x at *
  generalize decide (0 ≤ c ∧ c < d) = y at *
  generalize holds a b c = z at *
  generalize holds c d a = w at *
  cases x <;> cases y <;> cases z <;> simp [e1, e2, e3, e4]
theorem f90 (n : Nat) (a b c d : Int) (hp : Heap) (h1 : -100000 ≤ a ∧ a ≤ 100000) (h2 : -100000 ≤ b ∧ b ≤ 100000) (h3 : -100000 ≤ c ∧ c ≤ 100000) (h4 : -100000 ≤ d ∧ d ≤ 100000) :
    evalCall Try.prog hints (n + 4) 90 [.int .i64 a, .int .i64 b, .int .i64 c, .int .i64 d] hp = some (.bool (meets a (a + b) c (c + d)), hp, false) := by
  have e := fun hp => f92 n a (a + b) c (c + d) hp
  have w1 := wrap_id (x := a + b) (by omega)
  have w2 := wrap_id (x := c + d) (by omega)
  rw [evalCall_at _ _ _ hh90 rfl Try.func90 rfl (Nat.le_of_ble_eq_true rfl) rfl]
  simp [e, w1, w2]
theorem f102 (n : Nat) (q : Int) (hp : Heap) : evalCall Try.prog hints (n + 1) 102 [.int .i64 q] hp = some (.int .i64 (ring q), hp, false) := by
  rw [evalCall_at _ _ _ hh102 rfl Try.func102 rfl (Nat.le_of_ble_eq_true rfl) rfl]
  unfold ring
  by_cases h1 : q = 1
  · subst h1; simp [wrap_id (x := 8) (by omega), wrap_id (x := 10) (by omega)]
  by_cases h2 : q = 2
  · subst h2; simp [wrap_id (x := 16) (by omega), wrap_id (x := 18) (by omega)]
  by_cases h4 : q = 4
  · subst h4; simp [wrap_id (x := 32) (by omega), wrap_id (x := 34) (by omega)]
  by_cases h8 : q = 8
  · subst h8; simp [wrap_id (x := 64) (by omega), wrap_id (x := 66) (by omega)]
  by_cases h16 : q = 16
  · subst h16; simp [wrap_id (x := 128) (by omega), wrap_id (x := 130) (by omega)]
  have e1 : (q == 1) = false := by simp [h1]
  have e2 : (q == 2) = false := by simp [h2]
  have e4 : (q == 4) = false := by simp [h4]
  have e8 : (q == 8) = false := by simp [h8]
  have e16 : (q == 16) = false := by simp [h16]
  simp [e1, e2, e4, e8, e16, h1, h2, h4, h8, h16]
end Go.Proofs.Ytoipglmjnibdpaa
end

section
namespace Go.Proofs.Ytoipglmjnibdpaa
open Go Go.PS
/-- A client that is right. -/
structure Cl where
  base : Int
  size : Int
  q : Int
  at_ : Int
  n : Int
  pr : Int
  id : Int
  irq : Int
  hb : Int
  hn : Int
def Cl.cells (c : Cl) : List PV := [.int .i64 c.base, .int .i64 c.size, .int .i64 c.q, .int .i64 c.at_, .int .i64 c.n, .int .i64 c.pr, .int .i64 c.id, .int .i64 c.irq, .int .i64 c.hb, .int .i64 c.hn]
theorem Cl.len (c : Cl) : c.cells.length = 10 := rfl
def Cl.ok (c : Cl) : Prop := 32 ≤ c.size ∧ c.size ≤ 1024 ∧ 128 ≤ c.base ∧ c.base ≤ 16384 - c.size ∧ ring c.q ≠ 0 ∧ 0 ≤ c.at_ ∧ c.at_ ≤ c.size - ring c.q ∧ 1 ≤ c.n ∧ c.n ≤ 16 ∧ 0 ≤ c.pr ∧ c.pr ≤ 16 ∧ 0 ≤ c.id ∧ c.id ≤ 255 ∧ 0 ≤ c.irq ∧ c.irq ≤ 255 ∧ 0 ≤ c.hn ∧ c.hn ≤ 64 ∧ 0 ≤ c.hb ∧ c.hb ≤ 512 - c.hn
theorem ring_le (q : Int) : 0 ≤ ring q ∧ ring q ≤ 130 := by unfold ring; split <;> omega
theorem f89 (n : Nat) (c : Cl) (hp : Heap) (h : c.ok) : evalCall Try.prog hints (n + 2) 89 [.agg c.cells] hp = some (.bool false, hp, false) := by
  obtain ⟨h1, h2, h3, h4, h5, h6, h7, h8, h9, h10, h11, h12, h13, h14, h15, h16, h17, h18, h19⟩ := h
  have r := ring_le c.q
  have e := fun hp => f102 n c.q hp
  have w1 := wrap_id (x := 16384 - c.size) (by omega)
  have w2 := wrap_id (x := c.size - ring c.q) (by omega)
  have w3 := wrap_id (x := 512 - c.hn) (by omega)
  rw [evalCall_at _ _ _ hh89 rfl Try.func89 rfl (Nat.le_of_ble_eq_true rfl) rfl]
  obtain ⟨base, size, q, at_, nn, pr, id, irq, hb, hn⟩ := c
  simp only [Cl.cells] at *
  have g1 : ¬ size < 32 := by omega
  have g2 : ¬ 1024 < size := by omega
  have g3 : ¬ base < 128 := by omega
  have g4 : ¬ 16384 - size < base := by omega
  have g6 : ¬ at_ < 0 := by omega
  have g7 : ¬ size - ring q < at_ := by omega
  have g8 : ¬ nn < 1 := by omega
  have g9 : ¬ 16 < nn := by omega
  have g10 : ¬ pr < 0 := by omega
  have g11 : ¬ 16 < pr := by omega
  have g12 : ¬ id < 0 := by omega
  have g13 : ¬ 255 < id := by omega
  have g14 : ¬ irq < 0 := by omega
  have g15 : ¬ 255 < irq := by omega
  have g16 : ¬ hn < 0 := by omega
  have g17 : ¬ 64 < hn := by omega
  have g18 : ¬ hb < 0 := by omega
  have g19 : ¬ 512 - hn < hb := by omega
  have g5 : (ring q == 0) = false := by simp [h5]
  simp [e, w1, w2, w3, g1, g2, g3, g4, g5, g6, g7, g8, g9, g10, g11, g12, g13, g14, g15, g16, g17, g18, g19]
  try omega
end Go.Proofs.Ytoipglmjnibdpaa
end

section
namespace Go.Proofs.Ytoipglmjnibdpaa
open Go Go.PS
/-- A window, or a slot. -/
structure R3 where
  o : Int
  a : Int
  b : Int
def R3.cells (c : R3) : List PV := [.int .i64 c.o, .int .i64 c.a, .int .i64 c.b]
theorem R3.len (c : R3) : c.cells.length = 3 := rfl
structure Tab where
  f : Int
  W : List R3
  S : List R3
  C : List Cl
def Tab.cells (t : Tab) : List PV := [.int .i64 t.f, .sl .sh t.W.length (t.W.flatMap R3.cells), .sl .sh t.S.length (t.S.flatMap R3.cells), .sl .sh t.C.length (t.C.flatMap Cl.cells)]
/-- Tables that are being made. -/
structure Ms where
  s : Int
  b : Int
  f : Int
  w : Int
  l : Int
  W : List R3
  S : List R3
  C : List Cl
def mt (k n : Nat) : Nat := if n = 0 then 0 else k
def Ms.box (x : Ms) : List PV := [.int .i64 0, .sl (.mu (mt 3 x.W.length)) x.W.length (x.W.flatMap R3.cells), .sl (.mu (mt 3 x.S.length)) x.S.length (x.S.flatMap R3.cells), .sl (.mu (mt 10 x.C.length)) x.C.length (x.C.flatMap Cl.cells)]
def cl (s a b c q : Int) : Cl := ⟨b, offs s + ring (qs s) + dr (nx (it s 4)) 40, qs s, offs s, q, dr (nx (it s 1)) 5, a, 100 + a, c, dr (nx (it s 2)) 4⟩
def cutS (n p : Int) (k : Int) (x : Ms) : Ms := if p = k then { x with W := x.W ++ [⟨0, x.w, x.w + 2 * n⟩], w := x.w + (2 * n + dr (nx x.s) 3), s := nx x.s } else x
def rowS (k : Int) (x : Ms) : Ms :=
  let c1 := nx x.s
  let c2 := it c1 5
  let c3 := nx c2
  let c4 := nx c3
  let c5 := nx c4
  let c6 := nx c5
  let c7 := nx c6
  let g := 3 + dr c3 12
  let h := 1 + dr c4 3
  let d := cl c1 k (x.b + dr c1 8) x.f (1 + dr c5 h)
  { s := c7, b := d.base + d.size, f := x.f + d.hn, w := x.w + (g + dr c6 3), l := x.l + (h * 4 + dr c7 5),
    W := x.W ++ [⟨k + 1, x.w, x.w + g⟩], S := x.S ++ [⟨k + 1, x.l, x.l + h * 4⟩], C := x.C ++ [d] }
def itM (n p : Int) (x : Ms) : Nat → Ms
  | 0 => x
  | k + 1 => rowS k (cutS n p k (itM n p x k))
theorem mt_ok (k n : Nat) : (mt k n = k ∨ mt k n = 0 ∧ n = 0) = True := by
  unfold mt; split <;> simp_all
end Go.Proofs.Ytoipglmjnibdpaa
end

section
namespace Go.Proofs.Ytoipglmjnibdpaa
open Go Go.PS
def start (s : Int) : Ms := ⟨nx s, 128, 0, 0, 0, [], [], []⟩
def late (p k : Int) : Nat := if p < k then 1 else 0
structure Inv (N : Nat) (p k : Int) (x : Ms) : Prop where
  s : 0 ≤ x.s
  b : 128 ≤ x.b ∧ x.b ≤ 128 + 260 * k
  f : 0 ≤ x.f ∧ x.f ≤ 3 * k
  w : 0 ≤ x.w ∧ x.w ≤ 16 * k + 18 * late p k
  l : 0 ≤ x.l ∧ x.l ≤ 16 * k
  W : (x.W.length : Int) = k + late p k
  S : (x.S.length : Int) = k
  C : (x.C.length : Int) = k
  c1 : ∀ c ∈ x.C, c.ok ∧ c.base + c.size ≤ x.b ∧ c.hb + c.hn ≤ x.f ∧ c.id < k ∧ c.irq = 100 + c.id
  c2 : x.C.Pairwise fun c d => c.base + c.size ≤ d.base ∧ c.hb + c.hn ≤ d.hb ∧ c.id < d.id
  w1 : ∀ w ∈ x.W, 0 ≤ w.o ∧ w.o ≤ k ∧ 0 ≤ w.a ∧ w.a < w.b ∧ w.b ≤ x.w ∧ (w.o = 0 → p < k ∧ w.b - w.a = 2 * N)
  w2 : x.W.Pairwise fun c d => c.b ≤ d.a ∧ c.o ≠ d.o
  w3 : ∀ r : Int, 1 ≤ r → r ≤ k → ∃ w ∈ x.W, w.o = r
  w4 : p < k → ∃ w ∈ x.W, w.o = 0
  s1 : ∀ w ∈ x.S, 1 ≤ w.o ∧ w.o ≤ k ∧ 0 ≤ w.a ∧ w.a + 4 ≤ w.b ∧ w.b ≤ x.l
  s2 : x.S.Pairwise fun c d => c.b ≤ d.a
  q : ∀ (i : Nat) c, x.C[i]? = some c → ∃ d, x.S[i]? = some d ∧ d.o = i + 1 ∧ c.n ≤ (d.b - d.a) / 4
theorem inv_start (N : Nat) (p s : Int) (hp : 0 ≤ p) : Inv N p 0 (start s) := by
  have := nx_lt s
  have e : late p 0 = 0 := by unfold late; rw [if_neg (by omega)]
  constructor <;> simp [start, e] <;> first | omega | skip
/-- What holds between the cut and the row. -/
structure InvC (N : Nat) (p k : Int) (x : Ms) : Prop where
  s : 0 ≤ x.s
  b : 128 ≤ x.b ∧ x.b ≤ 128 + 260 * k
  f : 0 ≤ x.f ∧ x.f ≤ 3 * k
  w : 0 ≤ x.w ∧ x.w ≤ 16 * k + 18 * late p (k + 1)
  l : 0 ≤ x.l ∧ x.l ≤ 16 * k
  W : (x.W.length : Int) = k + late p (k + 1)
  S : (x.S.length : Int) = k
  C : (x.C.length : Int) = k
  c1 : ∀ c ∈ x.C, c.ok ∧ c.base + c.size ≤ x.b ∧ c.hb + c.hn ≤ x.f ∧ c.id < k ∧ c.irq = 100 + c.id
  c2 : x.C.Pairwise fun c d => c.base + c.size ≤ d.base ∧ c.hb + c.hn ≤ d.hb ∧ c.id < d.id
  w1 : ∀ w ∈ x.W, 0 ≤ w.o ∧ w.o ≤ k ∧ 0 ≤ w.a ∧ w.a < w.b ∧ w.b ≤ x.w ∧ (w.o = 0 → p < k + 1 ∧ w.b - w.a = 2 * N)
  w2 : x.W.Pairwise fun c d => c.b ≤ d.a ∧ c.o ≠ d.o
  w3 : ∀ r : Int, 1 ≤ r → r ≤ k → ∃ w ∈ x.W, w.o = r
  w4 : p < k + 1 → ∃ w ∈ x.W, w.o = 0
  s1 : ∀ w ∈ x.S, 1 ≤ w.o ∧ w.o ≤ k ∧ 0 ≤ w.a ∧ w.a + 4 ≤ w.b ∧ w.b ≤ x.l
  s2 : x.S.Pairwise fun c d => c.b ≤ d.a
  q : ∀ (i : Nat) c, x.C[i]? = some c → ∃ d, x.S[i]? = some d ∧ d.o = i + 1 ∧ c.n ≤ (d.b - d.a) / 4
theorem invC {N : Nat} {p k : Int} {x : Ms} (hN : 1 ≤ N ∧ N ≤ 8) (h : Inv N p k x) (hk : 0 ≤ k) : InvC N p k (cutS N p k x) := by
  have d := dr4 (nx x.s) 3 (by omega)
  have hs := nx_lt x.s
  by_cases e : p = k
  · have l0 : late p k = 0 := by unfold late; rw [if_neg (by omega)]
    have l1 : late p (k + 1) = 1 := by unfold late; rw [if_pos (by omega)]
    unfold cutS; rw [if_pos e]
    obtain ⟨i1, i2, i3, i4, i5, i6, i7, i8, i9, i10, i11, i12, i13, i14, i15, i16, i17⟩ := h
    rw [l0] at i4 i6
    constructor
    · exact hs.1
    · exact i2
    · exact i3
    · simp only [l1]; omega
    · exact i5
    · simp only [List.length_append, List.length_cons, List.length_nil, l1]; omega
    · exact i7
    · exact i8
    · exact i9
    · exact i10
    · intro w hw
      rcases List.mem_append.1 hw with hw | hw
      · have := i11 w hw
        simp only
        omega
      · simp only [List.mem_singleton] at hw; subst hw
        simp only
        omega
    · rw [List.pairwise_append]
      refine ⟨i12, by simp, fun a ha b hb => ?_⟩
      simp only [List.mem_singleton] at hb; subst hb
      have := i11 a ha
      simp only
      omega
    · intro r h1 h2
      obtain ⟨w, hw, h3⟩ := i13 r h1 h2
      exact ⟨w, List.mem_append_left _ hw, h3⟩
    · intro _
      exact ⟨_, List.mem_append_right _ (List.mem_singleton.2 rfl), rfl⟩
    · exact i15
    · exact i16
    · exact i17
  · unfold cutS; rw [if_neg e]
    have l0 : late p (k + 1) = late p k := by unfold late; congr 1; simp; omega
    obtain ⟨i1, i2, i3, i4, i5, i6, i7, i8, i9, i10, i11, i12, i13, i14, i15, i16, i17⟩ := h
    refine ⟨i1, i2, i3, by rw [l0]; exact i4, i5, by rw [l0]; exact i6, i7, i8, i9, i10, fun w hw => ?_, i12, i13, fun h => i14 (by omega), i15, i16, i17⟩
    have := i11 w hw
    omega
theorem cl_ok {s k b f q : Int} (hk : 0 ≤ k ∧ k ≤ 8) (hb : 128 ≤ b ∧ b ≤ 10000) (hf : 0 ≤ f ∧ f ≤ 100) (hq : 1 ≤ q ∧ q ≤ 16) : (cl s k b f q).ok ∧ (cl s k b f q).size ≤ 250 ∧ 0 ≤ (cl s k b f q).hn ∧ (cl s k b f q).hn ≤ 3 := by
  have z1 := dr4 (nx (it s 3)) 20 (by omega)
  have z2 := dr4 (nx (it s 4)) 40 (by omega)
  have z4 := dr4 (nx (it s 1)) 5 (by omega)
  have z5 := dr4 (nx (it s 2)) 4 (by omega)
  have z3 : ring (qs s) ≠ 0 ∧ 0 ≤ ring (qs s) ∧ ring (qs s) ≤ 66 := by
    unfold qs; split
    · simp [ring]
    split
    · simp [ring]
    split
    · simp [ring]
    · simp [ring]
  unfold Cl.ok
  simp only [cl, offs] at *
  generalize dr (nx (it s 3)) 20 = a1 at *
  generalize dr (nx (it s 4)) 40 = a2 at *
  generalize dr (nx (it s 1)) 5 = a3 at *
  generalize dr (nx (it s 2)) 4 = a4 at *
  generalize ring (qs s) = a5 at *
  refine ⟨⟨?_, ?_, ?_, ?_, z3.1, ?_, ?_, ?_, ?_, ?_, ?_, ?_, ?_, ?_, ?_, ?_, ?_, ?_, ?_⟩, ?_, ?_, ?_⟩ <;> omega
theorem inv_row {N : Nat} {p k : Int} {x : Ms} (hN : 1 ≤ N ∧ N ≤ 8) (h : InvC N p k x) (hk : 0 ≤ k ∧ k < N) : Inv N p (k + 1) (rowS k x) := by
  obtain ⟨i1, i2, i3, i4, i5, i6, i7, i8, i9, i10, i11, i12, i13, i14, i15, i16, i17⟩ := h
  simp only [rowS]
  generalize nx x.s = c1
  generalize it c1 5 = c2
  generalize nx c2 = c3
  have D3 := dr4 c3 12 (by omega)
  generalize dr c3 12 = r3 at *
  have D4 := dr4 (nx c3) 3 (by omega)
  generalize nx c3 = c4 at *
  generalize dr c4 3 = r4 at *
  have D5 := dr4 (nx c4) (1 + r4) (by omega)
  generalize nx c4 = c5 at *
  generalize dr c5 (1 + r4) = r5 at *
  have D6 := dr4 (nx c5) 3 (by omega)
  generalize nx c5 = c6 at *
  generalize dr c6 3 = r6 at *
  have D7 := dr4 (nx c6) 5 (by omega)
  have N7 := (nx_lt c6).1
  generalize nx c6 = c7 at *
  generalize dr c7 5 = r7 at *
  have D1 := dr4 c1 8 (by omega)
  generalize dr c1 8 = r1 at *
  have hl : late p (k + 1) = 0 ∨ late p (k + 1) = 1 := by unfold late; split <;> simp
  have K := cl_ok (s := c1) (k := k) (b := x.b + r1) (f := x.f) (q := 1 + r5) (by omega) (by omega) (by omega) (by omega)
  have kb : (cl c1 k (x.b + r1) x.f (1 + r5)).base = x.b + r1 := rfl
  have kf : (cl c1 k (x.b + r1) x.f (1 + r5)).hb = x.f := rfl
  have kn : (cl c1 k (x.b + r1) x.f (1 + r5)).n = 1 + r5 := rfl
  have ki : (cl c1 k (x.b + r1) x.f (1 + r5)).id = k := rfl
  have kq : (cl c1 k (x.b + r1) x.f (1 + r5)).irq = 100 + k := rfl
  have ks : 32 ≤ (cl c1 k (x.b + r1) x.f (1 + r5)).size := K.1.1
  generalize cl c1 k (x.b + r1) x.f (1 + r5) = d at *
  obtain ⟨K1, K2, K3, K4⟩ := K
  constructor
  · exact N7
  · simp only [kb]; omega
  · simp only; omega
  · simp only; omega
  · simp only; omega
  · simp only [List.length_append, List.length_cons, List.length_nil]; omega
  · simp only [List.length_append, List.length_cons, List.length_nil]; omega
  · simp only [List.length_append, List.length_cons, List.length_nil]; omega
  · intro c hc
    rcases List.mem_append.1 hc with hc | hc
    · have h := i9 c hc
      simp only
      exact ⟨h.1, by omega, by omega, by omega, h.2.2.2.2⟩
    · simp only [List.mem_singleton] at hc; subst hc
      simp only
      exact ⟨K1, by omega, by omega, by omega, by omega⟩
  · rw [List.pairwise_append]
    refine ⟨i10, by simp, fun a ha b hb => ?_⟩
    simp only [List.mem_singleton] at hb; subst hb
    have := i9 a ha
    omega
  · intro w hw
    rcases List.mem_append.1 hw with hw | hw
    · have := i11 w hw
      simp only
      omega
    · simp only [List.mem_singleton] at hw; subst hw
      simp only
      omega
  · rw [List.pairwise_append]
    refine ⟨i12, by simp, fun a ha b hb => ?_⟩
    simp only [List.mem_singleton] at hb; subst hb
    have := i11 a ha
    simp only
    omega
  · intro r h1 h2
    by_cases h3 : r = k + 1
    · exact ⟨_, List.mem_append_right _ (List.mem_singleton.2 rfl), h3.symm⟩
    · obtain ⟨w, hw, h3⟩ := i13 r h1 (by omega)
      exact ⟨w, List.mem_append_left _ hw, h3⟩
  · intro h
    obtain ⟨w, hw, h3⟩ := i14 h
    exact ⟨w, List.mem_append_left _ hw, h3⟩
  · intro w hw
    rcases List.mem_append.1 hw with hw | hw
    · have := i15 w hw
      simp only
      omega
    · simp only [List.mem_singleton] at hw; subst hw
      simp only
      omega
  · rw [List.pairwise_append]
    refine ⟨i16, by simp, fun a ha b hb => ?_⟩
    simp only [List.mem_singleton] at hb; subst hb
    have := i15 a ha
    simp only
    omega
  · intro i c hc
    by_cases h : i < x.C.length
    · rw [List.getElem?_append_left h] at hc
      obtain ⟨d, h1, h2⟩ := i17 i c hc
      exact ⟨d, by rw [List.getElem?_append_left (by omega)]; exact h1, h2⟩
    · have hl := (List.getElem?_eq_some_iff.1 hc).1
      simp only [List.length_append, List.length_cons, List.length_nil] at hl
      have e : i = x.C.length := by omega
      subst e
      rw [List.getElem?_append_right (by omega), Nat.sub_self] at hc
      cases hc
      refine ⟨_, by rw [List.getElem?_append_right (by omega), show x.C.length - x.S.length = 0 by omega]; rfl, by simp only; omega, ?_⟩
      simp only [kn]
      omega
theorem inv_all {N : Nat} {p s : Int} (hN : 1 ≤ N ∧ N ≤ 8) (hp : 0 ≤ p) : ∀ k : Nat, k ≤ N → Inv N p k (itM N p (start s) k)
  | 0, _ => inv_start N p s hp
  | k + 1, h => by
    show Inv N p ((k : Int) + 1) (rowS k (cutS N p k (itM N p (start s) k)))
    exact inv_row hN (invC hN (inv_all hN hp k (by omega)) (by omega)) (by omega)
end Go.Proofs.Ytoipglmjnibdpaa
end

section
namespace Go.Proofs.Ytoipglmjnibdpaa
open Go Go.PS
/-- How many clients are made. -/
def cnt (n : Int) : Nat := (min (max n 1) 8).toNat
def frM (i : Nat) (hp : Heap) (N : Nat) (p : Int) (k : Nat) (x : Ms) : St := { fr := [(0, .ptr (.heap i) none 0), (4, .box [.int .i64 0, .sl (.mu 0) 0 [], .sl (.mu 0) 0 [], .sl (.mu 0) 0 []]), (5, .int .i64 N), (6, .box x.box), (7, .int .i64 x.b), (8, .int .i64 x.f), (9, .int .i64 x.w), (10, .int .i64 x.l), (11, .int .i64 p), (24, .int .i64 (N + 1)), (25, .int .i64 k)], hp := hp.set i [.int .u64 x.s], base := hp.length, dirty := true }
def frE (i : Nat) (hp : Heap) (N : Nat) (p : Int) (x : Ms) : St := { fr := [(0, .ptr (.heap i) none 0), (4, .box [.int .i64 0, .sl (.mu 0) 0 [], .sl (.mu 0) 0 [], .sl (.mu 0) 0 []]), (5, .int .i64 N), (6, .box x.box), (7, .int .i64 x.b), (8, .int .i64 x.f), (9, .int .i64 x.w), (10, .int .i64 x.l), (11, .int .i64 p), (12, .int .i64 N), (24, .int .i64 (N + 1)), (25, .int .i64 N), (51, .bool true)], hp := hp.set i [.int .u64 x.s], base := hp.length, dirty := true }
def last (s : Int) (n : Int) : Ms := cutS (cnt n) (dr (nx s) (cnt n + 1)) (cnt n) (itM (cnt n) (dr (nx s) (cnt n + 1)) (start s) (cnt n))
def made (s n : Int) : Tab := ⟨max (last s n).w (last s n).l + dr (nx (last s n).s) 4, (last s n).W, (last s n).S, (last s n).C⟩
theorem ar3 (n : Nat) : n * 3 + 3 = (n + 1) * 3 := by omega
theorem ar10 (n : Nat) : n * 10 + 10 = (n + 1) * 10 := by omega
theorem am24 {n k N : Nat} (h : n ≤ k + 1) (hk : k < N) (hN : N ≤ 8) : (n + 1) * 24 ≤ 140737488355328 := by omega
theorem am24' {n k N : Nat} (h : n ≤ k + 1) (hk : k < N) (hN : N ≤ 8) : (n + 1 + 1) * 24 ≤ 140737488355328 := by omega
theorem am80 {n k N : Nat} (h : n ≤ k) (hk : k < N) (hN : N ≤ 8) : (n + 1) * 80 ≤ 140737488355328 := by omega
theorem am24c {n N : Nat} (h : n ≤ N + 1) (hN : N ≤ 8) : (n + 1) * 24 ≤ 140737488355328 := by omega
set_option maxHeartbeats 1000000 in
theorem f34 (m i : Nat) (s n : Int) (hp : Heap) (hi : hp[i]? = some [.int .u64 s]) (hs : 0 ≤ s) (hm : 20 < m) :
    evalCall Try.prog hints (m + 4) 34 [.ptr (.heap i) none 0, .int .i64 n] hp = some (.agg (made s n).cells, hp.set i [.int .u64 (nx (last s n).s)], true) := by
  have hl : i < hp.length := (List.getElem?_eq_some_iff.1 hi).1
  have hset : ∀ x, (hp.set i x)[i]? = some x := fun x => List.getElem?_set_self hl
  have e0 := fun k => f19 (m + 1) i s k hp hi hs
  obtain ⟨N, hN⟩ : ∃ N, N = cnt n := ⟨_, rfl⟩
  have hN' : (if 8 < if n < 1 then 1 else n then 8 else if n < 1 then 1 else n) = (N : Int) := by
    rw [hN]; unfold cnt; split <;> split <;> omega
  have hN1 : 1 ≤ N ∧ N ≤ 8 := by rw [hN]; unfold cnt; omega
  have w1 := wrap_id (x := (N : Int) + 1) (by omega)
  obtain ⟨p, hp'⟩ : ∃ p, p = dr (nx s) (N + 1) := ⟨_, rfl⟩
  have hp0 : 0 ≤ p := by have := dr4 (nx s) (N + 1) (by omega); omega
  have hp1 : p ≤ N := by have := dr4 (nx s) (N + 1) (by omega); omega
  rw [evalCall_at _ _ _ hh34 rfl Try.func34 rfl (Nat.le_of_ble_eq_true rfl) rfl]
  simp [e0, hN', w1, ← hp']
  rw [iter_count (fun k => frM i hp N p k (itM N p (start s) k)) (.exit 0, frE i hp N p (cutS N p N (itM N p (start s) N))) N]
  · have hb := invC hN1 (inv_all (s := s) hN1 hp0 N (by omega)) (by omega)
    have hx : cutS N p N (itM N p (start s) N) = last s n := by rw [hp', hN]; rfl
    rw [hx] at hb ⊢
    unfold made
    generalize last s n = x at *
    have hL : late p (N + 1) = 0 ∨ late p (N + 1) = 1 := by unfold late; split <;> simp
    have E0 := f19 (m + 1) i x.s 4 (hp.set i [.int .u64 x.s]) (hset _) hb.s
    rw [List.set_set] at E0
    have D0 := dr4 (nx x.s) 4 (by omega)
    have W1 : IntKind.i64.wrap ((if x.w < x.l then x.l else x.w) + dr (nx x.s) 4) = max x.w x.l + dr (nx x.s) 4 := by
      have e : (if x.w < x.l then x.l else x.w) = max x.w x.l := by
        rw [Int.max_def]; split <;> split <;> omega
      rw [e]; apply wrap_id
      have := hb.w; have := hb.l
      omega
    simp only [frE, Ms.box, Tab.cells]
    generalize x.W.flatMap R3.cells = X at *
    generalize x.S.flatMap R3.cells = Y at *
    generalize x.C.flatMap Cl.cells = Z at *
    generalize x.W.length = nW at *
    generalize x.S.length = nS at *
    generalize x.C.length = nC at *
    clear hb
    generalize mt 3 nW = g1 at *
    generalize mt 3 nS = g2 at *
    generalize mt 10 nC = g3 at *
    simp [E0, W1]
  · simp [frM, itM, start, Ms.box, mt]
  · omega
  · intro k hk
    have hb := inv_all (s := s) hN1 hp0 k (by omega)
    have e1 : ∀ c k, 0 ≤ c → evalCall Try.prog hints (m + 3) 19 [.ptr (.heap i) none 0, .int .i64 k] (hp.set i [.int .u64 c]) = some (.int .i64 (dr (nx c) k), hp.set i [.int .u64 (nx c)], true) := fun c k h => by
      have h := f19 (m + 1) i c k (hp.set i [.int .u64 c]) (hset _) h
      rwa [List.set_set] at h
    have e2 : ∀ c b f, 0 ≤ c → evalCall Try.prog hints (m + 3) 67 [.ptr (.heap i) none 0, .int .i64 k, .int .i64 b, .int .i64 f] (hp.set i [.int .u64 c]) = some (.agg (client c k b f), hp.set i [.int .u64 (it c 5)], true) := fun c b f h => by
      have h := f67 m i c k b f (hp.set i [.int .u64 c]) (hset _) h (by omega)
      rwa [List.set_set] at h
    have k1 : (k : Int) < N + 1 := by omega
    have k2 : ((k : Int) == N) = false := by simp; omega
    rw [itM]
    generalize itM N p (start s) k = x at *
    have hL : late p k = 0 ∨ late p k = 1 := by unfold late; split <;> simp
    obtain ⟨b1, b2, b3, b4, b5, b6, b7, b8, -, -, -, -, -, -, -, -, -⟩ := hb
    generalize late p k = L at *
    have b6 : x.W.length ≤ k + 1 := by omega
    have b7 : x.S.length ≤ k := by omega
    have b8 : x.C.length ≤ k := by omega
    have a1 := ar3 x.W.length
    have a2 := ar3 (x.W.length + 1)
    have a3 := ar3 x.S.length
    have a4 := ar10 x.C.length
    have m1 := am24 b6 hk hN1.2
    have m2 := am24' b6 hk hN1.2
    have m3 := am24 (Nat.le_succ_of_le b7) hk hN1.2
    have m4 := am80 b8 hk hN1.2
    have o1 := mt_ok 3 x.W.length
    have o2 := mt_ok 3 x.S.length
    have o3 := mt_ok 10 x.C.length
    have o4 : ∀ k n, mt k (n + 1) = k := fun k n => rfl
    by_cases kp : p = k
    · have kp' : ((k : Int) == p) = true := by simp [kp]
      have E0 := e1 x.s 3 b1
      have D0 := dr4 (nx x.s) 3 (by omega)
      have N0 := (nx_lt x.s).1
      simp only [cutS, if_pos kp, frM, Ms.box, rowS, cl, List.length_append, List.length_cons, List.length_nil, Nat.zero_add, o4, List.flatMap_append, List.flatMap_cons, List.flatMap_nil, List.append_nil]
      generalize nx x.s = c0 at *
      generalize dr c0 3 = r0 at *
      have E1 := e1 c0 8 N0
      have D1 := dr4 (nx c0) 8 (by omega)
      have N1 := (nx_lt c0).1
      generalize nx c0 = c1 at *
      have E2 := e2 c1 (x.b + dr c1 8) x.f N1
      generalize dr c1 8 = r1 at *
      have N2 := it_nonneg N1 5
      have Z : offs c1 + ring (qs c1) + dr (nx (it c1 4)) 40 ≤ 1000 ∧ 0 ≤ offs c1 + ring (qs c1) + dr (nx (it c1 4)) 40 := by
        have z1 := dr4 (nx (it c1 3)) 20 (by omega)
        have z2 := dr4 (nx (it c1 4)) 40 (by omega)
        have z3 := ring_le (qs c1)
        unfold offs; omega
      have D2 := dr4 (nx (it c1 2)) 4 (by omega)
      unfold client at E2
      generalize offs c1 + ring (qs c1) + dr (nx (it c1 4)) 40 = sz at *
      generalize it c1 5 = c2 at *
      generalize qs c1 = y1 at *
      generalize offs c1 = y2 at *
      generalize dr (nx (it c1 1)) 5 = y3 at *
      generalize dr (nx (it c1 2)) 4 = y4 at *
      have E3 := e1 c2 12 N2
      have D3 := dr4 (nx c2) 12 (by omega)
      have N3 := (nx_lt c2).1
      generalize nx c2 = c3 at *
      generalize dr c3 12 = r3 at *
      have E4 := e1 c3 3 N3
      have D4 := dr4 (nx c3) 3 (by omega)
      have N4 := (nx_lt c3).1
      generalize nx c3 = c4 at *
      generalize dr c4 3 = r4 at *
      have E5 := e1 c4 (1 + r4) N4
      have D5 := dr4 (nx c4) (1 + r4) (by omega)
      have N5 := (nx_lt c4).1
      generalize nx c4 = c5 at *
      generalize dr c5 (1 + r4) = r5 at *
      have E6 := e1 c5 3 N5
      have D6 := dr4 (nx c5) 3 (by omega)
      have N6 := (nx_lt c5).1
      generalize nx c5 = c6 at *
      generalize dr c6 3 = r6 at *
      have E7 := e1 c6 5 N6
      have D7 := dr4 (nx c6) 5 (by omega)
      generalize nx c6 = c7 at *
      generalize dr c7 5 = r7 at *
      clear e1 e2 e0 hi hset hp'
      have W1 := wrap_id (x := 2 * (N : Int)) (by omega)
      have W2 := wrap_id (x := x.w + 2 * (N : Int)) (by omega)
      have W3 := wrap_id (x := 2 * (N : Int) + r0) (by omega)
      have W4 := wrap_id (x := x.w + (2 * (N : Int) + r0)) (by omega)
      have W5 := wrap_id (x := x.b + r1) (by omega)
      have W6 := wrap_id (x := 3 + r3) (by omega)
      have W7 := wrap_id (x := 1 + r4) (by omega)
      have W8 := wrap_id (x := 1 + r5) (by omega)
      have W9 := wrap_id (x := (k : Int) + 1) (by omega)
      have W10 := wrap_id (x := x.w + (2 * (N : Int) + r0) + (3 + r3)) (by omega)
      have W11 := wrap_id (x := (1 + r4) * 4) (by omega)
      have W12 := wrap_id (x := x.l + (1 + r4) * 4) (by omega)
      have W13 := wrap_id (x := x.b + r1 + sz) (by omega)
      have W14 := wrap_id (x := x.f + y4) (by omega)
      have W15 := wrap_id (x := (3 + r3) + r6) (by omega)
      have W16 := wrap_id (x := x.w + (2 * (N : Int) + r0) + ((3 + r3) + r6)) (by omega)
      have W17 := wrap_id (x := (1 + r4) * 4 + r7) (by omega)
      have W18 := wrap_id (x := x.l + ((1 + r4) * 4 + r7)) (by omega)
      have lW := flat_len R3.len x.W
      have lS := flat_len R3.len x.S
      have lC := flat_len Cl.len x.C
      clear D0 D1 D2 D3 D4 D5 D6 D7 N0 N1 N2 N3 N4 N5 N6 b1 b2 b3 b4 b5 b6 b7 b8
      generalize x.W.flatMap R3.cells = X at *
      generalize x.S.flatMap R3.cells = Y at *
      generalize x.C.flatMap Cl.cells = Z at *
      generalize mt 3 x.W.length = g1 at *
      generalize mt 3 x.S.length = g2 at *
      generalize mt 10 x.C.length = g3 at *
      generalize x.W.length = nW at *
      generalize x.S.length = nS at *
      generalize x.C.length = nC at *
      simp [k1, k2, kp', E0, E1, E2, E3, E4, E5, E6, E7, W1, W2, W3, W4, W5, W6, W7, W8, W9, W10, W11, W12, W13, W14, W15, W16, W17, W18, lW, lS, lC, a1, a2, a3, a4, m1, m2, m3, m4, o1, o2, o3, R3.cells, Cl.cells]
    · have kp' : ((k : Int) == p) = false := by simp; omega
      have N0 := b1
      simp only [cutS, if_neg kp, frM, Ms.box, rowS, cl, List.length_append, List.length_cons, List.length_nil, Nat.zero_add, o4, List.flatMap_append, List.flatMap_cons, List.flatMap_nil, List.append_nil]
      generalize x.s = c0 at *
      have E1 := e1 c0 8 b1
      have D1 := dr4 (nx c0) 8 (by omega)
      have N1 := (nx_lt c0).1
      generalize nx c0 = c1 at *
      have E2 := e2 c1 (x.b + dr c1 8) x.f N1
      generalize dr c1 8 = r1 at *
      have N2 := it_nonneg N1 5
      have Z : offs c1 + ring (qs c1) + dr (nx (it c1 4)) 40 ≤ 1000 ∧ 0 ≤ offs c1 + ring (qs c1) + dr (nx (it c1 4)) 40 := by
        have z1 := dr4 (nx (it c1 3)) 20 (by omega)
        have z2 := dr4 (nx (it c1 4)) 40 (by omega)
        have z3 := ring_le (qs c1)
        unfold offs; omega
      have D2 := dr4 (nx (it c1 2)) 4 (by omega)
      unfold client at E2
      generalize offs c1 + ring (qs c1) + dr (nx (it c1 4)) 40 = sz at *
      generalize it c1 5 = c2 at *
      generalize qs c1 = y1 at *
      generalize offs c1 = y2 at *
      generalize dr (nx (it c1 1)) 5 = y3 at *
      generalize dr (nx (it c1 2)) 4 = y4 at *
      have E3 := e1 c2 12 N2
      have D3 := dr4 (nx c2) 12 (by omega)
      have N3 := (nx_lt c2).1
      generalize nx c2 = c3 at *
      generalize dr c3 12 = r3 at *
      have E4 := e1 c3 3 N3
      have D4 := dr4 (nx c3) 3 (by omega)
      have N4 := (nx_lt c3).1
      generalize nx c3 = c4 at *
      generalize dr c4 3 = r4 at *
      have E5 := e1 c4 (1 + r4) N4
      have D5 := dr4 (nx c4) (1 + r4) (by omega)
      have N5 := (nx_lt c4).1
      generalize nx c4 = c5 at *
      generalize dr c5 (1 + r4) = r5 at *
      have E6 := e1 c5 3 N5
      have D6 := dr4 (nx c5) 3 (by omega)
      have N6 := (nx_lt c5).1
      generalize nx c5 = c6 at *
      generalize dr c6 3 = r6 at *
      have E7 := e1 c6 5 N6
      have D7 := dr4 (nx c6) 5 (by omega)
      generalize nx c6 = c7 at *
      generalize dr c7 5 = r7 at *
      clear e1 e2 e0 hi hset hp'
      have W5 := wrap_id (x := x.b + r1) (by omega)
      have W6 := wrap_id (x := 3 + r3) (by omega)
      have W7 := wrap_id (x := 1 + r4) (by omega)
      have W8 := wrap_id (x := 1 + r5) (by omega)
      have W9 := wrap_id (x := (k : Int) + 1) (by omega)
      have W10 := wrap_id (x := x.w + (3 + r3)) (by omega)
      have W11 := wrap_id (x := (1 + r4) * 4) (by omega)
      have W12 := wrap_id (x := x.l + (1 + r4) * 4) (by omega)
      have W13 := wrap_id (x := x.b + r1 + sz) (by omega)
      have W14 := wrap_id (x := x.f + y4) (by omega)
      have W15 := wrap_id (x := (3 + r3) + r6) (by omega)
      have W16 := wrap_id (x := x.w + ((3 + r3) + r6)) (by omega)
      have W17 := wrap_id (x := (1 + r4) * 4 + r7) (by omega)
      have W18 := wrap_id (x := x.l + ((1 + r4) * 4 + r7)) (by omega)
      have lW := flat_len R3.len x.W
      have lS := flat_len R3.len x.S
      have lC := flat_len Cl.len x.C
      clear D1 D2 D3 D4 D5 D6 D7 N0 N1 N2 N3 N4 N5 N6 b2 b3 b4 b5 b6 b7 b8
      generalize x.W.flatMap R3.cells = X at *
      generalize x.S.flatMap R3.cells = Y at *
      generalize x.C.flatMap Cl.cells = Z at *
      generalize mt 3 x.W.length = g1 at *
      generalize mt 3 x.S.length = g2 at *
      generalize mt 10 x.C.length = g3 at *
      generalize x.W.length = nW at *
      generalize x.S.length = nS at *
      generalize x.C.length = nC at *
      simp [k1, k2, kp', E1, E2, E3, E4, E5, E6, E7, W5, W6, W7, W8, W9, W10, W11, W12, W13, W14, W15, W16, W17, W18, lW, lS, lC, a1, a2, a3, a4, m1, m2, m3, m4, o1, o2, o3, R3.cells, Cl.cells]
  · have e1 : ∀ c k, 0 ≤ c → evalCall Try.prog hints (m + 3) 19 [.ptr (.heap i) none 0, .int .i64 k] (hp.set i [.int .u64 c]) = some (.int .i64 (dr (nx c) k), hp.set i [.int .u64 (nx c)], true) := fun c k h => by
      have h := f19 (m + 1) i c k (hp.set i [.int .u64 c]) (hset _) h
      rwa [List.set_set] at h
    have hb := inv_all (s := s) hN1 hp0 N (by omega)
    have k1 : (N : Int) < N + 1 := by omega
    generalize itM N p (start s) N = x at *
    have hL : late p N = 0 ∨ late p N = 1 := by unfold late; split <;> simp
    obtain ⟨b1, b2, b3, b4, b5, b6, b7, b8, -, -, -, -, -, -, -, -, -⟩ := hb
    generalize late p N = L at *
    have b6 : x.W.length ≤ N + 1 := by omega
    have a1 := ar3 x.W.length
    have m1 : (x.W.length + 1) * 24 ≤ 140737488355328 := am24c b6 hN1.2
    have o1 := mt_ok 3 x.W.length
    have o4 : ∀ k n, mt k (n + 1) = k := fun k n => rfl
    have lW := flat_len R3.len x.W
    by_cases kp : p = N
    · have kp' : ((N : Int) == p) = true := by simp [kp]
      have E0 := e1 x.s 3 b1
      have D0 := dr4 (nx x.s) 3 (by omega)
      simp only [cutS, if_pos kp, frE, frM, Ms.box, List.length_append, List.length_cons, List.length_nil, Nat.zero_add, o4, List.flatMap_append, List.flatMap_cons, List.flatMap_nil, List.append_nil]
      generalize nx x.s = c0 at *
      generalize dr c0 3 = r0 at *
      clear e1 e0 hi hset hp'
      have W1 := wrap_id (x := 2 * (N : Int)) (by omega)
      have W2 := wrap_id (x := x.w + 2 * (N : Int)) (by omega)
      have W3 := wrap_id (x := 2 * (N : Int) + r0) (by omega)
      have W4 := wrap_id (x := x.w + (2 * (N : Int) + r0)) (by omega)
      generalize x.W.flatMap R3.cells = X at *
      generalize x.S.flatMap R3.cells = Y at *
      generalize x.C.flatMap Cl.cells = Z at *
      generalize mt 3 x.W.length = g1 at *
      generalize mt 3 x.S.length = g2 at *
      generalize mt 10 x.C.length = g3 at *
      generalize x.W.length = nW at *
      generalize x.S.length = nS at *
      generalize x.C.length = nC at *
      simp [k1, kp', E0, W1, W2, W3, W4, lW, a1, m1, o1, R3.cells]
    · have kp' : ((N : Int) == p) = false := by simp; omega
      simp only [cutS, if_neg kp, frE, frM, Ms.box]
      simp [k1, kp']
  · simp
end Go.Proofs.Ytoipglmjnibdpaa
end
