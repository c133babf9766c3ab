/-
  What functions of this program compute, as equations about the evaluator. No condition but those stated.
-/
import Derived.Test.YtoipglmjnibdpaaFacts
section
namespace Go.Proofs.Ytoipglmjnibdpaa
open Go Go.PS
theorem f15 (n : Nat) (a : Int) (hp : Heap) :
    evalCall Try.prog hints (n + 1) 15 [.int .i64 a] hp = some (.ptr (.heap hp.length) none 0, hp ++ [[.int .u64 (a % 281474976710656)]], false) := by
  have h := tm (a := a % 18446744073709551616) 281474976710656 (by omega)
  rw [evalCall_at _ _ _ hh15 rfl Try.func15 rfl (Nat.le_of_ble_eq_true rfl) rfl]
  simp [h]
theorem f16 (n : Nat) (a : Int) (hp : Heap) :
    evalCall Try.prog hints (n + 1) 16 [.int .i64 a] hp = some (.int .i64 (a % 281474976710656), hp, false) := by
  rw [evalCall_at _ _ _ hh16 rfl Try.func16 rfl (Nat.le_of_ble_eq_true rfl) rfl]
  by_cases h : 0 ≤ a
  · have h1 := tm 281474976710656 h
    have h2 : ¬ a % 281474976710656 < 0 := by omega
    simp [h1, h2]
  · obtain ⟨r, hr⟩ : ∃ r, r = a.tmod 281474976710656 := ⟨_, rfl⟩
    have h1 : r = - ((-a) % 281474976710656) := by
      rw [hr, ← tm _ (by omega), Int.neg_tmod, Int.neg_neg]
    by_cases h2 : r < 0
    · simp [← hr, h2, wrap_id (x := r + 281474976710656) (by omega)]
      omega
    · simp [← hr, h2]
      omega
def nx (s : Int) : Int := (s * 25214903917 + 11) % 281474976710656
theorem nx_lt (s : Int) : 0 ≤ nx s ∧ nx s < 281474976710656 := by unfold nx; omega
theorem f18nil (n : Nat) (hp : Heap) : evalCall Try.prog hints (n + 1) 18 [.nilp] hp = some (.int .i64 0, hp, false) := by
  rw [evalCall_at _ _ _ hh18 rfl Try.func18 rfl (Nat.le_of_ble_eq_true rfl) rfl]
  simp
theorem f18 (n : Nat) (i : Nat) (s : Int) (hp : Heap) (hi : hp[i]? = some [.int .u64 s]) (hs : 0 ≤ s) :
    evalCall Try.prog hints (n + 1) 18 [.ptr (.heap i) none 0] hp = some (.int .i64 (nx s), hp.set i [.int .u64 (nx s)], true) := by
  have hl : i < hp.length := (List.getElem?_eq_some_iff.1 hi).1
  have hset : ∀ x, (hp.set i x)[i]? = some x := fun x => List.getElem?_set_self hl
  have e : (s * 25214903917 + 11) % 18446744073709551616 % 281474976710656 = nx s := by unfold nx; omega
  have e' : (s * 25214903917 + 11) % 281474976710656 = nx s := by unfold nx; omega
  have w := wrap_id (x := nx s) (by have := nx_lt s; omega)
  rw [evalCall_at _ _ _ hh18 rfl Try.func18 rfl (Nat.le_of_ble_eq_true rfl) rfl]
  simp [hi, e, e', w, hset]
  exact hl
def dr (x n : Int) : Int := if n < 1 ∨ 65536 < n then 0 else x / 65536 % n
theorem f19nil (n : Nat) (k : Int) (hp : Heap) : evalCall Try.prog hints (n + 2) 19 [.nilp, .int .i64 k] hp = some (.int .i64 0, hp, false) := by
  rw [evalCall_at _ _ _ hh19 rfl Try.func19 rfl (Nat.le_of_ble_eq_true rfl) rfl]
  by_cases h1 : k < 1
  · simp [h1, f18nil]
  by_cases h2 : 65536 < k
  · simp [h1, h2, f18nil]
  have h3 : k ≠ 0 := by omega
  simp [h1, h2, h3, f18nil]
theorem f19 (n : Nat) (i : Nat) (s k : Int) (hp : Heap) (hi : hp[i]? = some [.int .u64 s]) (hs : 0 ≤ s) :
    evalCall Try.prog hints (n + 2) 19 [.ptr (.heap i) none 0, .int .i64 k] hp = some (.int .i64 (dr (nx s) k), hp.set i [.int .u64 (nx s)], true) := by
  have hn := nx_lt s
  have e := f18 n i s hp hi hs
  have e1 := fd (a := nx s) (b := 65536) (by omega)
  have e2 := tm (a := nx s / 65536) k (by omega)
  rw [evalCall_at _ _ _ hh19 rfl Try.func19 rfl (Nat.le_of_ble_eq_true rfl) rfl]
  by_cases h1 : k < 1
  · simp [h1, e, dr, e1]
  by_cases h2 : 65536 < k
  · simp [h1, h2, e, dr, e1]
  have h3 : k ≠ 0 := by omega
  simp [h1, h2, h3, e, e1, e2, dr, IntKind.bits]
theorem f20 (n : Nat) (x k : Int) (hp : Heap) (hx : 0 ≤ x) (hx1 : x < 281474976710656) :
    evalCall Try.prog hints (n + 1) 20 [.int .i64 x, .int .i64 k] hp = some (.int .i64 (dr x k), hp, false) := by
  have e1 := td (a := x) 65536 (by omega)
  have e2 := tm (a := x / 65536) k (by omega)
  have w := wrap_id (x := x / 65536) (by omega)
  rw [evalCall_at _ _ _ hh20 rfl Try.func20 rfl (Nat.le_of_ble_eq_true rfl) rfl]
  by_cases h1 : k < 1
  · simp [h1, dr]
  by_cases h2 : 65536 < k
  · simp [h1, h2, dr]
  have h3 : k ≠ 0 := by omega
  simp [h1, h2, h3, e1, e2, w, dr]
theorem f60 (n : Nat) (a b : Int) (hp : Heap) (ha : 0 ≤ a ∧ a < 281474976710656) (hb : 0 ≤ b ∧ b < 68719476736) (hn : 36 < n) :
    evalCall Try.prog hints (n + 1) 60 [.int .i64 a, .int .i64 b] hp = some (.int .i64 (a * b % 281474976710656), hp, false) := by
  rw [evalCall_at _ _ _ hh60 rfl Try.func60 rfl (Nat.le_of_ble_eq_true rfl) rfl]
  simp
  generalize hit : iter _ n _ = r
  refine iter_elim hit
    (fun x : Nat × Int × Int × Int => { fr := [(0, .int .i64 x.2.1), (1, .int .i64 x.2.2.1), (5, .int .i64 x.2.2.2)], hp := hp, base := hp.length, dirty := false })
    (fun x => (0 ≤ x.2.1 ∧ x.2.1 < 281474976710656) ∧ 0 ≤ x.2.2.1 ∧ x.2.2.1 < 68719476736 ∧ x.2.2.1 < 2 ^ x.1 ∧ (0 ≤ x.2.2.2 ∧ x.2.2.2 < 281474976710656) ∧ (x.2.2.2 + x.2.1 * x.2.2.1) % 281474976710656 = a * b % 281474976710656)
    (fun x => x.1)
    (fun x : Int × Int => (.exit 0, { fr := [(0, .int .i64 x.1), (1, .int .i64 x.2), (5, .int .i64 (a * b % 281474976710656)), (7, .bool false)], hp := hp, base := hp.length, dirty := false }))
    (fun _ => True) (36, a, b, 0) rfl ⟨ha, hb.1, hb.2, by simpa using hb.2, by simp, by simp⟩ hn ?_ ?_
  · rintro ⟨k, a', b', p⟩ ⟨h1, h2, h2', h2k, h3, h4⟩
    dsimp only at h1 h2 h2' h2k h3 h4
    by_cases h : 0 < b'
    · left
      obtain ⟨k, rfl⟩ : ∃ j, k = j + 1 := by
        cases k with
        | zero => simp at h2k; omega
        | succ k => exact ⟨k, rfl⟩
      rw [Int.pow_succ] at h2k
      have hm := tm (a := b') 2 h2
      have hd := td (a := b') 2 h2
      have w1 := wrap_id (x := b' / 2) (by omega)
      have w2 := wrap_id (x := 2 * a') (by omega)
      have w3 := wrap_id (x := p + a') (by omega)
      have m2 := tm (a := 2 * a') 281474976710656 (by omega)
      have m3 := tm (a := p + a') 281474976710656 (by omega)
      have key : ∀ u v c : Int, (u + (2 * c % 281474976710656) * v) % 281474976710656 = (u + c * (2 * v)) % 281474976710656 := fun u v c => by
        rw [Int.add_emod, Int.mul_emod, Int.emod_emod, ← Int.mul_emod, ← Int.add_emod]
        congr 2
        rw [Int.mul_comm 2 c, Int.mul_assoc]
      by_cases h5 : b' % 2 = 1
      · refine ⟨(k, 2 * a' % 281474976710656, b' / 2, (p + a') % 281474976710656), ?_, ⟨⟨by dsimp only; omega, by dsimp only; omega⟩, by dsimp only; omega, by dsimp only; omega, by dsimp only; omega, ⟨by dsimp only; omega, by dsimp only; omega⟩, ?_⟩, by simp⟩
        · simp [h, hm, hd, h5, w1, w2, w3, m2, m3]
        · dsimp only
          rw [key, Int.emod_add_emod, ← h4]
          have : b' = 2 * (b' / 2) + 1 := by omega
          congr 1
          conv => rhs; rw [this, Int.mul_add]
          omega
      · have h6 : b' % 2 = 0 := by omega
        refine ⟨(k, 2 * a' % 281474976710656, b' / 2, p), ?_, ⟨⟨by dsimp only; omega, by dsimp only; omega⟩, by dsimp only; omega, by dsimp only; omega, by dsimp only; omega, h3, ?_⟩, by simp⟩
        · simp [h, hm, hd, h6, w1, w2, w3, m2, m3]
        · dsimp only
          have : b' = 2 * (b' / 2) := by omega
          rw [key, ← h4, ← this]
    · right
      have : b' = 0 := by omega
      subst this
      refine ⟨(a', 0), ?_, by simp, trivial⟩
      have : p = a * b % 281474976710656 := by rw [← h4]; simp; omega
      simp [this]
  · rintro x rfl -
    simp
theorem f17 (n : Nat) (x : Int) (hp : Heap) (hx : 0 ≤ x ∧ x < 281474976710656) (hn : 36 < n) :
    evalCall Try.prog hints (n + 2) 17 [.int .i64 x] hp = some (.int .i64 (nx x), hp, false) := by
  have e := f60 n x 25214903917 hp hx (by omega) hn
  have w := wrap_id (x := x * 25214903917 % 281474976710656 + 11) (by omega)
  have m := tm (a := x * 25214903917 % 281474976710656 + 11) 281474976710656 (by omega)
  rw [evalCall_at _ _ _ hh17 rfl Try.func17 rfl (Nat.le_of_ble_eq_true rfl) rfl]
  simp [e, w, m, nx]
end Go.Proofs.Ytoipglmjnibdpaa
end

section
namespace Go.Proofs.Ytoipglmjnibdpaa
open Go Go.PS
theorem set_same {α : Type} {l : List α} {i : Nat} {x : α} (h : l[i]? = some x) : l.set i x = l := by
  obtain ⟨h1, h2⟩ := List.getElem?_eq_some_iff.1 h
  subst h2
  exact List.set_getElem_self h1
def it (s : Int) : Nat → Int
  | 0 => s
  | k + 1 => nx (it s k)
theorem it_lt {s : Int} (hs : 0 ≤ s ∧ s < 281474976710656) : ∀ k, 0 ≤ it s k ∧ it s k < 281474976710656
  | 0 => hs
  | k + 1 => nx_lt _
theorem it_nonneg {s : Int} (hs : 0 ≤ s) : ∀ k, 0 ≤ it s k
  | 0 => hs
  | k + 1 => (nx_lt _).1
def bt (s : Int) (j : Nat) : Int := dr (it s (j + 1)) 256
theorem bt_lt (s : Int) (j : Nat) : 0 ≤ bt s j ∧ bt s j < 256 := by
  unfold bt dr
  have := nx_lt (it s j)
  simp [it]
  omega
def tx (s : Int) (m : Nat) : List UInt8 := (List.range m).map fun j => UInt8.ofNat (bt s j).toNat
def tcell (s : Int) (m k : Nat) : List PV := (List.range m).map fun j => .int .u8 (if j < k then bt s j else 0)
theorem tcell_zero (s : Int) (m : Nat) : tcell s m 0 = List.replicate m (.int .u8 0) := by
  unfold tcell
  apply List.ext_getElem (by simp)
  intro j h1 h2
  simp
theorem tcell_len (s : Int) (m k : Nat) : (tcell s m k).length = m := by simp [tcell]
theorem tcell_set (s : Int) (m k : Nat) (hk : k < m) : (tcell s m k).set k (.int .u8 (bt s k)) = tcell s m (k + 1) := by
  apply List.ext_getElem (by simp [tcell])
  intro j h1 h2
  simp [tcell] at h1 h2
  by_cases h : k = j
  · subst h; simp [tcell]
  · rw [List.getElem_set_ne h]
    simp only [tcell, List.getElem_map, List.getElem_range]
    by_cases hj : j < k
    · rw [if_pos hj, if_pos (by omega)]
    · rw [if_neg hj, if_neg (by omega)]
theorem bytes_tcell (s : Int) (m : Nat) : bytesOf (tcell s m m) = some (tx s m) := by
  have : ∀ l : List Nat, (∀ j ∈ l, j < m) → bytesOf (l.map fun j => .int .u8 (if j < m then bt s j else 0)) = some (l.map fun j => UInt8.ofNat (bt s j).toNat) := by
    intro l hl
    induction l with
    | nil => rfl
    | cons a l ih =>
      have h := hl a (by simp)
      simp only [List.map_cons, bytesOf, if_pos h]
      rw [ih fun j hj => hl j (by simp [hj])]
  exact this _ fun j hj => List.mem_range.1 hj
theorem f21nil (n : Nat) (k : Int) (hp : Heap) : evalCall Try.prog hints (n + 1) 21 [.nilp, .int .i64 k] hp = some (.str [], hp, false) := by
  rw [evalCall_at _ _ _ hh21 rfl Try.func21 rfl (Nat.le_of_ble_eq_true rfl) rfl]
  simp
theorem f21none (n : Nat) (i : Nat) (k : Int) (hp : Heap) (hk : k < 1) : evalCall Try.prog hints (n + 1) 21 [.ptr (.heap i) none 0, .int .i64 k] hp = some (.str [], hp, false) := by
  rw [evalCall_at _ _ _ hh21 rfl Try.func21 rfl (Nat.le_of_ble_eq_true rfl) rfl]
  simp [hk]
theorem f21 (n : Nat) (i : Nat) (s k : Int) (hp : Heap) (hi : hp[i]? = some [.int .u64 s]) (hs : 0 ≤ s) (hk : 1 ≤ k) (m : Nat) (hm : (m : Int) = min k 4096) (hn : 4096 < n) :
    evalCall Try.prog hints (n + 3) 21 [.ptr (.heap i) none 0, .int .i64 k] hp = some (.str (tx s m), hp.set i [.int .u64 (it s m)], true) := by
  have hl : i < hp.length := (List.getElem?_eq_some_iff.1 hi).1
  have h1 : ¬ k < 1 := by omega
  have hm1 : 1 ≤ m ∧ m ≤ 4096 := by omega
  rw [evalCall_at _ _ _ hh21 rfl Try.func21 rfl (Nat.le_of_ble_eq_true rfl) rfl]
  have e : (if 4096 < k then 4096 else k) = (m : Int) := by split <;> omega
  have e1 : (m : Int) ≤ 140737488355328 := by omega
  simp [h1, e, e1]
  rw [iter_count (fun j => { fr := [(0, .ptr (.heap i) none 0), (5, .sl (.mu 1) m (tcell s m j)), (17, .int .i64 m), (18, .int .i64 j)], hp := hp.set i [.int .u64 (it s j)], base := hp.length, dirty := decide (0 < j) })
    (.exit 0, { fr := [(0, .ptr (.heap i) none 0), (5, .sl (.mu 1) m (tcell s m m)), (17, .int .i64 m), (18, .int .i64 m), (19, .bool false)], hp := hp.set i [.int .u64 (it s m)], base := hp.length, dirty := true }) m (n + 2) _ ?_ (by omega)]
  · simp [tcell_len, bytes_tcell]
  · intro j hj
    have e19 := f19 n i (it s j) 256 (hp.set i [.int .u64 (it s j)]) (List.getElem?_set_self hl) (it_nonneg hs j)
    have b1 := bt_lt s j
    have e2 : dr (it s (j + 1)) 256 = bt s j := rfl
    have e3 : nx (it s j) = it s (j + 1) := rfl
    have e4 : bt s j % 256 = bt s j := by omega
    have e5 := wrap_id (x := (j : Int) + 1) (by omega)
    simp [hj, (show j + 1 ≤ m from hj), e19, e2, e3, e4, e5, tcell_len, tcell_set]
  · simp
    omega
  · simp
  · rw [← tcell_zero s]
    simp [it]
    exact (set_same hi).symm
theorem live22 (n : Nat) (hp : Heap) : ∃ hp', evalCall Try.prog hints (n + 10) 22 [] hp = some (.bool true, hp ++ hp', true) := by
  have e1 := f18 (n + 8) hp.length 0 (hp ++ [[.int .u64 0]]) (by simp) (by omega)
  have e2 := f18 (n + 8) hp.length (nx 0) (hp ++ [[.int .u64 (nx 0)]]) (by simp) (by decide)
  have e3 := f18 (n + 8) (hp.length + 1) 5 (hp ++ [[.int .u64 (nx (nx 0))], [.int .u64 5]]) (by simp) (by omega)
  have e4 := f18 (n + 8) (hp.length + 2) 5 (hp ++ [[.int .u64 (nx (nx 0))], [.int .u64 (nx 5)], [.int .u64 5]]) (by simp) (by omega)
  have c1 : nx 0 = 11 := by decide
  have c2 : nx 11 = 277363943098 := by decide
  simp only [c1, c2] at e1 e2 e3 e4
  rw [evalCall_at _ _ _ hh22 rfl Try.func22 rfl (Nat.le_of_ble_eq_true rfl) rfl]
  simp at e1 e2 e3 e4
  simp [f15, e1, e2, e3, e4]
end Go.Proofs.Ytoipglmjnibdpaa
end

section
namespace Go.Proofs.Ytoipglmjnibdpaa
open Go Go.PS
theorem it_add (s : Int) (a : Nat) : ∀ b, it s (a + b) = it (it s a) b
  | 0 => rfl
  | b + 1 => by rw [← Nat.add_assoc]; simp only [it]; rw [it_add s a b]
set_option maxHeartbeats 2000000 in
theorem f3 (n : Nat) (a : Int) (l : List Int) (hl : l.length ≤ 9223372036854775807) (hn : 5000 < n) : ∃ hp d, evalCall Try.prog hints (n + 20) 3 [.int .i64 a, .sl .sh l.length (l.map (PV.int .i64))] [] = some (.bool true, hp, d) := by
  obtain ⟨N, hN⟩ : ∃ N, N = min l.length 60 := ⟨_, rfl⟩
  obtain ⟨s, hs⟩ : ∃ s, s = a % 281474976710656 := ⟨_, rfl⟩
  have s0 : 0 ≤ s ∧ s < 281474976710656 := by omega
  obtain ⟨u, hu⟩ : ∃ u, u = it s N := ⟨_, rfl⟩
  have u0 : 0 ≤ u ∧ u < 281474976710656 := hu ▸ it_lt s0 N
  obtain ⟨hp', e22⟩ := live22 (n + 9) [[.int .u64 (it u 3)]]
  apply of_map
  rw [evalCall_at _ _ _ hh3 rfl Try.func3 rfl (Nat.le_of_ble_eq_true rfl) rfl]
  simp [f15, f16, ← hs]
  rw [iter_count (fun j => { fr := [(1, .sl .sh l.length (l.map (PV.int .i64))), (5, .ptr (.heap 0) none 0), (6, .int .i64 (it s j)), (7, .int .i64 j)], hp := [[.int .u64 (it s j)]], base := 0, dirty := decide (0 < j) })
    (.exit 0, { fr := [(1, .sl .sh l.length (l.map (PV.int .i64))), (5, .ptr (.heap 0) none 0), (6, .int .i64 u), (7, .int .i64 N), (23, .bool false)], hp := [[.int .u64 u]], base := 0, dirty := decide (0 < N) }) N (n + 19) _ ?_ (by omega)]
  · have e21 := f21 (n + 16) 0 u 3 [[.int .u64 u]] rfl u0.1 (by omega) 3 (by omega) (by omega)
    simp [e21]
    rw [iter_count (fun j => { fr := [(5, .ptr (.heap 0) none 0), (6, .int .i64 (it u j)), (8, .str (tx u 3)), (9, .sl (.mu 1) j ((List.range j).map fun j => .int .u8 (bt u j))), (10, .int .i64 j)], hp := [[.int .u64 (it u 3)]], base := 0, dirty := true })
      (.exit 2, { fr := [(5, .ptr (.heap 0) none 0), (6, .int .i64 (it u 3)), (8, .str (tx u 3)), (9, .sl (.mu 1) 3 ((List.range 3).map fun j => .int .u8 (bt u j))), (10, .int .i64 3), (60, .bool false)], hp := [[.int .u64 (it u 3)]], base := 0, dirty := true }) 3 (n + 19) _ ?_ (by omega)]
    · have v0 := (it_lt u0 3).1
      have b3 : bytesOf ((List.range 3).map fun j => .int .u8 (bt u j)) = some (tx u 3) := by
        rw [← bytes_tcell]
        congr 1
      have g1 := f21none (n + 18) 0 0 ([.int .u64 (it u 3)] :: hp') (by omega)
      have g2 := f21 (n + 16) 0 (it u 3) 5000 ([.int .u64 (it u 3)] :: hp') rfl v0 (by omega) 4096 (by omega) (by omega)
      have g3 : (tx (it u 3) 4096).length = 4096 := by simp [tx]
      simp [e22, b3, g1, g2, g3, f21nil, f18nil, f19nil]
    · intro j hj
      have e17 := f17 (n + 17) (it u j) [[.int .u64 (it u 3)]] (it_lt u0 j) (by omega)
      have e17' : nx (it u j) = it u (j + 1) := rfl
      have e20 := f20 (n + 18) (it u (j + 1)) 256 [[.int .u64 (it u 3)]] (it_lt u0 _).1 (it_lt u0 _).2
      have e20' : dr (it u (j + 1)) 256 = bt u j := rfl
      have b1 := bt_lt u j
      have e4 : bt u j % 256 = bt u j := by omega
      have e5 := wrap_id (x := (j : Int) + 1) (by omega)
      have e6 : j ≤ 140737488355327 := by omega
      have c2 : (j : Int) < 3 := by omega
      simp [c2, e17, e17', e20, e20', e4, e5, e6, List.range_succ]
    · simp
    · simp
    · simp [it]
  · intro j hj
    have c1 : j < l.length := by omega
    have c2 : (j : Int) < 60 := by omega
    have e17 := f17 (n + 17) (it s j) [[.int .u64 (it s j)]] (it_lt s0 j) (by omega)
    have e17' : nx (it s j) = it s (j + 1) := rfl
    have w := wrap_id (x := (j : Int) + 1) (by omega)
    have tj := tm (a := (j : Int)) 2 (by omega)
    by_cases h2 : (j : Int) % 2 = 0
    · have e18 := f18 (n + 18) 0 (it s j) [[.int .u64 (it s j)]] rfl (it_lt s0 j).1
      simp [c1, c2, e17, e17', tj, h2, e18, w]
    · have h3 : (j : Int) % 2 = 1 := by omega
      have e19 := f19 (n + 17) 0 (it s j) l[j] [[.int .u64 (it s j)]] rfl (it_lt s0 j).1
      have e20 := f20 (n + 18) (it s (j + 1)) l[j] [[.int .u64 (it s (j + 1))]] (it_lt s0 _).1 (it_lt s0 _).2
      simp [c1, c2, e17, e17', tj, h3, e19, e20, w]
  · by_cases c1 : N < l.length
    · have c2 : ¬ (N : Int) < 60 := by omega
      simp [c1, c2, hu]
    · simp [c1, hu]
  · simp
  · simp [it]
end Go.Proofs.Ytoipglmjnibdpaa
end
