/-
  What functions of this program compute, as equations about the evaluator. No condition but those stated.
-/
import Derived.Test.YtoipglmjnibdpaaFacts
set_option linter.all false
section
namespace Go.Proofs.Ytoipglmjnibdpaa
open Go Go.PS
theorem wrap_byte (b : UInt8) : IntKind.i64.wrap (b.toNat : Int) = b.toNat := by
  have := b.toNat_lt
  exact wrap_id (by omega)
theorem set_at {α : Type} (l : List α) (a b : α) : (l ++ [a]).set l.length b = l ++ [b] := by
  simp
def rdC (e : Int) (s : List UInt8) (p : Nat) : List PV := [.int .i64 e, .str s, .int .i64 p]
theorem f80 (n : Nat) (s : List UInt8) (hp : Heap) : evalCall Try.prog hints (n + 1) 80 [.str s] hp = some (.ptr (.heap hp.length) none 0, hp ++ [rdC 0 s 0], false) := by
  rw [evalCall_at _ _ _ hh80 rfl Try.func80 rfl (Nat.le_of_ble_eq_true rfl) rfl]
  simp [rdC]
theorem f81 (n i : Nat) (e : Int) (s : List UInt8) (p : Nat) (hp : Heap) (hi : hp[i]? = some (rdC e s p)) (hs : s.length ≤ 9223372036854775807) (hp' : p ≤ s.length) :
    evalCall Try.prog hints (n + 1) 81 [.ptr (.heap i) none 0] hp = some (.int .i64 (if e = 0 then (s.length : Int) - p else 0), hp, false) := by
  rw [evalCall_at _ _ _ hh81 rfl Try.func81 rfl (Nat.le_of_ble_eq_true rfl) rfl]
  have w := wrap_id (x := (s.length : Int) - p) (by omega)
  by_cases h : e = 0
  · simp [hi, rdC, h, w]
  · have h' : (e != 0) = true := by simp [h]
    simp [hi, rdC, h, h']
theorem f85 (n i : Nat) (e : Int) (s : List UInt8) (p : Nat) (hp : Heap) (hi : hp[i]? = some (rdC e s p)) :
    evalCall Try.prog hints (n + 1) 85 [.ptr (.heap i) none 0] hp = some (.int .i64 e, hp, false) := by
  rw [evalCall_at _ _ _ hh85 rfl Try.func85 rfl (Nat.le_of_ble_eq_true rfl) rfl]
  simp [hi, rdC]
theorem f105 (n i : Nat) (e c : Int) (s : List UInt8) (p : Nat) (hp : Heap) (hi : hp[i]? = some (rdC e s p)) (he : e = 0) :
    evalCall Try.prog hints (n + 1) 105 [.ptr (.heap i) none 0, .int .i64 c] hp = some (.tup [], hp.set i (rdC c s p), true) := by
  have hl : i < hp.length := (List.getElem?_eq_some_iff.1 hi).1
  rw [evalCall_at _ _ _ hh105 rfl Try.func105 rfl (Nat.le_of_ble_eq_true rfl) rfl]
  simp [hi, rdC, he]
  exact hl
/-- What a reader's next bytes are. -/
theorem f98e (n i : Nat) (e : Int) (s : List UInt8) (p : Nat) (k : Int) (hp : Heap) (hi : hp[i]? = some (rdC e s p)) (he : e ≠ 0) :
    evalCall Try.prog hints (n + 2) 98 [.ptr (.heap i) none 0, .int .i64 k] hp = some (.str [], hp, false) := by
  have h' : (e != 0) = true := by simp [he]
  rw [evalCall_at _ _ _ hh98 rfl Try.func98 rfl (Nat.le_of_ble_eq_true rfl) rfl]
  simp [hi, rdC, h']
theorem f98s (n i : Nat) (s : List UInt8) (p : Nat) (k : Nat) (hp : Heap) (hi : hp[i]? = some (rdC 0 s p)) (hs : s.length ≤ 4611686018427387904) (hp' : p ≤ s.length) (hk : s.length < p + k) :
    evalCall Try.prog hints (n + 2) 98 [.ptr (.heap i) none 0, .int .i64 k] hp = some (.str [], hp.set i (rdC 5 s p), true) := by
  have e105 := f105 n i 0 5 s p hp hi rfl
  have w := wrap_id (x := (s.length : Int) - p) (by omega)
  have h2 : (s.length : Int) - p < k := by omega
  have h3 : ¬ (k : Int) < 0 := by omega
  rw [evalCall_at _ _ _ hh98 rfl Try.func98 rfl (Nat.le_of_ble_eq_true rfl) rfl]
  simp [rdC] at hi e105
  simp [hi, rdC, h2, h3, w, e105]
theorem f98 (n i : Nat) (s : List UInt8) (p : Nat) (k : Nat) (hp : Heap) (hi : hp[i]? = some (rdC 0 s p)) (hs : s.length ≤ 4611686018427387904) (hk : p + k ≤ s.length) :
    evalCall Try.prog hints (n + 2) 98 [.ptr (.heap i) none 0, .int .i64 k] hp = some (.str ((s.drop p).take k), hp.set i (rdC 0 s (p + k)), true) := by
  have hl : i < hp.length := (List.getElem?_eq_some_iff.1 hi).1
  have w := wrap_id (x := (s.length : Int) - p) (by omega)
  have w2 := wrap_id (x := (p : Int) + k) (by omega)
  have h2 : ¬ (s.length : Int) - p < k := by omega
  have h3 : ¬ (k : Int) < 0 := by omega
  have h4 : (p : Int) + k ≤ s.length := by omega
  have h5 : ((p : Int) + k).toNat = p + k := by omega
  have h6 : (0 : Int) ≤ (p : Int) + k := by omega
  have h7 : (p : Int) ≤ (p : Int) + k := by omega
  rw [evalCall_at _ _ _ hh98 rfl Try.func98 rfl (Nat.le_of_ble_eq_true rfl) rfl]
  simp [rdC] at hi
  simp [hi, rdC, h2, h3, w, w2, h4, h5, h6, h7]
  exact hl
theorem and255 (x : Nat) (h : x < 256) : (BitVec.ofInt 64 (x : Int) &&& BitVec.ofInt 64 255).toNat = x := by
  rw [BitVec.toNat_and, BitVec.toNat_ofInt, BitVec.toNat_ofInt]
  have e1 : ((x : Int) % (2 ^ 64 : Nat)).toNat = x := by omega
  have e2 : ((255 : Int) % (2 ^ 64 : Nat)).toNat = 2 ^ 8 - 1 := by decide
  rw [e1, e2, Nat.and_two_pow_sub_one_eq_mod]
  omega
theorem or_two (x y : Nat) (hx : x < 256) (hy : y < 256) : (BitVec.ofInt 64 (x : Int) ||| BitVec.ofInt 64 ((y : Int) * 256)).toNat = x + 256 * y := by
  rw [BitVec.toNat_or, BitVec.toNat_ofInt, BitVec.toNat_ofInt]
  have e1 : ((x : Int) % (2 ^ 64 : Nat)).toNat = x := by omega
  have e2 : (((y : Int) * 256) % (2 ^ 64 : Nat)).toNat = y <<< 8 := by rw [Nat.shiftLeft_eq]; omega
  rw [e1, e2, Nat.or_comm, ← Nat.shiftLeft_add_eq_or_of_lt hx, Nat.shiftLeft_eq]
  omega
theorem f99 (n : Nat) (x y : UInt8) (hp : Heap) : evalCall Try.prog hints (n + 1) 99 [.int .i64 (x.toNat : Int), .int .i64 (y.toNat : Int)] hp = some (.int .i64 ((x.toNat : Int) + 256 * y.toNat), hp, false) := by
  have hx := x.toNat_lt
  have hy := y.toNat_lt
  have b1 : ∀ z : UInt8, binI .and .i64 (z.toNat : Int) 255 = some (.int .i64 z.toNat) := fun z => by
    show some (PV.int .i64 (IntKind.i64.wrap ((BitVec.ofInt 64 (z.toNat : Int) &&& BitVec.ofInt 64 255).toNat : Nat))) = _
    rw [and255 z.toNat z.toNat_lt, wrap_byte]
  have w2 := wrap_id (x := ((x.toNat + 256 * y.toNat : Nat) : Int)) (by omega)
  have b2 : binI .or .i64 (x.toNat : Int) ((y.toNat : Int) * 256) = some (.int .i64 ((x.toNat : Int) + 256 * y.toNat)) := by
    show some (PV.int .i64 (IntKind.i64.wrap ((BitVec.ofInt 64 (x.toNat : Int) ||| BitVec.ofInt 64 ((y.toNat : Int) * 256)).toNat : Nat))) = _
    rw [or_two x.toNat y.toNat hx hy, w2]
    simp
  have w := wrap_id (x := (y.toNat : Int) * 256) (by omega)
  rw [evalCall_at _ _ _ hh99 rfl Try.func99 rfl (Nat.le_of_ble_eq_true rfl) rfl]
  simp [-binI, b1, b2, w]
end Go.Proofs.Ytoipglmjnibdpaa
end

section
namespace Go.Proofs.Ytoipglmjnibdpaa
open Go Go.PS
section
variable (n i : Nat) (s : List UInt8) (p : Nat) (hp : Heap)
theorem f82 (hi : hp[i]? = some (rdC 0 s p)) (hs : s.length ≤ 4611686018427387904) (a b : UInt8) (r : List UInt8) (hk : s.drop p = a :: b :: r) :
    evalCall Try.prog hints (n + 3) 82 [.ptr (.heap i) none 0] hp = some (.int .i64 ((a.toNat : Int) + 256 * b.toNat), hp.set i (rdC 0 s (p + 2)), true) := by
  have hl : p + 2 ≤ s.length := by have := congrArg List.length hk; simp at this; omega
  have e98 := f98 n i s p 2 hp hi hs hl
  rw [hk] at e98
  simp at e98
  rw [evalCall_at _ _ _ hh82 rfl Try.func82 rfl (Nat.le_of_ble_eq_true rfl) rfl]
  simp [e98, f99, wrap_byte]
theorem f82s (hi : hp[i]? = some (rdC 0 s p)) (hs : s.length ≤ 4611686018427387904) (hp' : p ≤ s.length) (hk : s.length < p + 2) :
    evalCall Try.prog hints (n + 3) 82 [.ptr (.heap i) none 0] hp = some (.int .i64 0, hp.set i (rdC 5 s p), true) := by
  have e98 := f98s n i s p 2 hp hi hs hp' hk
  simp at e98
  rw [evalCall_at _ _ _ hh82 rfl Try.func82 rfl (Nat.le_of_ble_eq_true rfl) rfl]
  simp [e98]
theorem f83 (hi : hp[i]? = some (rdC 0 s p)) (hs : s.length ≤ 4611686018427387904) (a : UInt8) (r : List UInt8) (hk : s.drop p = a :: r) :
    evalCall Try.prog hints (n + 3) 83 [.ptr (.heap i) none 0] hp = some (.int .i64 (a.toNat : Int), hp.set i (rdC 0 s (p + 1)), true) := by
  have hl : p + 1 ≤ s.length := by have := congrArg List.length hk; simp at this; omega
  have e98 := f98 n i s p 1 hp hi hs hl
  rw [hk] at e98
  simp at e98
  rw [evalCall_at _ _ _ hh83 rfl Try.func83 rfl (Nat.le_of_ble_eq_true rfl) rfl]
  simp [e98, wrap_byte]
theorem f83s (hi : hp[i]? = some (rdC 0 s p)) (hs : s.length ≤ 4611686018427387904) (hp' : p = s.length) :
    evalCall Try.prog hints (n + 3) 83 [.ptr (.heap i) none 0] hp = some (.int .i64 0, hp.set i (rdC 5 s p), true) := by
  have e98 := f98s n i s p 1 hp hi hs (by omega) (by omega)
  simp at e98
  rw [evalCall_at _ _ _ hh83 rfl Try.func83 rfl (Nat.le_of_ble_eq_true rfl) rfl]
  simp [e98]
theorem f83e (e : Int) (hi : hp[i]? = some (rdC e s p)) (he : e ≠ 0) :
    evalCall Try.prog hints (n + 3) 83 [.ptr (.heap i) none 0] hp = some (.int .i64 0, hp, false) := by
  have e98 := f98e n i e s p 1 hp hi he
  rw [evalCall_at _ _ _ hh83 rfl Try.func83 rfl (Nat.le_of_ble_eq_true rfl) rfl]
  simp [e98]
theorem f84 (k : Nat) (hi : hp[i]? = some (rdC 0 s p)) (hs : s.length ≤ 4611686018427387904) (hk : p + k ≤ s.length) :
    evalCall Try.prog hints (n + 3) 84 [.ptr (.heap i) none 0, .int .i64 k] hp = some (.str ((s.drop p).take k), hp.set i (rdC 0 s (p + k)), true) := by
  have e98 := f98 n i s p k hp hi hs hk
  rw [evalCall_at _ _ _ hh84 rfl Try.func84 rfl (Nat.le_of_ble_eq_true rfl) rfl]
  simp [e98]
theorem f84s (k : Nat) (hi : hp[i]? = some (rdC 0 s p)) (hs : s.length ≤ 4611686018427387904) (hp' : p ≤ s.length) (hk : s.length < p + k) :
    evalCall Try.prog hints (n + 3) 84 [.ptr (.heap i) none 0, .int .i64 k] hp = some (.str [], hp.set i (rdC 5 s p), true) := by
  have e98 := f98s n i s p k hp hi hs hp' hk
  rw [evalCall_at _ _ _ hh84 rfl Try.func84 rfl (Nat.le_of_ble_eq_true rfl) rfl]
  simp [e98]
theorem f84e (k e : Int) (hi : hp[i]? = some (rdC e s p)) (he : e ≠ 0) :
    evalCall Try.prog hints (n + 3) 84 [.ptr (.heap i) none 0, .int .i64 k] hp = some (.str [], hp, false) := by
  have e98 := f98e n i e s p k hp hi he
  rw [evalCall_at _ _ _ hh84 rfl Try.func84 rfl (Nat.le_of_ble_eq_true rfl) rfl]
  simp [e98]
end
/-- What changes make of bytes: 'la' bytes, from place i on. -/
def ap (la : Nat) (c : List UInt8) (out : List UInt8) (e : Nat) : List UInt8 × Int :=
  match c with
  | [] => (out, 0)
  | x :: y :: z :: r =>
    let f := x.toNat + 256 * y.toNat
    let k := z.toNat
    if r.length < k then ([], 5)
    else if k = 0 ∨ f < e then ([], 3)
    else if la < f + k then ([], 6)
    else ap la (r.drop k) (out.take f ++ r.take k ++ out.drop (f + k)) (f + k)
  | _ => ([], 5)
termination_by c.length
decreasing_by simp; omega
theorem splice_eq (cs : List PV) (ys : List PV) (off : Nat) (h : off + ys.length ≤ cs.length) : splice cs off ys = cs.take off ++ ys ++ cs.drop (off + ys.length) := by
  induction ys generalizing cs off with
  | nil => simp [splice]
  | cons y ys ih =>
    simp at h
    rw [splice, ih _ _ (by simp; omega)]
    rw [List.take_set, List.drop_set_of_lt (by omega)]
    rw [List.take_succ_eq_append_getElem (by omega), List.set_append]
    simp
    have : off < cs.length := by omega
    simp [Nat.min_eq_left (Nat.le_of_lt this)]
    congr 1
    omega
end Go.Proofs.Ytoipglmjnibdpaa
end

section
namespace Go.Proofs.Ytoipglmjnibdpaa
open Go Go.PS
theorem ob_len (s : List UInt8) : (ofBytes s).length = s.length := by simp [ofBytes]
theorem ob_all (s : List UInt8) : (ofBytes s).all storable = true := by simp [ofBytes]
theorem ob_out (s : List UInt8) : (ofBytes s).map outCell = ofBytes s := by simp [ofBytes]
theorem ob_bytes (s : List UInt8) : bytesOf (ofBytes s) = some s := by
  induction s with
  | nil => rfl
  | cons a s ih =>
    show bytesOf (PV.int .u8 a.toNat :: ofBytes s) = _
    simp only [bytesOf, ih]
    simp
theorem ob_splice (out t : List UInt8) (f : Nat) (h : f + t.length ≤ out.length) : splice (ofBytes out) f (ofBytes t) = ofBytes (out.take f ++ t ++ out.drop (f + t.length)) := by
  rw [splice_eq _ _ _ (by simp [ob_len]; omega)]
  simp [ofBytes]
theorem drop_cons {α : Type} {l : List α} {p : Nat} {x : α} {r : List α} (h : l.drop p = x :: r) : l.drop (p + 1) = r := by
  rw [← List.drop_drop, h]; rfl
set_option maxHeartbeats 2000000 in
theorem f51 (n : Nat) (a c : List UInt8) (hp : Heap) (ha : a.length ≤ 1000000) (hc : c.length ≤ n) (hc' : c.length ≤ 1000000) :
    ∃ rd d, evalCall Try.prog hints (n + 5) 51 [.str a, .str c] hp = some (.tup [.str (ap a.length c a 0).1, .int .i64 (ap a.length c a 0).2], hp ++ [rd], d) := by
  have e80 := f80 (n + 3) c hp
  rw [evalCall_at _ _ _ hh51 rfl Try.func51 rfl (Nat.le_of_ble_eq_true rfl) rfl]
  simp [e80]
  generalize hit : iter _ _ _ = r
  refine iter_elim hit (fun x : List UInt8 × Nat × Nat × Bool => { fr := [(6, .sl (.mu 1) x.1.length (ofBytes x.1)), (7, .int .i64 x.2.1), (8, .ptr (.heap hp.length) none 0)], hp := hp ++ [rdC 0 c x.2.2.1], base := hp.length, dirty := x.2.2.2 })
    (fun x => (x.1.length = a.length ∧ x.2.1 ≤ a.length ∧ x.2.2.1 ≤ c.length) ∧ ap a.length (c.drop x.2.2.1) x.1 x.2.1 = ap a.length c a 0) (fun x => c.length - x.2.2.1)
    (fun y : (List UInt8 × Nat × Nat × Bool) ⊕ (Int × List PV) => match y with
      | .inl x => (.exit 0, { fr := [(6, .sl (.mu 1) x.1.length (ofBytes x.1)), (7, .int .i64 x.2.1), (8, .ptr (.heap hp.length) none 0), (18, .bool false)], hp := hp ++ [rdC 0 c x.2.2.1], base := hp.length, dirty := x.2.2.2 })
      | .inr (e, rd) => (.ret, { fr := [(4, .str []), (5, .int .i64 e)], hp := hp ++ [rd], base := hp.length, dirty := true }))
    (fun y => match y with | .inl x => ap a.length c a 0 = (x.1, 0) | .inr (e, _) => ap a.length c a 0 = ([], e)) (a, 0, 0, false) rfl ⟨by simp, by simp⟩ (by simp; omega) ?_ ?_
  · rintro ⟨out, e, p, d⟩ ⟨⟨h1, h2, h3⟩, h4⟩
    dsimp only at h1 h2 h3 h4 ⊢
    have g : ∀ x : List PV, (hp ++ [x])[hp.length]? = some x := fun x => by simp
    have e81 := f81 (n + 3) hp.length 0 c p (hp ++ [rdC 0 c p]) (g _) (by omega) h3
    simp at e81
    rcases hd : c.drop p with _ | ⟨x, _ | ⟨y, _ | ⟨z, r⟩⟩⟩
    · rw [hd] at h4
      have hlen := congrArg List.length hd
      simp at hlen
      right
      refine ⟨.inl (out, e, p, d), ?_, by simp, ?_⟩
      · have c1 : ¬ p < c.length := by omega
        simp [e81, c1]
      · dsimp only; rw [← h4]; simp [ap]
    · rw [hd] at h4
      have hlen := congrArg List.length hd
      simp at hlen
      right
      refine ⟨.inr (5, rdC 5 c p), ?_, by simp, ?_⟩
      · have c1 : p < c.length := by omega
        have e82 := f82s (n + 1) hp.length c p (hp ++ [rdC 0 c p]) (g _) (by omega) h3 (by omega)
        have e83 := f83e (n + 1) hp.length c p (hp ++ [rdC 5 c p]) 5 (g _) (by simp)
        have e84 := f84e (n + 1) hp.length c p (hp ++ [rdC 5 c p]) 0 5 (g _) (by simp)
        have e85 := f85 (n + 3) hp.length 5 c p (hp ++ [rdC 5 c p]) (g _)
        rw [set_at] at e82
        simp [e81, c1, e82, e83, e84, e85]
      · dsimp only; rw [← h4]; simp [ap]
    · rw [hd] at h4
      have hlen := congrArg List.length hd
      simp at hlen
      right
      refine ⟨.inr (5, rdC 5 c (p + 2)), ?_, by simp, ?_⟩
      · have c1 : p < c.length := by omega
        have e82 := f82 (n + 1) hp.length c p (hp ++ [rdC 0 c p]) (g _) (by omega) x y [] hd
        have e83 := f83s (n + 1) hp.length c (p + 2) (hp ++ [rdC 0 c (p + 2)]) (g _) (by omega) (by omega)
        have e84 := f84e (n + 1) hp.length c (p + 2) (hp ++ [rdC 5 c (p + 2)]) 0 5 (g _) (by simp)
        have e85 := f85 (n + 3) hp.length 5 c (p + 2) (hp ++ [rdC 5 c (p + 2)]) (g _)
        rw [set_at] at e82 e83
        simp [e81, c1, e82, e83, e84, e85]
      · dsimp only; rw [← h4]; simp [ap]
    · rw [hd] at h4
      have hlen := congrArg List.length hd
      simp at hlen
      have hd3 : c.drop (p + 2) = z :: r := drop_cons (drop_cons hd)
      have hd4 : c.drop (p + 3) = r := drop_cons hd3
      have c1 : p < c.length := by omega
      have e82 := f82 (n + 1) hp.length c p (hp ++ [rdC 0 c p]) (g _) (by omega) x y _ hd
      have e83 := f83 (n + 1) hp.length c (p + 2) (hp ++ [rdC 0 c (p + 2)]) (g _) (by omega) z r hd3
      rw [set_at] at e82 e83
      rw [ap] at h4
      obtain ⟨f, hf⟩ : ∃ f, f = x.toNat + 256 * y.toNat := ⟨_, rfl⟩
      obtain ⟨k, hk⟩ : ∃ k, k = z.toNat := ⟨_, rfl⟩
      have hf' : (x.toNat : Int) + 256 * y.toNat = (f : Int) := by omega
      rw [hf'] at e82
      rw [← hk] at e83
      rw [← hf, ← hk] at h4
      have hzl := z.toNat_lt
      have hxl := x.toNat_lt
      have hyl := y.toNat_lt
      by_cases c2 : r.length < k
      · rw [if_pos c2] at h4
        right
        refine ⟨.inr (5, rdC 5 c (p + 3)), ?_, by simp, h4.symm⟩
        have e84 := f84s (n + 1) hp.length c (p + 3) (hp ++ [rdC 0 c (p + 3)]) k (g _) (by omega) (by omega) (by omega)
        have e85 := f85 (n + 3) hp.length 5 c (p + 3) (hp ++ [rdC 5 c (p + 3)]) (g _)
        rw [set_at] at e84
        simp [e81, c1, e82, e83, e84, e85]
      · rw [if_neg c2] at h4
        have e84 := f84 (n + 1) hp.length c (p + 3) (hp ++ [rdC 0 c (p + 3)]) k (g _) (by omega) (by omega)
        have e85 := f85 (n + 3) hp.length 0 c (p + 3 + k) (hp ++ [rdC 0 c (p + 3 + k)]) (g _)
        rw [set_at, hd4] at e84
        by_cases c3 : k = 0
        · rw [if_pos (.inl c3)] at h4
          right
          refine ⟨.inr (3, rdC 0 c (p + 3 + k)), ?_, by simp, h4.symm⟩
          have c3' : ((k : Int) == 0) = true := by simp [c3]
          simp [e81, c1, e82, e83, e84, e85, c3']
        by_cases c4 : f < e
        · rw [if_pos (.inr c4)] at h4
          right
          refine ⟨.inr (3, rdC 0 c (p + 3 + k)), ?_, by simp, h4.symm⟩
          have c3' : ((k : Int) == 0) = false := by simp [c3]
          simp [e81, c1, e82, e83, e84, e85, c3', c4]
        rw [if_neg (by omega)] at h4
        have c3' : ((k : Int) == 0) = false := by simp [c3]
        by_cases c5 : a.length < f + k
        · rw [if_pos c5] at h4
          right
          refine ⟨.inr (6, rdC 0 c (p + 3 + k)), ?_, by simp, h4.symm⟩
          by_cases c6 : a.length < f
          · simp [e81, c1, e82, e83, e84, e85, c3', c4, h1, c6]
          · have w := wrap_id (x := (a.length : Int) - f) (by omega)
            have c7 : (a.length : Int) - f < k := by omega
            simp [e81, c1, e82, e83, e84, e85, c3', c4, h1, c6, w, c7]
        · rw [if_neg c5] at h4
          left
          have w := wrap_id (x := (a.length : Int) - f) (by omega)
          have c6 : ¬ a.length < f := by omega
          have c7 : ¬ (a.length : Int) - f < k := by omega
          have w2 := wrap_id (x := (f : Int) + k) (by omega)
          have hrk : (r.take k).length = k := by simp; omega
          have hsp := ob_splice out (r.take k) f (by rw [hrk, h1]; omega)
          rw [hrk] at hsp
          have hlo : (out.take f ++ r.take k ++ out.drop (f + k)).length = a.length := by simp; omega
          refine ⟨(out.take f ++ r.take k ++ out.drop (f + k), f + k, p + 3 + k, true), ?_, ⟨⟨hlo, by dsimp only; omega, by dsimp only; omega⟩, ?_⟩, by dsimp only; omega⟩
          · rw [hlo]
            generalize out.take f ++ r.take k ++ out.drop (f + k) = out' at *
            generalize r.take k = t at *
            have m1 : min k (a.length - f) = k := by omega
            have m2 : f + k ≤ a.length := by omega
            have c8 : f ≤ a.length := by omega
            have tk : (ofBytes t).take k = ofBytes t := List.take_of_length_le (by rw [ob_len]; omega)
            simp [e81, c1, e82, e83, e84, e85, c3', c4, h1, c6, w, c7, w2, hrk, ob_len, ob_all, ob_out, c8, m1, m2, tk, hsp]
          · show ap a.length (c.drop (p + 3 + k)) _ _ = _
            rw [← h4, ← hd4, List.drop_drop]
  · rintro (⟨out, e, p, d⟩ | ⟨e, rd⟩) rfl h
    · dsimp only at h
      simp [h, ob_len, ob_bytes]
      cases d <;> simp
    · dsimp only at h
      simp [h]
end Go.Proofs.Ytoipglmjnibdpaa
end

section
namespace Go.Proofs.Ytoipglmjnibdpaa
open Go Go.PS
theorem get_of_drop {α : Type} {l : List α} {p : Nat} {x : α} {r : List α} (h : l.drop p = x :: r) : l[p]? = some x := by
  have := List.getElem?_drop (xs := l) (i := p) (j := 0)
  rw [h] at this
  simpa using this.symm
set_option maxHeartbeats 4000000 in
theorem f53 (n : Nat) (a c : List UInt8) (hp : Heap) (ha : a.length ≤ 1000000) (hc : c.length ≤ n) (hc' : c.length ≤ 1000000) :
    evalCall Try.prog hints (n + 2) 53 [.str a, .str c] hp = some (.tup [.str (ap a.length c a 0).1, .int .i64 (ap a.length c a 0).2], hp, false) := by
  rw [evalCall_at _ _ _ hh53 rfl Try.func53 rfl (Nat.le_of_ble_eq_true rfl) rfl]
  simp
  generalize hit : iter _ _ _ = r
  refine iter_elim hit (fun x : List UInt8 × Nat × Nat => { fr := [(0, .str a), (1, .str c), (6, .str x.1), (7, .int .i64 x.2.1), (8, .int .i64 x.2.2)], hp := hp, base := hp.length, dirty := false })
    (fun x => (x.1.length = a.length ∧ x.2.1 ≤ a.length ∧ x.2.2 ≤ c.length) ∧ ap a.length (c.drop x.2.2) x.1 x.2.1 = ap a.length c a 0) (fun x => c.length - x.2.2)
    (fun y : (List UInt8 × Nat × Nat) ⊕ Int => match y with
      | .inl x => (.exit 0, { fr := [(0, .str a), (1, .str c), (6, .str x.1), (7, .int .i64 x.2.1), (8, .int .i64 x.2.2), (15, .bool false)], hp := hp, base := hp.length, dirty := false })
      | .inr e => (.ret, { fr := [(4, .str []), (5, .int .i64 e)], hp := hp, base := hp.length, dirty := false }))
    (fun y => match y with | .inl x => ap a.length c a 0 = (x.1, 0) | .inr e => ap a.length c a 0 = ([], e)) (a, 0, 0) rfl ⟨by simp, by simp⟩ (by simp; omega) ?_ ?_
  · rintro ⟨out, e, p⟩ ⟨⟨h1, h2, h3⟩, h4⟩
    dsimp only at h1 h2 h3 h4 ⊢
    by_cases c1 : p < c.length
    · have w0 := wrap_id (x := (c.length : Int) - p) (by omega)
      by_cases c2 : c.length < p + 3
      · right
        refine ⟨.inr 5, ?_, by simp, ?_⟩
        · have c2' : (c.length : Int) - p < 3 := by omega
          simp [c1, w0, c2']
        · have : (c.drop p).length < 3 := by simp; omega
          have hne : (c.drop p).length ≠ 0 := by simp; omega
          dsimp only
          rw [← h4]
          match hd : c.drop p, this, hne with
          | [x], _, _ => simp [ap]
          | [x, y], _, _ => simp [ap]
      · obtain ⟨x, y, z, r, hd⟩ : ∃ x y z r, c.drop p = x :: y :: z :: r := by
          have : 3 ≤ (c.drop p).length := by simp; omega
          match hd : c.drop p, this with
          | x :: y :: z :: r, _ => exact ⟨x, y, z, r, rfl⟩
        rw [hd, ap] at h4
        have hlen := congrArg List.length hd
        simp at hlen
        have hd2 := drop_cons hd
        have hd3 := drop_cons hd2
        have hd4 : c.drop (p + 3) = r := drop_cons hd3
        have i0 := get_of_drop hd
        have i1 := get_of_drop hd2
        have i2 := get_of_drop hd3
        obtain ⟨f, hf⟩ : ∃ f, f = x.toNat + 256 * y.toNat := ⟨_, rfl⟩
        obtain ⟨k, hk⟩ : ∃ k, k = z.toNat := ⟨_, rfl⟩
        have hf' : (x.toNat : Int) + 256 * y.toNat = (f : Int) := by omega
        rw [← hf, ← hk] at h4
        have hzl := z.toNat_lt
        have hxl := x.toNat_lt
        have hyl := y.toNat_lt
        have c2' : ¬ (c.length : Int) - p < 3 := by omega
        have w1 := wrap_id (x := (p : Int) + 1) (by omega)
        have w2 := wrap_id (x := (p : Int) + 2) (by omega)
        have w3 := wrap_id (x := (p : Int) + 3) (by omega)
        have w4 := wrap_id (x := 256 * (y.toNat : Int)) (by omega)
        have w5 := wrap_id (x := (f : Int)) (by omega)
        have wk := wrap_id (x := (k : Int)) (by omega)
        have w6 := wrap_id (x := (c.length : Int) - (p + 3)) (by omega)
        have n1 : (p : Int) + 1 < c.length := by omega
        have n2 : (p : Int) + 2 < c.length := by omega
        have n3 : ((p : Int) + 1).toNat = p + 1 := by omega
        have n4 : ((p : Int) + 2).toNat = p + 2 := by omega
        have n5 : (0 : Int) ≤ (p : Int) + 1 := by omega
        have n6 : (0 : Int) ≤ (p : Int) + 2 := by omega
        by_cases c3 : r.length < k
        · rw [if_pos c3] at h4
          right
          refine ⟨.inr 5, ?_, by simp, h4.symm⟩
          have c3' : (c.length : Int) - (p + 3) < k := by omega
          simp [-getElem?_pos, List.getElem?_cons_zero, wk, c1, w0, c2', i0, i1, i2, wrap_byte, w1, w2, w3, w4, hf', w5, w6, n1, n2, n3, n4, n5, n6, ← hk, c3']
        · rw [if_neg c3] at h4
          have c3' : ¬ (c.length : Int) - (p + 3) < k := by omega
          by_cases c4 : k = 0
          · rw [if_pos (.inl c4)] at h4
            right
            refine ⟨.inr 3, ?_, by simp, h4.symm⟩
            have c4' : ((k : Int) == 0) = true := by simp [c4]
            simp [-getElem?_pos, List.getElem?_cons_zero, wk, c1, w0, c2', i0, i1, i2, wrap_byte, w1, w2, w3, w4, hf', w5, w6, n1, n2, n3, n4, n5, n6, ← hk, c3', c4']
          have c4' : ((k : Int) == 0) = false := by simp [c4]
          by_cases c5 : f < e
          · rw [if_pos (.inr c5)] at h4
            right
            refine ⟨.inr 3, ?_, by simp, h4.symm⟩
            simp [-getElem?_pos, List.getElem?_cons_zero, wk, c1, w0, c2', i0, i1, i2, wrap_byte, w1, w2, w3, w4, hf', w5, w6, n1, n2, n3, n4, n5, n6, ← hk, c3', c4', c5]
          rw [if_neg (by omega)] at h4
          have w7 := wrap_id (x := (f : Int) + k) (by omega)
          by_cases c6 : a.length < f + k
          · rw [if_pos c6] at h4
            right
            refine ⟨.inr 6, ?_, by simp, h4.symm⟩
            have c6' : (a.length : Int) < f + k := by omega
            simp [-getElem?_pos, List.getElem?_cons_zero, wk, c1, w0, c2', i0, i1, i2, wrap_byte, w1, w2, w3, w4, hf', w5, w6, n1, n2, n3, n4, n5, n6, ← hk, c3', c4', c5, w7, c6']
          · rw [if_neg c6] at h4
            have c6' : ¬ (a.length : Int) < f + k := by omega
            left
            have hlo : (out.take f ++ r.take k ++ out.drop (f + k)).length = a.length := by simp; omega
            refine ⟨(out.take f ++ r.take k ++ out.drop (f + k), f + k, p + 3 + k), ?_, ⟨⟨hlo, by dsimp only; omega, by dsimp only; omega⟩, ?_⟩, by dsimp only; omega⟩
            · have w8 := wrap_id (x := (p : Int) + 3 + k) (by omega)
              have m1 : f ≤ out.length := by omega
              have m2 : (0 : Int) ≤ (p : Int) + 3 + k := by omega
              have m3 : (p : Int) + 3 + k ≤ c.length := by omega
              have m4 : ((p : Int) + 3 + k).toNat = p + 3 + k := by omega
              have m5 : (0 : Int) ≤ (p : Int) + 3 := by omega
              have m6 : ((p : Int) + 3).toNat = p + 3 := by omega
              have m7 : (0 : Int) ≤ (f : Int) + k := by omega
              have m8 : ((f : Int) + k).toNat = f + k := by omega
              have m9 : (f : Int) + k ≤ out.length := by omega
              have m10 : (p : Int) + 3 ≤ (p : Int) + 3 + k := by omega
              have m11 : p + 3 + k - (p + 3) = k := by omega
              have mk : min k r.length = k := by omega
              have l1 : f + k ≤ 9223372036854775807 := by omega
              have l2 : f + (k + (out.length - (f + k))) ≤ 9223372036854775807 := by omega
              have l3 : f + k + (out.length - (f + k)) ≤ 9223372036854775807 := by omega
              simp [-getElem?_pos, List.getElem?_cons_zero, wk, c1, w0, c2', i0, i1, i2, wrap_byte, w1, w2, w3, w4, hf', w5, w6, n1, n2, n3, n4, n5, n6, ← hk, c3', c4', c5, w7, c6', w8, m1, m2, m3, m4, m5, m6, m7, m8, m9, m10, m11, hd4, mk, l1, l2, l3]
              exact List.take_of_length_le (by simp)
            · show ap a.length (c.drop (p + 3 + k)) _ _ = _
              rw [← h4, ← hd4, List.drop_drop]
    · right
      have : c.drop p = [] := List.drop_eq_nil_of_le (by omega)
      rw [this] at h4
      refine ⟨.inl (out, e, p), ?_, by simp, ?_⟩
      · simp [c1]
      · dsimp only; rw [← h4]; simp [ap]
  · rintro (⟨out, e, p⟩ | e) rfl h
    · dsimp only at h
      simp [h]
    · dsimp only at h
      simp [h]
end Go.Proofs.Ytoipglmjnibdpaa
end

section
namespace Go.Proofs.Ytoipglmjnibdpaa
open Go Go.PS
theorem live49a : fstR (evalCall Try.prog hints 5020 49 [] []) = some (.bool true) := by kernel_rfl
theorem live49b (x : List PV) : fstR (evalCall Try.prog hints 5020 49 [] [x]) = some (.bool true) := by kernel_rfl
set_option maxHeartbeats 1000000 in
theorem f12 (a c : List UInt8) (ha : a.length ≤ 9223372036854775807) (hc : c.length ≤ 9223372036854775807) : ∃ hp d, evalCall Try.prog hints 5021 12 [.str a, .str c] [] = some (.bool true, hp, d) := by
  apply of_map
  obtain ⟨hpa, da, la⟩ := of_map live49a
  rw [evalCall_at _ _ _ hh12 rfl Try.func12 rfl (Nat.le_of_ble_eq_true rfl) rfl]
  by_cases h1 : 600 < a.length
  · have h1' : (600 : Int) < a.length := by omega
    simp [h1', la]
    cases da <;> simp
  by_cases h2 : 600 < c.length
  · have h1' : ¬ (600 : Int) < a.length := by omega
    have h2' : (600 : Int) < c.length := by omega
    simp [h1', h2', la]
    cases da <;> simp
  have h1' : ¬ (600 : Int) < a.length := by omega
  have h2' : ¬ (600 : Int) < c.length := by omega
  obtain ⟨rd, d, e51⟩ := f51 5015 a c [] (by omega) (by omega) (by omega)
  obtain ⟨hpb, db, lb⟩ := of_map (live49b rd)
  have e53 := fun hp => f53 5018 a c hp (by omega) (by omega) (by omega)
  generalize ap a.length c a 0 = R at *
  cases d with
  | true =>
    simp [h1', h2', e51, e53, lb]
    cases db <;> simp
  | false =>
    simp [h1', h2', e51, e53, la]
    cases da <;> simp
end Go.Proofs.Ytoipglmjnibdpaa
end
