/-
  What functions of this program compute, as equations about the evaluator. No condition but those stated.
-/
import Derived.Test.YtoipglmjnibdpaaFacts
set_option linter.all false
section
namespace Go.Proofs.Ytoipglmjnibdpaa
open Go Go.PS
theorem wrap_byte (b : UInt8) : IntKind.i64.wrap (b.toNat : Int) = b.toNat := by
  have := b.toNat_lt
  exact wrap_id (by omega)
theorem set_at {α : Type} (l : List α) (a b : α) : (l ++ [a]).set l.length b = l ++ [b] := by
  simp
def rdC (e : Int) (s : List UInt8) (p : Nat) : List PV := [.int .i64 e, .str s, .int .i64 p]
theorem f80 (n : Nat) (s : List UInt8) (hp : Heap) : evalCall Try.prog hints (n + 1) 80 [.str s] hp = some (.ptr (.heap hp.length) none 0, hp ++ [rdC 0 s 0], false) := by
  rw [evalCall_at _ _ _ hh80 rfl Try.func80 rfl (Nat.le_of_ble_eq_true rfl) rfl]
  simp [rdC]
theorem f81 (n i : Nat) (e : Int) (s : List UInt8) (p : Nat) (hp : Heap) (hi : hp[i]? = some (rdC e s p)) (hs : s.length ≤ 9223372036854775807) (hp' : p ≤ s.length) :
    evalCall Try.prog hints (n + 1) 81 [.ptr (.heap i) none 0] hp = some (.int .i64 (if e = 0 then (s.length : Int) - p else 0), hp, false) := by
  rw [evalCall_at _ _ _ hh81 rfl Try.func81 rfl (Nat.le_of_ble_eq_true rfl) rfl]
  have w := wrap_id (x := (s.length : Int) - p) (by omega)
  by_cases h : e = 0
  · simp [hi, rdC, h, w]
  · have h' : (e != 0) = true := by simp [h]
    simp [hi, rdC, h, h']
theorem f85 (n i : Nat) (e : Int) (s : List UInt8) (p : Nat) (hp : Heap) (hi : hp[i]? = some (rdC e s p)) :
    evalCall Try.prog hints (n + 1) 85 [.ptr (.heap i) none 0] hp = some (.int .i64 e, hp, false) := by
  rw [evalCall_at _ _ _ hh85 rfl Try.func85 rfl (Nat.le_of_ble_eq_true rfl) rfl]
  simp [hi, rdC]
theorem f105 (n i : Nat) (e c : Int) (s : List UInt8) (p : Nat) (hp : Heap) (hi : hp[i]? = some (rdC e s p)) (he : e = 0) :
    evalCall Try.prog hints (n + 1) 105 [.ptr (.heap i) none 0, .int .i64 c] hp = some (.tup [], hp.set i (rdC c s p), true) := by
  have hl : i < hp.length := (List.getElem?_eq_some_iff.1 hi).1
  rw [evalCall_at _ _ _ hh105 rfl Try.func105 rfl (Nat.le_of_ble_eq_true rfl) rfl]
  simp [hi, rdC, he]
  exact hl
/-- What a reader's next bytes are. -/
theorem f98e (n i : Nat) (e : Int) (s : List UInt8) (p : Nat) (k : Int) (hp : Heap) (hi : hp[i]? = some (rdC e s p)) (he : e ≠ 0) :
    evalCall Try.prog hints (n + 2) 98 [.ptr (.heap i) none 0, .int .i64 k] hp = some (.str [], hp, false) := by
  have h' : (e != 0) = true := by simp [he]
  rw [evalCall_at _ _ _ hh98 rfl Try.func98 rfl (Nat.le_of_ble_eq_true rfl) rfl]
  simp [hi, rdC, h']
theorem f98s (n i : Nat) (s : List UInt8) (p : Nat) (k : Nat) (hp : Heap) (hi : hp[i]? = some (rdC 0 s p)) (hs : s.length ≤ 4611686018427387904) (hp' : p ≤ s.length) (hk : s.length < p + k) :
    evalCall Try.prog hints (n + 2) 98 [.ptr (.heap i) none 0, .int .i64 k] hp = some (.str [], hp.set i (rdC 5 s p), true) := by
  have e105 := f105 n i 0 5 s p hp hi rfl
  have w := wrap_id (x := (s.length : Int) - p) (by omega)
  have h2 : (s.length : Int) - p < k := by omega
  have h3 : ¬ (k : Int) < 0 := by omega
  rw [evalCall_at _ _ _ hh98 rfl Try.func98 rfl (Nat.le_of_ble_eq_true rfl) rfl]
  simp [rdC] at hi e105
  simp [hi, rdC, h2, h3, w, e105]
theorem f98 (n i : Nat) (s : List UInt8) (p : Nat) (k : Nat) (hp : Heap) (hi : hp[i]? = some (rdC 0 s p)) (hs : s.length ≤ 4611686018427387904) (hk : p + k ≤ s.length) :
    evalCall Try.prog hints (n + 2) 98 [.ptr (.heap i) none 0, .int .i64 k] hp = some (.str ((s.drop p).take k), hp.set i (rdC 0 s (p + k)), true) := by
  have hl : i < hp.length := (List.getElem?_eq_some_iff.1 hi).1
  have w := wrap_id (x := (s.length : Int) - p) (by omega)
  have w2 := wrap_id (x := (p : Int) + k) (by omega)
  have h2 : ¬ (s.length : Int) - p < k := by omega
  have h3 : ¬ (k : Int) < 0 := by omega
  have h4 : (p : Int) + k ≤ s.length := by omega
  have h5 : ((p : Int) + k).toNat = p + k := by omega
  have h6 : (0 : Int) ≤ (p : Int) + k := by omega
  have h7 : (p : Int) ≤ (p : Int) + k := by omega
  rw [evalCall_at _ _ _ hh98 rfl Try.func98 rfl (Nat.le_of_ble_eq_true rfl) rfl]
  simp [rdC] at hi
  simp [hi, rdC, h2, h3, w, w2, h4, h5, h6, h7]
  exact hl
theorem and255 (x : Nat) (h : x < 256) : (BitVec.ofInt 64 (x : Int) &&& BitVec.ofInt 64 255).toNat = x := by
  rw [BitVec.toNat_and, BitVec.toNat_ofInt, BitVec.toNat_ofInt]
  have e1 : ((x : Int) % (2 ^ 64 : Nat)).toNat = x := by omega
  have e2 : ((255 : Int) % (2 ^ 64 : Nat)).toNat = 2 ^ 8 - 1 := by decide
  rw [e1, e2, Nat.and_two_pow_sub_one_eq_mod]
  omega
theorem or_two (x y : Nat) (hx : x < 256) (hy : y < 256) : (BitVec.ofInt 64 (x : Int) ||| BitVec.ofInt 64 ((y : Int) * 256)).toNat = x + 256 * y := by
  rw [BitVec.toNat_or, BitVec.toNat_ofInt, BitVec.toNat_ofInt]
  have e1 : ((x : Int) % (2 ^ 64 : Nat)).toNat = x := by omega
  have e2 : (((y : Int) * 256) % (2 ^ 64 : Nat)).toNat = y <<< 8 := by rw [Nat.shiftLeft_eq]; omega
  rw [e1, e2, Nat.or_comm, ← Nat.shiftLeft_add_eq_or_of_lt hx, Nat.shiftLeft_eq]
  omega
theorem f99 (n : Nat) (x y : UInt8) (hp : Heap) : evalCall Try.prog hints (n + 1) 99 [.int .i64 (x.toNat : Int), .int .i64 (y.toNat : Int)] hp = some (.int .i64 ((x.toNat : Int) + 256 * y.toNat), hp, false) := by
  have hx := x.toNat_lt
  have hy := y.toNat_lt
  have b1 : ∀ z : UInt8, binI .and .i64 (z.toNat : Int) 255 = some (.int .i64 z.toNat) := fun z => by
    show some (PV.int .i64 (IntKind.i64.wrap ((BitVec.ofInt 64 (z.toNat : Int) &&& BitVec.ofInt 64 255).toNat : Nat))) = _
    rw [and255 z.toNat z.toNat_lt, wrap_byte]
  have w2 := wrap_id (x := ((x.toNat + 256 * y.toNat : Nat) : Int)) (by omega)
  have b2 : binI .or .i64 (x.toNat : Int) ((y.toNat : Int) * 256) = some (.int .i64 ((x.toNat : Int) + 256 * y.toNat)) := by
    show some (PV.int .i64 (IntKind.i64.wrap ((BitVec.ofInt 64 (x.toNat : Int) ||| BitVec.ofInt 64 ((y.toNat : Int) * 256)).toNat : Nat))) = _
    rw [or_two x.toNat y.toNat hx hy, w2]
    simp
  have w := wrap_id (x := (y.toNat : Int) * 256) (by omega)
  rw [evalCall_at _ _ _ hh99 rfl Try.func99 rfl (Nat.le_of_ble_eq_true rfl) rfl]
  simp [-binI, b1, b2, w]
end Go.Proofs.Ytoipglmjnibdpaa
end

section
namespace Go.Proofs.Ytoipglmjnibdpaa
open Go Go.PS
section
variable (n i : Nat) (s : List UInt8) (p : Nat) (hp : Heap)
theorem f82 (hi : hp[i]? = some (rdC 0 s p)) (hs : s.length ≤ 4611686018427387904) (a b : UInt8) (r : List UInt8) (hk : s.drop p = a :: b :: r) :
    evalCall Try.prog hints (n + 3) 82 [.ptr (.heap i) none 0] hp = some (.int .i64 ((a.toNat : Int) + 256 * b.toNat), hp.set i (rdC 0 s (p + 2)), true) := by
  have hl : p + 2 ≤ s.length := by have := congrArg List.length hk; simp at this; omega
  have e98 := f98 n i s p 2 hp hi hs hl
  rw [hk] at e98
  simp at e98
  rw [evalCall_at _ _ _ hh82 rfl Try.func82 rfl (Nat.le_of_ble_eq_true rfl) rfl]
  simp [e98, f99, wrap_byte]
theorem f82s (hi : hp[i]? = some (rdC 0 s p)) (hs : s.length ≤ 4611686018427387904) (hp' : p ≤ s.length) (hk : s.length < p + 2) :
    evalCall Try.prog hints (n + 3) 82 [.ptr (.heap i) none 0] hp = some (.int .i64 0, hp.set i (rdC 5 s p), true) := by
  have e98 := f98s n i s p 2 hp hi hs hp' hk
  simp at e98
  rw [evalCall_at _ _ _ hh82 rfl Try.func82 rfl (Nat.le_of_ble_eq_true rfl) rfl]
  simp [e98]
theorem f83 (hi : hp[i]? = some (rdC 0 s p)) (hs : s.length ≤ 4611686018427387904) (a : UInt8) (r : List UInt8) (hk : s.drop p = a :: r) :
    evalCall Try.prog hints (n + 3) 83 [.ptr (.heap i) none 0] hp = some (.int .i64 (a.toNat : Int), hp.set i (rdC 0 s (p + 1)), true) := by
  have hl : p + 1 ≤ s.length := by have := congrArg List.length hk; simp at this; omega
  have e98 := f98 n i s p 1 hp hi hs hl
  rw [hk] at e98
  simp at e98
  rw [evalCall_at _ _ _ hh83 rfl Try.func83 rfl (Nat.le_of_ble_eq_true rfl) rfl]
  simp [e98, wrap_byte]
theorem f83s (hi : hp[i]? = some (rdC 0 s p)) (hs : s.length ≤ 4611686018427387904) (hp' : p = s.length) :
    evalCall Try.prog hints (n + 3) 83 [.ptr (.heap i) none 0] hp = some (.int .i64 0, hp.set i (rdC 5 s p), true) := by
  have e98 := f98s n i s p 1 hp hi hs (by omega) (by omega)
  simp at e98
  rw [evalCall_at _ _ _ hh83 rfl Try.func83 rfl (Nat.le_of_ble_eq_true rfl) rfl]
  simp [e98]
theorem f83e (e : Int) (hi : hp[i]? = some (rdC e s p)) (he : e ≠ 0) :
    evalCall Try.prog hints (n + 3) 83 [.ptr (.heap i) none 0] hp = some (.int .i64 0, hp, false) := by
  have e98 := f98e n i e s p 1 hp hi he
  rw [evalCall_at _ _ _ hh83 rfl Try.func83 rfl (Nat.le_of_ble_eq_true rfl) rfl]
  simp [e98]
theorem f84 (k : Nat) (hi : hp[i]? = some (rdC 0 s p)) (hs : s.length ≤ 4611686018427387904) (hk : p + k ≤ s.length) :
    evalCall Try.prog hints (n + 3) 84 [.ptr (.heap i) none 0, .int .i64 k] hp = some (.str ((s.drop p).take k), hp.set i (rdC 0 s (p + k)), true) := by
  have e98 := f98 n i s p k hp hi hs hk
  rw [evalCall_at _ _ _ hh84 rfl Try.func84 rfl (Nat.le_of_ble_eq_true rfl) rfl]
  simp [e98]
theorem f84s (k : Nat) (hi : hp[i]? = some (rdC 0 s p)) (hs : s.length ≤ 4611686018427387904) (hp' : p ≤ s.length) (hk : s.length < p + k) :
    evalCall Try.prog hints (n + 3) 84 [.ptr (.heap i) none 0, .int .i64 k] hp = some (.str [], hp.set i (rdC 5 s p), true) := by
  have e98 := f98s n i s p k hp hi hs hp' hk
  rw [evalCall_at _ _ _ hh84 rfl Try.func84 rfl (Nat.le_of_ble_eq_true rfl) rfl]
  simp [e98]
theorem f84e (k e : Int) (hi : hp[i]? = some (rdC e s p)) (he : e ≠ 0) :
    evalCall Try.prog hints (n + 3) 84 [.ptr (.heap i) none 0, .int .i64 k] hp = some (.str [], hp, false) := by
  have e98 := f98e n i e s p k hp hi he
  rw [evalCall_at _ _ _ hh84 rfl Try.func84 rfl (Nat.le_of_ble_eq_true rfl) rfl]
  simp [e98]
end
/-- What changes make of bytes: 'la' bytes, from place i on. -/
def ap (la : Nat) (c : List UInt8) (out : List UInt8) (e : Nat) : List UInt8 × Int :=
  match c with
  | [] => (out, 0)
  | x :: y :: z :: r =>
    let f := x.toNat + 256 * y.toNat
    let k := z.toNat
    if r.length < k then ([], 5)
    else if k = 0 ∨ f < e then ([], 3)
    else if la < f + k then ([], 6)
    else ap la (r.drop k) (out.take f ++ r.take k ++ out.drop (f + k)) (f + k)
  | _ => ([], 5)
termination_by c.length
decreasing_by simp; omega
theorem splice_eq (cs : List PV) (ys : List PV) (off : Nat) (h : off + ys.length ≤ cs.length) : splice cs off ys = cs.take off ++ ys ++ cs.drop (off + ys.length) := by
  induction ys generalizing cs off with
  | nil => simp [splice]
  | cons y ys ih =>
    simp at h
    rw [splice, ih _ _ (by simp; omega)]
    rw [List.take_set, List.drop_set_of_lt (by omega)]
    rw [List.take_succ_eq_append_getElem (by omega), List.set_append]
    simp
    have : off < cs.length := by omega
    simp [Nat.min_eq_left (Nat.le_of_lt this)]
    congr 1
    omega
end Go.Proofs.Ytoipglmjnibdpaa
end

section
namespace Go.Proofs.Ytoipglmjnibdpaa
open Go Go.PS
theorem ob_len (s : List UInt8) : (ofBytes s).length = s.length := by simp [ofBytes]
theorem ob_all (s : List UInt8) : (ofBytes s).all storable = true := by simp [ofBytes]
theorem ob_out (s : List UInt8) : (ofBytes s).map outCell = ofBytes s := by simp [ofBytes]
theorem ob_bytes (s : List UInt8) : bytesOf (ofBytes s) = some s := by
  induction s with
  | nil => rfl
  | cons a s ih =>
    show bytesOf (PV.int .u8 a.toNat :: ofBytes s) = _
    simp only [bytesOf, ih]
    simp
theorem ob_splice (out t : List UInt8) (f : Nat) (h : f + t.length ≤ out.length) : splice (ofBytes out) f (ofBytes t) = ofBytes (out.take f ++ t ++ out.drop (f + t.length)) := by
  rw [splice_eq _ _ _ (by simp [ob_len]; omega)]
  simp [ofBytes]
theorem drop_cons {α : Type} {l : List α} {p : Nat} {x : α} {r : List α} (h : l.drop p = x :: r) : l.drop (p + 1) = r := by
  rw [← List.drop_drop, h]; rfl
set_option maxHeartbeats 2000000 in
theorem f51 (n : Nat) (a c : List UInt8) (hp : Heap) (ha : a.length ≤ 1000000) (hc : c.length ≤ n) (hc' : c.length ≤ 1000000) :
    ∃ rd d, evalCall Try.prog hints (n + 5) 51 [.str a, .str c] hp = some (.tup [.str (ap a.length c a 0).1, .int .i64 (ap a.length c a 0).2], hp ++ [rd], d) := by
  have e80 := f80 (n + 3) c hp
  rw [evalCall_at _ _ _ hh51 rfl Try.func51 rfl (Nat.le_of_ble_eq_true rfl) rfl]
  simp [e80]
  generalize hit : iter _ _ _ = r
  refine iter_elim hit (fun x : List UInt8 × Nat × Nat × Bool => { fr := [(6, .sl (.mu 1) x.1.length (ofBytes x.1)), (7, .int .i64 x.2.1), (8, .ptr (.heap hp.length) none 0)], hp := hp ++ [rdC 0 c x.2.2.1], base := hp.length, dirty := x.2.2.2 })
    (fun x => (x.1.length = a.length ∧ x.2.1 ≤ a.length ∧ x.2.2.1 ≤ c.length) ∧ ap a.length (c.drop x.2.2.1) x.1 x.2.1 = ap a.length c a 0) (fun x => c.length - x.2.2.1)
    (fun y : (List UInt8 × Nat × Nat × Bool) ⊕ (Int × List PV) => match y with
      | .inl x => (.exit 0, { fr := [(6, .sl (.mu 1) x.1.length (ofBytes x.1)), (7, .int .i64 x.2.1), (8, .ptr (.heap hp.length) none 0), (18, .bool false)], hp := hp ++ [rdC 0 c x.2.2.1], base := hp.length, dirty := x.2.2.2 })
      | .inr (e, rd) => (.ret, { fr := [(4, .str []), (5, .int .i64 e)], hp := hp ++ [rd], base := hp.length, dirty := true }))
    (fun y => match y with | .inl x => ap a.length c a 0 = (x.1, 0) | .inr (e, _) => ap a.length c a 0 = ([], e)) (a, 0, 0, false) rfl ⟨by simp, by simp⟩ (by simp; omega) ?_ ?_
  · rintro ⟨out, e, p, d⟩ ⟨⟨h1, h2, h3⟩, h4⟩
    dsimp only at h1 h2 h3 h4 ⊢
    have g : ∀ x : List PV, (hp ++ [x])[hp.length]? = some x := fun x => by simp
    have e81 := f81 (n + 3) hp.length 0 c p (hp ++ [rdC 0 c p]) (g _) (by omega) h3
    simp at e81
    rcases hd : c.drop p with _ | ⟨x, _ | ⟨y, _ | ⟨z, r⟩⟩⟩
    · rw [hd] at h4
      have hlen := congrArg List.length hd
      simp at hlen
      right
      refine ⟨.inl (out, e, p, d), ?_, by simp, ?_⟩
      · have c1 : ¬ p < c.length := by omega
        simp [e81, c1]
      · dsimp only; rw [← h4]; simp [ap]
    · rw [hd] at h4
      have hlen := congrArg List.length hd
      simp at hlen
      right
      refine ⟨.inr (5, rdC 5 c p), ?_, by simp, ?_⟩
      · have c1 : p < c.length := by omega
        have e82 := f82s (n + 1) hp.length c p (hp ++ [rdC 0 c p]) (g _) (by omega) h3 (by omega)
        have e83 := f83e (n + 1) hp.length c p (hp ++ [rdC 5 c p]) 5 (g _) (by simp)
        have e84 := f84e (n + 1) hp.length c p (hp ++ [rdC 5 c p]) 0 5 (g _) (by simp)
        have e85 := f85 (n + 3) hp.length 5 c p (hp ++ [rdC 5 c p]) (g _)
        rw [set_at] at e82
        simp [e81, c1, e82, e83, e84, e85]
      · dsimp only; rw [← h4]; simp [ap]
    · rw [hd] at h4
      have hlen := congrArg List.length hd
      simp at hlen
      right
      refine ⟨.inr (5, rdC 5 c (p + 2)), ?_, by simp, ?_⟩
      · have c1 : p < c.length := by omega
        have e82 := f82 (n + 1) hp.length c p (hp ++ [rdC 0 c p]) (g _) (by omega) x y [] hd
        have e83 := f83s (n + 1) hp.length c (p + 2) (hp ++ [rdC 0 c (p + 2)]) (g _) (by omega) (by omega)
        have e84 := f84e (n + 1) hp.length c (p + 2) (hp ++ [rdC 5 c (p + 2)]) 0 5 (g _) (by simp)
        have e85 := f85 (n + 3) hp.length 5 c (p + 2) (hp ++ [rdC 5 c (p + 2)]) (g _)
        rw [set_at] at e82 e83
        simp [e81, c1, e82, e83, e84, e85]
      · dsimp only; rw [← h4]; simp [ap]
    · rw [hd] at h4
      have hlen := congrArg List.length hd
      simp at hlen
      have hd3 : c.drop (p + 2) = z :: r := drop_cons (drop_cons hd)
      have hd4 : c.drop (p + 3) = r := drop_cons hd3
      have c1 : p < c.length := by omega
      have e82 := f82 (n + 1) hp.length c p (hp ++ [rdC 0 c p]) (g _) (by omega) x y _ hd
      have e83 := f83 (n + 1) hp.length c (p + 2) (hp ++ [rdC 0 c (p + 2)]) (g _) (by omega) z r hd3
      rw [set_at] at e82 e83
      rw [ap] at h4
      obtain ⟨f, hf⟩ : ∃ f, f = x.toNat + 256 * y.toNat := ⟨_, rfl⟩
      obtain ⟨k, hk⟩ : ∃ k, k = z.toNat := ⟨_, rfl⟩
      have hf' : (x.toNat : Int) + 256 * y.toNat = (f : Int) := by omega
      rw [hf'] at e82
      rw [← hk] at e83
      rw [← hf, ← hk] at h4
      have hzl := z.toNat_lt
      have hxl := x.toNat_lt
      have hyl := y.toNat_lt
      by_cases c2 : r.length < k
      · rw [if_pos c2] at h4
        right
        refine ⟨.inr (5, rdC 5 c (p + 3)), ?_, by simp, h4.symm⟩
        have e84 := f84s (n + 1) hp.length c (p + 3) (hp ++ [rdC 0 c (p + 3)]) k (g _) (by omega) (by omega) (by omega)
        have e85 := f85 (n + 3) hp.length 5 c (p + 3) (hp ++ [rdC 5 c (p + 3)]) (g _)
        rw [set_at] at e84
        simp [e81, c1, e82, e83, e84, e85]
      · rw [if_neg c2] at h4
        have e84 := f84 (n + 1) hp.length c (p + 3) (hp ++ [rdC 0 c (p + 3)]) k (g _) (by omega) (by omega)
        have e85 := f85 (n + 3) hp.length 0 c (p + 3 + k) (hp ++ [rdC 0 c (p + 3 + k)]) (g _)
        rw [set_at, hd4] at e84
        by_cases c3 : k = 0
        · rw [if_pos (.inl c3)] at h4
          right
          refine ⟨.inr (3, rdC 0 c (p + 3 + k)), ?_, by simp, h4.symm⟩
          have c3' : ((k : Int) == 0) = true := by simp [c3]
          simp [e81, c1, e82, e83, e84, e85, c3']
        by_cases c4 : f < e
        · rw [if_pos (.inr c4)] at h4
          right
          refine ⟨.inr (3, rdC 0 c (p + 3 + k)), ?_, by simp, h4.symm⟩
          have c3' : ((k : Int) == 0) = false := by simp [c3]
          simp [e81, c1, e82, e83, e84, e85, c3', c4]
        rw [if_neg (by omega)] at h4
        have c3' : ((k : Int) == 0) = false := by simp [c3]
        by_cases c5 : a.length < f + k
        · rw [if_pos c5] at h4
          right
          refine ⟨.inr (6, rdC 0 c (p + 3 + k)), ?_, by simp, h4.symm⟩
          by_cases c6 : a.length < f
          · simp [e81, c1, e82, e83, e84, e85, c3', c4, h1, c6]
          · have w := wrap_id (x := (a.length : Int) - f) (by omega)
            have c7 : (a.length : Int) - f < k := by omega
            simp [e81, c1, e82, e83, e84, e85, c3', c4, h1, c6, w, c7]
        · rw [if_neg c5] at h4
          left
          have w := wrap_id (x := (a.length : Int) - f) (by omega)
          have c6 : ¬ a.length < f := by omega
          have c7 : ¬ (a.length : Int) - f < k := by omega
          have w2 := wrap_id (x := (f : Int) + k) (by omega)
          have hrk : (r.take k).length = k := by simp; omega
          have hsp := ob_splice out (r.take k) f (by rw [hrk, h1]; omega)
          rw [hrk] at hsp
          have hlo : (out.take f ++ r.take k ++ out.drop (f + k)).length = a.length := by simp; omega
          refine ⟨(out.take f ++ r.take k ++ out.drop (f + k), f + k, p + 3 + k, true), ?_, ⟨⟨hlo, by dsimp only; omega, by dsimp only; omega⟩, ?_⟩, by dsimp only; omega⟩
          · rw [hlo]
            generalize out.take f ++ r.take k ++ out.drop (f + k) = out' at *
            generalize r.take k = t at *
            have m1 : min k (a.length - f) = k := by omega
            have m2 : f + k ≤ a.length := by omega
            have c8 : f ≤ a.length := by omega
            have tk : (ofBytes t).take k = ofBytes t := List.take_of_length_le (by rw [ob_len]; omega)
            simp [e81, c1, e82, e83, e84, e85, c3', c4, h1, c6, w, c7, w2, hrk, ob_len, ob_all, ob_out, c8, m1, m2, tk, hsp]
          · show ap a.length (c.drop (p + 3 + k)) _ _ = _
            rw [← h4, ← hd4, List.drop_drop]
  · rintro (⟨out, e, p, d⟩ | ⟨e, rd⟩) rfl h
    · dsimp only at h
      simp [h, ob_len, ob_bytes]
      cases d <;> simp
    · dsimp only at h
      simp [h]
end Go.Proofs.Ytoipglmjnibdpaa
end

section
namespace Go.Proofs.Ytoipglmjnibdpaa
open Go Go.PS
theorem get_of_drop {α : Type} {l : List α} {p : Nat} {x : α} {r : List α} (h : l.drop p = x :: r) : l[p]? = some x := by
  have := List.getElem?_drop (xs := l) (i := p) (j := 0)
  rw [h] at this
  simpa using this.symm
set_option maxHeartbeats 4000000 in
theorem f53 (n : Nat) (a c : List UInt8) (hp : Heap) (ha : a.length ≤ 1000000) (hc : c.length ≤ n) (hc' : c.length ≤ 1000000) :
    evalCall Try.prog hints (n + 2) 53 [.str a, .str c] hp = some (.tup [.str (ap a.length c a 0).1, .int .i64 (ap a.length c a 0).2], hp, false) := by
  rw [evalCall_at _ _ _ hh53 rfl Try.func53 rfl (Nat.le_of_ble_eq_true rfl) rfl]
  simp
  generalize hit : iter _ _ _ = r
  refine iter_elim hit (fun x : List UInt8 × Nat × Nat => { fr := [(0, .str a), (1, .str c), (6, .str x.1), (7, .int .i64 x.2.1), (8, .int .i64 x.2.2)], hp := hp, base := hp.length, dirty := false })
    (fun x => (x.1.length = a.length ∧ x.2.1 ≤ a.length ∧ x.2.2 ≤ c.length) ∧ ap a.length (c.drop x.2.2) x.1 x.2.1 = ap a.length c a 0) (fun x => c.length - x.2.2)
    (fun y : (List UInt8 × Nat × Nat) ⊕ Int => match y with
      | .inl x => (.exit 0, { fr := [(0, .str a), (1, .str c), (6, .str x.1), (7, .int .i64 x.2.1), (8, .int .i64 x.2.2), (15, .bool false)], hp := hp, base := hp.length, dirty := false })
      | .inr e => (.ret, { fr := [(4, .str []), (5, .int .i64 e)], hp := hp, base := hp.length, dirty := false }))
    (fun y => match y with | .inl x => ap a.length c a 0 = (x.1, 0) | .inr e => ap a.length c a 0 = ([], e)) (a, 0, 0) rfl ⟨by simp, by simp⟩ (by simp; omega) ?_ ?_
  · rintro ⟨out, e, p⟩ ⟨⟨h1, h2, h3⟩, h4⟩
    dsimp only at h1 h2 h3 h4 ⊢
    by_cases c1 : p < c.length
    · have w0 := wrap_id (x := (c.length : Int) - p) (by omega)
      by_cases c2 : c.length < p + 3
      · right
        refine ⟨.inr 5, ?_, by simp, ?_⟩
        · have c2' : (c.length : Int) - p < 3 := by omega
          simp [c1, w0, c2']
        · have : (c.drop p).length < 3 := by simp; omega
          have hne : (c.drop p).length ≠ 0 := by simp; omega
          dsimp only
          rw [← h4]
          match hd : c.drop p, this, hne with
          | [x], _, _ => simp [ap]
          | [x, y], _, _ => simp [ap]
      · obtain ⟨x, y, z, r, hd⟩ : ∃ x y z r, c.drop p = x :: y :: z :: r := by
          have : 3 ≤ (c.drop p).length := by simp; omega
          match hd : c.drop p, this with
          | x :: y :: z :: r, _ => exact ⟨x, y, z, r, rfl⟩
        rw [hd, ap] at h4
        have hlen := congrArg List.length hd
        simp at hlen
        have hd2 := drop_cons hd
        have hd3 := drop_cons hd2
        have hd4 : c.drop (p + 3) = r := drop_cons hd3
        have i0 := get_of_drop hd
        have i1 := get_of_drop hd2
        have i2 := get_of_drop hd3
        obtain ⟨f, hf⟩ : ∃ f, f = x.toNat + 256 * y.toNat := ⟨_, rfl⟩
        obtain ⟨k, hk⟩ : ∃ k, k = z.toNat := ⟨_, rfl⟩
        have hf' : (x.toNat : Int) + 256 * y.toNat = (f : Int) := by omega
        rw [← hf, ← hk] at h4
        have hzl := z.toNat_lt
        have hxl := x.toNat_lt
        have hyl := y.toNat_lt
        have c2' : ¬ (c.length : Int) - p < 3 := by omega
        have w1 := wrap_id (x := (p : Int) + 1) (by omega)
        have w2 := wrap_id (x := (p : Int) + 2) (by omega)
        have w3 := wrap_id (x := (p : Int) + 3) (by omega)
        have w4 := wrap_id (x := 256 * (y.toNat : Int)) (by omega)
        have w5 := wrap_id (x := (f : Int)) (by omega)
        have wk := wrap_id (x := (k : Int)) (by omega)
        have w6 := wrap_id (x := (c.length : Int) - (p + 3)) (by omega)
        have n1 : (p : Int) + 1 < c.length := by omega
        have n2 : (p : Int) + 2 < c.length := by omega
        have n3 : ((p : Int) + 1).toNat = p + 1 := by omega
        have n4 : ((p : Int) + 2).toNat = p + 2 := by omega
        have n5 : (0 : Int) ≤ (p : Int) + 1 := by omega
        have n6 : (0 : Int) ≤ (p : Int) + 2 := by omega
        by_cases c3 : r.length < k
        · rw [if_pos c3] at h4
          right
          refine ⟨.inr 5, ?_, by simp, h4.symm⟩
          have c3' : (c.length : Int) - (p + 3) < k := by omega
          simp [-getElem?_pos, List.getElem?_cons_zero, wk, c1, w0, c2', i0, i1, i2, wrap_byte, w1, w2, w3, w4, hf', w5, w6, n1, n2, n3, n4, n5, n6, ← hk, c3']
        · rw [if_neg c3] at h4
          have c3' : ¬ (c.length : Int) - (p + 3) < k := by omega
          by_cases c4 : k = 0
          · rw [if_pos (.inl c4)] at h4
            right
            refine ⟨.inr 3, ?_, by simp, h4.symm⟩
            have c4' : ((k : Int) == 0) = true := by simp [c4]
            simp [-getElem?_pos, List.getElem?_cons_zero, wk, c1, w0, c2', i0, i1, i2, wrap_byte, w1, w2, w3, w4, hf', w5, w6, n1, n2, n3, n4, n5, n6, ← hk, c3', c4']
          have c4' : ((k : Int) == 0) = false := by simp [c4]
          by_cases c5 : f < e
          · rw [if_pos (.inr c5)] at h4
            right
            refine ⟨.inr 3, ?_, by simp, h4.symm⟩
            simp [-getElem?_pos, List.getElem?_cons_zero, wk, c1, w0, c2', i0, i1, i2, wrap_byte, w1, w2, w3, w4, hf', w5, w6, n1, n2, n3, n4, n5, n6, ← hk, c3', c4', c5]
          rw [if_neg (by omega)] at h4
          have w7 := wrap_id (x := (f : Int) + k) (by omega)
          by_cases c6 : a.length < f + k
          · rw [if_pos c6] at h4
            right
            refine ⟨.inr 6, ?_, by simp, h4.symm⟩
            have c6' : (a.length : Int) < f + k := by omega
            simp [-getElem?_pos, List.getElem?_cons_zero, wk, c1, w0, c2', i0, i1, i2, wrap_byte, w1, w2, w3, w4, hf', w5, w6, n1, n2, n3, n4, n5, n6, ← hk, c3', c4', c5, w7, c6']
          · rw [if_neg c6] at h4
            have c6' : ¬ (a.length : Int) < f + k := by omega
            left
            have hlo : (out.take f ++ r.take k ++ out.drop (f + k)).length = a.length := by simp; omega
            refine ⟨(out.take f ++ r.take k ++ out.drop (f + k), f + k, p + 3 + k), ?_, ⟨⟨hlo, by dsimp only; omega, by dsimp only; omega⟩, ?_⟩, by dsimp only; omega⟩
            · have w8 := wrap_id (x := (p : Int) + 3 + k) (by omega)
              have m1 : f ≤ out.length := by omega
              have m2 : (0 : Int) ≤ (p : Int) + 3 + k := by omega
              have m3 : (p : Int) + 3 + k ≤ c.length := by omega
              have m4 : ((p : Int) + 3 + k).toNat = p + 3 + k := by omega
              have m5 : (0 : Int) ≤ (p : Int) + 3 := by omega
              have m6 : ((p : Int) + 3).toNat = p + 3 := by omega
              have m7 : (0 : Int) ≤ (f : Int) + k := by omega
              have m8 : ((f : Int) + k).toNat = f + k := by omega
              have m9 : (f : Int) + k ≤ out.length := by omega
              have m10 : (p : Int) + 3 ≤ (p : Int) + 3 + k := by omega
              have m11 : p + 3 + k - (p + 3) = k := by omega
              have mk : min k r.length = k := by omega
              have l1 : f + k ≤ 9223372036854775807 := by omega
              have l2 : f + (k + (out.length - (f + k))) ≤ 9223372036854775807 := by omega
              have l3 : f + k + (out.length - (f + k)) ≤ 9223372036854775807 := by omega
              simp [-getElem?_pos, List.getElem?_cons_zero, wk, c1, w0, c2', i0, i1, i2, wrap_byte, w1, w2, w3, w4, hf', w5, w6, n1, n2, n3, n4, n5, n6, ← hk, c3', c4', c5, w7, c6', w8, m1, m2, m3, m4, m5, m6, m7, m8, m9, m10, m11, hd4, mk, l1, l2, l3]
              exact List.take_of_length_le (by simp)
            · show ap a.length (c.drop (p + 3 + k)) _ _ = _
              rw [← h4, ← hd4, List.drop_drop]
    · right
      have : c.drop p = [] := List.drop_eq_nil_of_le (by omega)
      rw [this] at h4
      refine ⟨.inl (out, e, p), ?_, by simp, ?_⟩
      · simp [c1]
      · dsimp only; rw [← h4]; simp [ap]
  · rintro (⟨out, e, p⟩ | e) rfl h
    · dsimp only at h
      simp [h]
    · dsimp only at h
      simp [h]
end Go.Proofs.Ytoipglmjnibdpaa
end

section
namespace Go.Proofs.Ytoipglmjnibdpaa
open Go Go.PS
theorem live49a : fstR (evalCall Try.prog hints 5020 49 [] []) = some (.bool true) := by kernel_rfl
theorem live49b (x : List PV) : fstR (evalCall Try.prog hints 5020 49 [] [x]) = some (.bool true) := by kernel_rfl
set_option maxHeartbeats 1000000 in
theorem f12 (a c : List UInt8) (ha : a.length ≤ 9223372036854775807) (hc : c.length ≤ 9223372036854775807) : ∃ hp d, evalCall Try.prog hints 5021 12 [.str a, .str c] [] = some (.bool true, hp, d) := by
  apply of_map
  obtain ⟨hpa, da, la⟩ := of_map live49a
  rw [evalCall_at _ _ _ hh12 rfl Try.func12 rfl (Nat.le_of_ble_eq_true rfl) rfl]
  by_cases h1 : 600 < a.length
  · have h1' : (600 : Int) < a.length := by omega
    simp [h1', la]
    cases da <;> simp
  by_cases h2 : 600 < c.length
  · have h1' : ¬ (600 : Int) < a.length := by omega
    have h2' : (600 : Int) < c.length := by omega
    simp [h1', h2', la]
    cases da <;> simp
  have h1' : ¬ (600 : Int) < a.length := by omega
  have h2' : ¬ (600 : Int) < c.length := by omega
  obtain ⟨rd, d, e51⟩ := f51 5015 a c [] (by omega) (by omega) (by omega)
  obtain ⟨hpb, db, lb⟩ := of_map (live49b rd)
  have e53 := fun hp => f53 5018 a c hp (by omega) (by omega) (by omega)
  generalize ap a.length c a 0 = R at *
  cases d with
  | true =>
    simp [h1', h2', e51, e53, lb]
    cases db <;> simp
  | false =>
    simp [h1', h2', e51, e53, la]
    cases da <;> simp
end Go.Proofs.Ytoipglmjnibdpaa
end

section
namespace Go.Proofs.Ytoipglmjnibdpaa
open Go Go.PS
def wrC (sz : Nat) (w : List UInt8) : List PV := [.int .i64 0, .sl (.mu sz) w.length (ofBytes w)]
theorem ob_app (s t : List UInt8) : ofBytes (s ++ t) = ofBytes s ++ ofBytes t := by simp [ofBytes]
theorem f97 (n i sz : Nat) (w t : List UInt8) (hp : Heap) (hi : hp[i]? = some (wrC sz w)) (hz : sz = 1 ∨ sz = 0 ∧ w = []) (hw : w.length + t.length ≤ 1000000) :
    evalCall Try.prog hints (n + 1) 97 [.ptr (.heap i) none 0, .bool true, .sl .sh t.length (ofBytes t)] hp = some (.tup [], hp.set i (wrC 1 (w ++ t)), true) := by
  have hl : i < hp.length := (List.getElem?_eq_some_iff.1 hi).1
  have hset : ∀ x, (hp.set i x)[i]? = some x := fun x => List.getElem?_set_self hl
  have l1 : w.length + t.length ≤ 140737488355328 := by omega
  rw [evalCall_at _ _ _ hh97 rfl Try.func97 rfl (Nat.le_of_ble_eq_true rfl) rfl]
  simp only [wrC] at hi
  rcases hz with rfl | ⟨rfl, rfl⟩
  · simp [hi, wrC, hset, ob_len, ob_all, ob_out, ob_app, l1]
    exact hl
  · simp at l1
    have o0 : ofBytes [] = [] := rfl
    simp [hi, wrC, hset, ob_len, ob_all, ob_out, l1, o0]
    exact hl
theorem f76 (n i sz : Nat) (w : List UInt8) (hp : Heap) (hi : hp[i]? = some (wrC sz w)) :
    evalCall Try.prog hints (n + 1) 76 [.ptr (.heap i) none 0] hp = some (.str w, hp, false) := by
  rw [evalCall_at _ _ _ hh76 rfl Try.func76 rfl (Nat.le_of_ble_eq_true rfl) rfl]
  simp [hi, wrC, ob_len, ob_bytes]
def put2 (f : Nat) : List UInt8 := [UInt8.ofNat f, UInt8.ofNat (f / 256)]
theorem f77 (n i sz : Nat) (w : List UInt8) (f : Nat) (hp : Heap) (hi : hp[i]? = some (wrC sz w)) (hz : sz = 1 ∨ sz = 0 ∧ w = []) (hw : w.length ≤ 900000) (hf : f ≤ 65535) :
    evalCall Try.prog hints (n + 2) 77 [.ptr (.heap i) none 0, .int .i64 f] hp = some (.tup [], hp.set i (wrC 1 (w ++ put2 f)), true) := by
  have e := f97 n i sz w (put2 f) hp hi hz (by simp [put2]; omega)
  have c1 : (f : Int) ≤ 65535 := by omega
  have d1 : ((f : Int)).fdiv 256 = (f : Int) / 256 := fd (by omega)
  rw [evalCall_at _ _ _ hh77 rfl Try.func77 rfl (Nat.le_of_ble_eq_true rfl) rfl]
  simp [put2, ofBytes] at e
  simp [c1, d1, e, put2]
theorem f78 (n i sz : Nat) (w : List UInt8) (f : Nat) (hp : Heap) (hi : hp[i]? = some (wrC sz w)) (hz : sz = 1 ∨ sz = 0 ∧ w = []) (hw : w.length ≤ 900000) (hf : f ≤ 255) :
    evalCall Try.prog hints (n + 2) 78 [.ptr (.heap i) none 0, .int .i64 f] hp = some (.tup [], hp.set i (wrC 1 (w ++ [UInt8.ofNat f])), true) := by
  have e := f97 n i sz w [UInt8.ofNat f] hp hi hz (by simp; omega)
  have c1 : (f : Int) ≤ 255 := by omega
  rw [evalCall_at _ _ _ hh78 rfl Try.func78 rfl (Nat.le_of_ble_eq_true rfl) rfl]
  simp [ofBytes] at e
  simp [c1, e]
theorem f79 (n i sz : Nat) (w t : List UInt8) (hp : Heap) (hi : hp[i]? = some (wrC sz w)) (hz : sz = 1 ∨ sz = 0 ∧ w = []) (hw : w.length + t.length ≤ 1000000) :
    evalCall Try.prog hints (n + 2) 79 [.ptr (.heap i) none 0, .str t] hp = some (.tup [], hp.set i (wrC 1 (w ++ t)), true) := by
  have e := f97 n i sz w t hp hi hz hw
  rw [evalCall_at _ _ _ hh79 rfl Try.func79 rfl (Nat.le_of_ble_eq_true rfl) rfl]
  simp [e, ob_all]
end Go.Proofs.Ytoipglmjnibdpaa
end

section
namespace Go.Proofs.Ytoipglmjnibdpaa
open Go Go.PS
def flush (i : Nat) (run : List UInt8) : List UInt8 := if run = [] then [] else put2 (i - run.length) ++ [UInt8.ofNat run.length] ++ run
def ch : Nat → List UInt8 → List UInt8 → List UInt8 → List UInt8
  | i, run, x :: xs, y :: ys => if x = y then flush i run ++ ch (i + 1) [] xs ys else if run.length = 255 then flush i run ++ ch (i + 1) [y] xs ys else ch (i + 1) (run ++ [y]) xs ys
  | i, run, _, _ => flush i run
theorem flush_len (i : Nat) (run : List UInt8) : (flush i run).length ≤ 4 * run.length := by
  unfold flush
  split
  · simp
  · rename_i h
    have : run.length ≠ 0 := fun e => h (List.length_eq_zero_iff.1 e)
    simp [put2]; omega
theorem ch_len : ∀ (xs ys : List UInt8) (i : Nat) (run : List UInt8), (ch i run xs ys).length ≤ 4 * (run.length + xs.length)
  | x :: xs, y :: ys, i, run => by
    have f := flush_len i run
    rw [ch]
    split
    · have := ch_len xs ys (i + 1) []
      simp at this ⊢; omega
    · split
      · have := ch_len xs ys (i + 1) [y]
        simp at this ⊢; omega
      · have := ch_len xs ys (i + 1) (run ++ [y])
        simp at this ⊢; omega
  | [], ys, i, run => by have f := flush_len i run; simp [ch]; omega
  | x :: xs, [], i, run => by have f := flush_len i run; simp [ch]; omega
theorem ch_skip (i : Nat) (x : UInt8) (xs ys : List UInt8) : ch i [] (x :: xs) (x :: ys) = ch (i + 1) [] xs ys := by simp [ch, flush]
/-- A run's end. -/
theorem ch_end (i : Nat) (run xs ys : List UInt8) (h : xs = [] ∨ (∃ x xs' ys', xs = x :: xs' ∧ ys = x :: ys') ∨ run.length = 255) (hl : xs.length = ys.length) : ch i run xs ys = flush i run ++ ch i [] xs ys := by
  match xs, ys, hl with
  | [], [], _ => simp [ch, flush]
  | x :: xs, y :: ys, _ =>
    rcases h with h | ⟨x', xs', ys', h1, h2⟩ | h
    · cases h
    · cases h1; cases h2
      simp [ch, flush]
    · simp only [ch]
      split
      · simp [flush]
      · simp [h]
theorem ch_more (i : Nat) (run : List UInt8) (x y : UInt8) (xs ys : List UInt8) (h : x ≠ y) (hr : run.length < 255) : ch i run (x :: xs) (y :: ys) = ch (i + 1) (run ++ [y]) xs ys := by
  rw [ch, if_neg h, if_neg (by omega)]
end Go.Proofs.Ytoipglmjnibdpaa
end

section
namespace Go.Proofs.Ytoipglmjnibdpaa
open Go Go.PS
theorem f50ne (n : Nat) (a b : List UInt8) (hp : Heap) (h : a.length ≠ b.length) : evalCall Try.prog hints (n + 3) 50 [.str a, .str b] hp = some (.str [], hp, false) := by
  have h' : ((a.length : Int) != b.length) = true := by simp; omega
  rw [evalCall_at _ _ _ hh50 rfl Try.func50 rfl (Nat.le_of_ble_eq_true rfl) rfl]
  simp [scopeIter, h']
theorem drop_get {α : Type} (l : List α) (p : Nat) (h : p < l.length) : l.drop p = l[p] :: l.drop (p + 1) := List.drop_eq_getElem_cons h
set_option maxHeartbeats 4000000 in
theorem f50 (n : Nat) (a b : List UInt8) (hp : Heap) (h : a.length = b.length) (ha : a.length ≤ 600) (hn : 700 < n) :
    ∃ rd d, evalCall Try.prog hints (n + 5) 50 [.str a, .str b] hp = some (.str (ch 0 [] a b), hp ++ [rd], d) := by
  have h' : ((a.length : Int) != b.length) = false := by simp; omega
  have c0 : ¬ (65535 : Int) < b.length := by omega
  obtain ⟨R, hR⟩ : ∃ R, R = ch 0 [] a b := ⟨_, rfl⟩
  have hRl : R.length ≤ 2400 := by have := ch_len a b 0 []; simp at this; rw [hR]; omega
  have g : ∀ x : List PV, (hp ++ [x])[hp.length]? = some x := fun x => by simp
  rw [evalCall_at _ _ _ hh50 rfl Try.func50 rfl (Nat.le_of_ble_eq_true rfl) rfl]
  simp
  rw [scope_start 0 (st' := { fr := [(0, .str a), (1, .str b), (5, .ptr (.heap hp.length) none 0), (6, .int .i64 0)], hp := hp ++ [wrC 0 []], base := hp.length, dirty := false }) (by simp [h, c0, wrC, ofBytes])]
  generalize hit : scopeIter _ _ _ _ _ _ = r
  refine scope_elim hit (fun x : Nat × List UInt8 × Nat × Bool => { fr := [(0, .str a), (1, .str b), (5, .ptr (.heap hp.length) none 0), (6, .int .i64 x.1)], hp := hp ++ [wrC x.2.2.1 x.2.1], base := hp.length, dirty := x.2.2.2 })
    (fun x => x.1 ≤ a.length ∧ (x.2.2.1 = 1 ∨ x.2.2.1 = 0 ∧ x.2.1 = []) ∧ x.2.1 ++ ch x.1 [] (a.drop x.1) (b.drop x.1) = R) (fun x => a.length - x.1)
    (fun x : List PV × Bool => (.ret, { fr := [(4, .str R)], hp := hp ++ [x.1], base := hp.length, dirty := x.2 })) (fun _ => True) (0, [], 0, false) (by simp) rfl ⟨by simp, by simp, by simp [hR]⟩ (by simp; omega) ?_ ?_
  · rintro ⟨p, w, sz, d⟩ r ⟨h1, h2, h3⟩ hr
    dsimp only at h1 h2 h3 hr ⊢
    simp at hr
    generalize hit1 : iter _ _ _ = r1 at hr
    refine iter_elim hit1 (fun q : Nat => { fr := [(0, .str a), (1, .str b), (5, .ptr (.heap hp.length) none 0), (6, .int .i64 q)], hp := hp ++ [wrC sz w], base := hp.length, dirty := d })
      (fun q => p ≤ q ∧ q ≤ a.length ∧ w ++ ch q [] (a.drop q) (b.drop q) = R) (fun q => a.length - q)
      (fun q : Nat => (.exit 0, { fr := [(0, .str a), (1, .str b), (5, .ptr (.heap hp.length) none 0), (6, .int .i64 q), (32, .bool false)], hp := hp ++ [wrC sz w], base := hp.length, dirty := d }))
      (fun q => p ≤ q ∧ q ≤ a.length ∧ w ++ ch q [] (a.drop q) (b.drop q) = R ∧ ∀ (h1 : q < a.length) (h2 : q < b.length), a[q] ≠ b[q]) p rfl ⟨by omega, h1, h3⟩ (by omega) ?_ ?_
    · rintro q ⟨i1, i2, i3⟩
      by_cases c1 : q < a.length
      · have c1' : q < b.length := by omega
        have ga : a[q]? = some a[q] := List.getElem?_eq_getElem c1
        have gb : b[q]? = some b[q] := List.getElem?_eq_getElem c1'
        rw [drop_get a q c1, drop_get b q c1'] at i3
        by_cases c2 : a[q] = b[q]
        · left
          have w1 := wrap_id (x := (q : Int) + 1) (by omega)
          refine ⟨q + 1, ?_, ⟨by omega, by omega, ?_⟩, by omega⟩
          · simp [-getElem?_pos, List.getElem?_cons_zero, c1, c1', ga, gb, c2, w1]
          · rw [← i3, c2, ch_skip]
        · right
          have c2' : ((a[q].toNat : Int) == b[q].toNat) = false := by
            simp
            intro e
            exact c2 (UInt8.toNat_inj.1 (by omega))
          refine ⟨q, ?_, by simp, i1, i2, by rw [drop_get a q c1, drop_get b q c1']; exact i3, fun _ _ => c2⟩
          simp [-getElem?_pos, List.getElem?_cons_zero, c1, c1', ga, gb, c2', c2]
      · right
        refine ⟨q, ?_, by simp, i1, i2, i3, fun h => (c1 h).elim⟩
        simp [c1]
    · rintro q rfl ⟨i1, i2, i3, i4⟩
      by_cases c1 : q = a.length
      · right
        have e76 := f76 (n + 3) hp.length sz w (hp ++ [wrC sz w]) (g _)
        have hw : w = R := by
          rw [← i3, c1]; simp [ch, flush]
        obtain rfl := hw
        refine ⟨(wrC sz w, d), ?_, by simp, trivial⟩
        rw [← hr]
        have c1' : ((q : Int) == a.length) = true := by simp [c1]
        simp [c1', e76]
      · have c2 : q < a.length := by omega
        have c2' : q < b.length := by omega
        have hne := i4 c2 c2'
        have c3 : ((q : Int) == a.length) = false := by simp; omega
        simp [c3] at hr
        generalize hit2 : iter _ _ _ = r2 at hr
        refine iter_elim hit2 (fun m : Nat => { fr := [(0, .str a), (1, .str b), (5, .ptr (.heap hp.length) none 0), (6, .int .i64 m), (7, .int .i64 q)], hp := hp ++ [wrC sz w], base := hp.length, dirty := d })
          (fun m => q ≤ m ∧ m ≤ a.length ∧ m - q ≤ 255 ∧ w ++ ch m ((b.drop q).take (m - q)) (a.drop m) (b.drop m) = R) (fun m => a.length - m)
          (fun m : Nat => (.exit 2, { fr := [(0, .str a), (1, .str b), (5, .ptr (.heap hp.length) none 0), (6, .int .i64 m), (7, .int .i64 q), (60, .bool false)], hp := hp ++ [wrC sz w], base := hp.length, dirty := d }))
          (fun m => q < m ∧ m ≤ a.length ∧ m - q ≤ 255 ∧ w ++ ch m ((b.drop q).take (m - q)) (a.drop m) (b.drop m) = R ∧ (a.drop m = [] ∨ (∃ x xs' ys', a.drop m = x :: xs' ∧ b.drop m = x :: ys') ∨ m - q = 255)) q rfl ⟨by omega, i2, by omega, by simpa using i3⟩ (by omega) ?_ ?_
        · rintro m ⟨j1, j2, j3, j4⟩
          by_cases d1 : m < a.length
          · have d1' : m < b.length := by omega
            have ga : a[m]? = some a[m] := List.getElem?_eq_getElem d1
            have gb : b[m]? = some b[m] := List.getElem?_eq_getElem d1'
            by_cases d2 : a[m] = b[m]
            · right
              refine ⟨m, ?_, by simp, ?_, j2, j3, j4, .inr (.inl ⟨a[m], a.drop (m + 1), b.drop (m + 1), drop_get a m d1, by rw [d2]; exact drop_get b m d1'⟩)⟩
              · simp [-getElem?_pos, List.getElem?_cons_zero, d1, d1', ga, gb, d2]
              · rcases Nat.lt_or_eq_of_le j1 with h | h
                · exact h
                · subst h; exact (hne d2).elim
            · have d2' : ((a[m].toNat : Int) != b[m].toNat) = true := by
                simp
                intro e
                exact d2 (UInt8.toNat_inj.1 (by omega))
              have w0 := wrap_id (x := (m : Int) - q) (by omega)
              by_cases d3 : m - q = 255
              · right
                refine ⟨m, ?_, by simp, by omega, j2, j3, j4, .inr (.inr d3)⟩
                have d3' : ¬ (m : Int) - q < 255 := by omega
                simp [-getElem?_pos, List.getElem?_cons_zero, d1, d1', ga, gb, d2', w0, d3']
              · left
                have d3' : (m : Int) - q < 255 := by omega
                have w1 := wrap_id (x := (m : Int) + 1) (by omega)
                refine ⟨m + 1, ?_, ⟨by omega, by omega, by omega, ?_⟩, by omega⟩
                · simp [-getElem?_pos, List.getElem?_cons_zero, d1, d1', ga, gb, d2', w0, d3', w1]
                · rw [drop_get a m d1, drop_get b m d1', ch_more _ _ _ _ _ _ d2 (by simp; omega)] at j4
                  have e1 : (b.drop q).take (m + 1 - q) = (b.drop q).take (m - q) ++ [b[m]] := by
                    rw [show m + 1 - q = (m - q) + 1 by omega, List.take_succ, List.getElem?_drop, show q + (m - q) = m by omega, gb]
                    rfl
                  rw [e1]
                  exact j4
          · right
            have d1' : a.drop m = [] := List.drop_eq_nil_of_le (by omega)
            refine ⟨m, ?_, by simp, by omega, j2, j3, j4, .inl d1'⟩
            simp [d1]
        · rintro m rfl ⟨j1, j2, j3, j4, j5⟩
          left
          have hrun : ((b.drop q).take (m - q)).length = m - q := by simp; omega
          rw [ch_end _ _ _ _ (by rw [hrun]; exact j5) (by simp; omega)] at j4
          have hfl : flush m ((b.drop q).take (m - q)) = put2 q ++ [UInt8.ofNat (m - q)] ++ (b.drop q).take (m - q) := by
            unfold flush
            rw [if_neg (fun e => by rw [e] at hrun; simp at hrun; omega), hrun]
            have : m - (m - q) = q := by omega
            rw [this]
          rw [hfl] at j4
          have hwl := congrArg List.length j4
          simp [put2] at hwl
          have e77 := f77 (n + 2) hp.length sz w q (hp ++ [wrC sz w]) (g _) h2 (by omega) (by omega)
          have e78 := f78 (n + 2) hp.length 1 (w ++ put2 q) (m - q) (hp ++ [wrC 1 (w ++ put2 q)]) (g _) (.inl rfl) (by simp [put2]; omega) (by omega)
          have e79 := f79 (n + 2) hp.length 1 (w ++ put2 q ++ [UInt8.ofNat (m - q)]) ((b.drop q).take (m - q)) (hp ++ [wrC 1 (w ++ put2 q ++ [UInt8.ofNat (m - q)])]) (g _) (.inl rfl) (by rw [hrun]; simp [put2]; omega)
          rw [set_at] at e77 e78 e79
          have w0 := wrap_id (x := (m : Int) - q) (by omega)
          have w1 : (m : Int) - q = ((m - q : Nat) : Int) := by omega
          have b1 : m ≤ b.length := by omega
          have b2 : q ≤ m := by omega
          rw [w1] at w0
          simp only [List.append_assoc] at e77 e78 e79 j4
          simp [e77, e78, e79, w0, w1, b1, b2] at hr
          refine ⟨(m, w ++ (put2 q ++ ([UInt8.ofNat (m - q)] ++ (b.drop q).take (m - q))), 1, true), _, hr.symm, ?_, ⟨j2, ?_, ?_⟩, ?_⟩
          · simp
          · exact Or.inl (Eq.refl 1)
          · show (w ++ (put2 q ++ ([UInt8.ofNat (m - q)] ++ (b.drop q).take (m - q)))) ++ _ = _
            rw [← j4]
            simp only [List.append_assoc]
          · show a.length - m < a.length - p
            omega
  · rintro ⟨rd, d⟩ rfl -
    simp [hR]
    cases d <;> simp
end Go.Proofs.Ytoipglmjnibdpaa
end

section
namespace Go.Proofs.Ytoipglmjnibdpaa
open Go Go.PS
theorem f106 (n : Nat) (x m : Nat) (hp : Heap) (hx : x ≤ 1000000) (hm : 0 < m) : evalCall Try.prog hints (n + 1) 106 [.int .i64 x, .int .i64 m] hp = some (.int .i64 ((x % m : Nat) : Int), hp, false) := by
  have m0 : (m : Int) ≠ 0 := by omega
  have e := tm (a := (x : Int)) (m : Int) (by omega)
  have e2 : (x : Int) % (m : Int) = ((x % m : Nat) : Int) := by simp
  have c : ¬ (x : Int) % (m : Int) < 0 := by rw [e2]; omega
  have m1 : m ≠ 0 := by omega
  rw [evalCall_at _ _ _ hh106 rfl Try.func106 rfl (Nat.le_of_ble_eq_true rfl) rfl]
  simp [e, m1, c]
theorem f100 (n : Nat) (x : Nat) (hp : Heap) (hx : x ≤ 1000000) : evalCall Try.prog hints (n + 2) 100 [.int .i64 x] hp = some (.int .i64 ((x % 256 : Nat) : Int), hp, false) := by
  have e := f106 n x 256 hp hx (by omega)
  rw [evalCall_at _ _ _ hh100 rfl Try.func100 rfl (Nat.le_of_ble_eq_true rfl) rfl]
  simp at e
  simp [e]
theorem f101 (n : Nat) (x : Nat) (hp : Heap) (hx : x ≤ 65535) : evalCall Try.prog hints (n + 2) 101 [.int .i64 x] hp = some (.int .i64 ((x / 256 : Nat) : Int), hp, false) := by
  have e := f106 n x 65536 hp (by omega) (by omega)
  have e1 : x % 65536 = x := by omega
  have e2 := td (a := (x : Int)) 256 (by omega)
  have w := wrap_id (x := (x : Int) / 256) (by omega)
  rw [evalCall_at _ _ _ hh101 rfl Try.func101 rfl (Nat.le_of_ble_eq_true rfl) rfl]
  rw [e1] at e
  simp at e
  simp [e, e2, w]
theorem f86 (n : Nat) (x : Nat) (hp : Heap) (hx : x ≤ 65535) : evalCall Try.prog hints (n + 3) 86 [.int .i64 x] hp = some (.str (put2 x), hp, false) := by
  have e1 := f100 n x hp (by omega)
  have e2 := f101 n x hp hx
  have b : bytesOf (ofBytes (put2 x)) = some (put2 x) := ob_bytes _
  rw [evalCall_at _ _ _ hh86 rfl Try.func86 rfl (Nat.le_of_ble_eq_true rfl) rfl]
  simp at e1 e2
  simp [put2, ofBytes] at b
  simp [e1, e2, b, put2]
theorem flush_le (i : Nat) (run : List UInt8) : (flush i run).length ≤ 3 + run.length := by
  unfold flush; split <;> simp [put2]; omega
set_option maxHeartbeats 4000000 in
theorem f52 (n : Nat) (a b : List UInt8) (hp : Heap) (h : a.length = b.length) (ha : a.length ≤ 600) (hn : 700 < n) :
    evalCall Try.prog hints (n + 5) 52 [.str a, .str b] hp = some (.str (ch 0 [] a b), hp, false) := by
  obtain ⟨R, hR⟩ : ∃ R, R = ch 0 [] a b := ⟨_, rfl⟩
  have hRl : R.length ≤ 2400 := by have := ch_len a b 0 []; simp at this; rw [hR]; omega
  rw [evalCall_at _ _ _ hh52 rfl Try.func52 rfl (Nat.le_of_ble_eq_true rfl) rfl]
  simp
  generalize hit : iter _ _ _ = r
  refine iter_elim hit (fun x : Nat × List UInt8 × List UInt8 => { fr := [(0, .str a), (1, .str b), (5, .str x.2.1), (6, .str x.2.2), (7, .int .i64 x.1)], hp := hp, base := hp.length, dirty := false })
    (fun x => (x.1 ≤ a.length ∧ x.2.2.length ≤ x.1 ∧ x.2.2.length ≤ 255 ∧ x.2.1 ++ ch x.1 x.2.2 (a.drop x.1) (b.drop x.1) = R) ∨ (x.1 = a.length + 1 ∧ x.2.1 = R)) (fun x => a.length + 1 - x.1)
    (fun x : List UInt8 => (.exit 0, { fr := [(0, .str a), (1, .str b), (5, .str R), (6, .str x), (7, .int .i64 ((a.length : Int) + 1)), (12, .bool false)], hp := hp, base := hp.length, dirty := false })) (fun _ => True) (0, [], []) rfl (.inl ⟨by simp, by simp, by simp, by simp [hR]⟩) (by simp; omega) ?_ ?_
  · rintro ⟨i, out, run⟩ hx
    dsimp only at hx
    rcases hx with ⟨h1, h2, h3, h4⟩ | ⟨rfl, rfl⟩
    · left
      have w1 := wrap_id (x := (i : Int) + 1) (by omega)
      have wl := congrArg List.length h4
      simp at wl
      -- what a flush does
      have fl : run ≠ [] → flush i run = put2 (i - run.length) ++ [UInt8.ofNat run.length] ++ run := fun h => by unfold flush; rw [if_neg h]
      have e86 := fun hp => f86 (n + 1) (i - run.length) hp (by omega)
      have w2 := wrap_id (x := (i : Int) - run.length) (by omega)
      have w3 : (i : Int) - run.length = ((i - run.length : Nat) : Int) := by omega
      rw [w3] at w2
      have b1 : bytesOf [PV.int .u8 ((run.length : Int) % 256)] = some [UInt8.ofNat run.length] := by
        have := ob_bytes [UInt8.ofNat run.length]
        simp [ofBytes] at this
        exact this
      have pl : ∀ x, (put2 x).length = 2 := fun x => rfl
      have l1 : out.length + 2 ≤ 9223372036854775807 := by omega
      have l2 : out.length ≤ 9223372036854775804 := by omega
      have l7 : out.length ≤ 9223372036854775805 := by omega
      have l3 : out.length + 3 + run.length ≤ 9223372036854775807 := by omega
      have l4 : out.length + (3 + run.length) ≤ 9223372036854775807 := by omega
      have c0 : i ≤ a.length := h1
      by_cases c1 : i < a.length
      · have c1' : i < b.length := by omega
        have ga : a[i]? = some a[i] := List.getElem?_eq_getElem c1
        have gb : b[i]? = some b[i] := List.getElem?_eq_getElem c1'
        have hsl : (b.drop i).take 1 = [b[i]] := by rw [drop_get b i c1']; rfl
        have n1 : (0 : Int) ≤ (i : Int) + 1 := by omega
        have n2 : (i : Int) + 1 ≤ b.length := by omega
        have n3 : ((i : Int) + 1).toNat = i + 1 := by omega
        have n4 : (i : Int) ≤ (i : Int) + 1 := by omega
        rw [drop_get a i c1, drop_get b i c1', ch] at h4
        by_cases c2 : a[i] = b[i]
        · rw [if_pos c2] at h4
          refine ⟨(i + 1, out ++ flush i run, []), ?_, .inl ⟨by dsimp only; omega, by simp, by simp, by dsimp only; rw [← h4]; simp⟩, by dsimp only; omega⟩
          by_cases c3 : run = []
          · subst c3
            simp [-getElem?_pos, List.getElem?_cons_zero, c0, c1, c1', ga, gb, c2, w1, flush]
          · have c3' : (run == []) = false := by simp [c3]
            rw [fl c3]
            simp [-getElem?_pos, List.getElem?_cons_zero, c0, c1, c1', ga, gb, w1, w3, w2, e86, b1, pl, l1, l2, l7, l3, l4, c2, c3']
        · rw [if_neg c2] at h4
          have c2' : ((a[i].toNat : Int) != b[i].toNat) = true := by
            simp
            intro e
            exact c2 (UInt8.toNat_inj.1 (by omega))
          by_cases c4 : run.length = 255
          · rw [if_pos c4] at h4
            have c3 : run ≠ [] := fun e => by rw [e] at c4; cases c4
            have c3' : (run == []) = false := by simp [c3]
            have c4' : ((run.length : Int) == 255) = true := by simp [c4]
            refine ⟨(i + 1, out ++ flush i run, [b[i]]), ?_, .inl ⟨by dsimp only; omega, by simp, by simp, by dsimp only; rw [← h4]; simp⟩, by dsimp only; omega⟩
            rw [fl c3]
            simp [-getElem?_pos, List.getElem?_cons_zero, c0, c1, c1', ga, gb, w1, w3, w2, e86, b1, pl, l1, l2, l7, l3, l4, c2', c3', c4', hsl, n1, n2, n3, n4]
          · rw [if_neg c4] at h4
            have c4' : ((run.length : Int) == 255) = false := by simp; omega
            have l5 : run.length + 1 ≤ 9223372036854775807 := by omega
            have l6 : run.length ≤ 9223372036854775806 := by omega
            refine ⟨(i + 1, out, run ++ [b[i]]), ?_, .inl ⟨by dsimp only; omega, by simp; omega, by simp; omega, by dsimp only; rw [← h4]⟩, by dsimp only; omega⟩
            by_cases c3 : run = []
            · subst c3
              simp [-getElem?_pos, List.getElem?_cons_zero, c0, c1, c1', ga, gb, w1, c2', hsl, n1, n2, n3, n4]
            · have c3' : (run == []) = false := by simp [c3]
              simp [-getElem?_pos, List.getElem?_cons_zero, c0, c1, c1', ga, gb, w1, w3, w2, e86, b1, pl, l1, l2, l7, l3, l4, c2', c3', c4', hsl, n1, n2, n3, n4, l5, l6]
      · have hi : i = a.length := by omega
        have e1 : a.drop i = [] := List.drop_eq_nil_of_le (by omega)
        have e2 : b.drop i = [] := List.drop_eq_nil_of_le (by omega)
        have hch : ch i run [] [] = flush i run := by simp [ch]
        rw [e1, e2, hch] at h4
        refine ⟨(i + 1, out ++ flush i run, []), ?_, .inr ⟨by dsimp only; omega, h4⟩, by dsimp only; omega⟩
        by_cases c3 : run = []
        · subst c3
          simp [-getElem?_pos, List.getElem?_cons_zero, c0, c1, w1, flush]
        · have c3' : (run == []) = false := by simp [c3]
          rw [fl c3]
          simp [-getElem?_pos, List.getElem?_cons_zero, c0, c1, w1, w3, w2, e86, b1, pl, l1, l2, l7, l3, l4, c3']
    · right
      have c0 : ¬ (a.length : Int) + 1 ≤ a.length := by omega
      refine ⟨run, ?_, by simp, trivial⟩
      simp [c0]
  · rintro run rfl -
    simp [hR]
end Go.Proofs.Ytoipglmjnibdpaa
end

section
namespace Go.Proofs.Ytoipglmjnibdpaa
open Go Go.PS
/-- What is told, put into the bytes, makes the others. -/
theorem ap_flush (la : Nat) (i : Nat) (run rest out : List UInt8) (e : Nat) (hi : run.length ≤ i) (hr : run.length ≤ 255) (hn : run ≠ []) (hie : e ≤ i - run.length) (hla : i ≤ la) (h65 : la ≤ 65535) (ho : out.length = la) :
    ap la (flush i run ++ rest) out e = ap la rest (out.take (i - run.length) ++ run ++ out.drop i) i := by
  have h0 : run.length ≠ 0 := fun h => hn (List.length_eq_zero_iff.1 h)
  unfold flush
  rw [if_neg hn]
  simp only [put2, List.append_assoc, List.cons_append, List.nil_append]
  rw [ap]
  have t1 : (UInt8.ofNat (i - run.length)).toNat + 256 * (UInt8.ofNat ((i - run.length) / 256)).toNat = i - run.length := by
    simp
    omega
  have t2 : (UInt8.ofNat run.length).toNat = run.length := by simp; omega
  simp only [t1, t2]
  rw [if_neg (by simp), if_neg (by omega), if_neg (by omega)]
  have t3 : i - run.length + run.length = i := by omega
  rw [t3]
  simp
/-- Changes, applied. -/
theorem ap_ch (la : Nat) : ∀ (xs ys : List UInt8) (i : Nat) (run out : List UInt8) (e : Nat), xs.length = ys.length → i + xs.length = la → la ≤ 65535 → out.length = la → run.length ≤ i → run.length ≤ 255 → (run = [] → e ≤ i) → (run ≠ [] → e ≤ i - run.length) → out.drop i = xs →
    ap la (ch i run xs ys) out e = (out.take (i - run.length) ++ run ++ ys, 0)
  | x :: xs, y :: ys, i, run, out, e, hl, hi, h65, ho, h1, h2, h3, h4, h5 => by
    have hx : out.drop (i + 1) = xs := drop_cons h5
    have hgx : out[i]? = some x := get_of_drop h5
    simp at hl hi
    have til : i < out.length := by omega
    have tk : out.take (i + 1) = out.take i ++ [x] := by
      rw [List.take_succ, hgx]; rfl
    obtain ⟨A, hA⟩ : ∃ A, A = out.take (i - run.length) ++ run := ⟨_, rfl⟩
    have hAl : A.length = i := by rw [hA]; simp; omega
    have ho' : (A ++ x :: xs).length = la := by simp; omega
    have d1 : (A ++ x :: xs).drop (i + 1) = xs := by
      rw [← hAl, List.drop_append, List.drop_eq_nil_of_le (by omega)]
      have : A.length + 1 - A.length = 1 := by omega
      rw [this]; rfl
    have t1 : (A ++ x :: xs).take (i + 1) = A ++ [x] := by
      rw [← hAl, List.take_append, List.take_of_length_le (by omega)]
      have : A.length + 1 - A.length = 1 := by omega
      rw [this]; rfl
    have t0 : (A ++ x :: xs).take i = A := by
      rw [← hAl, List.take_append_of_le_length (Nat.le_refl _), List.take_of_length_le (Nat.le_refl _)]
    rw [ch]
    split
    · rename_i hxy
      subst hxy
      by_cases hr : run = []
      · subst hr
        simp only [flush, if_true, List.nil_append, List.length_nil, Nat.sub_zero]
        rw [ap_ch la xs ys (i + 1) [] out e hl (by omega) h65 ho (by simp) (by simp) (fun _ => by have := h3 rfl; omega) (fun h => (h rfl).elim) hx]
        simp [tk]
      · rw [ap_flush la i run _ out e h1 h2 hr (h4 hr) (by omega) h65 ho, h5, ← hA]
        rw [ap_ch la xs ys (i + 1) [] _ i hl (by omega) h65 ho' (by simp) (by simp) (fun _ => by omega) (fun h => (h rfl).elim) d1]
        simp [t1]
    · rename_i hxy
      split
      · rename_i h255
        have hr : run ≠ [] := fun h => by rw [h] at h255; cases h255
        rw [ap_flush la i run _ out e h1 h2 hr (h4 hr) (by omega) h65 ho, h5, ← hA]
        rw [ap_ch la xs ys (i + 1) [y] _ i hl (by omega) h65 ho' (by simp) (by simp) (fun h => by cases h) (fun _ => by simp) d1]
        simp [t0]
      · rename_i h255
        rw [ap_ch la xs ys (i + 1) (run ++ [y]) out e hl (by omega) h65 ho (by simp; omega) (by simp; omega) (fun h => by simp at h) (fun _ => ?_) hx]
        · have : i + 1 - (run.length + 1) = i - run.length := by omega
          simp [this]
        · by_cases hr : run = []
          · have := h3 hr; simp [hr]; omega
          · have := h4 hr; simp; omega
  | [], [], i, run, out, e, hl, hi, h65, ho, h1, h2, h3, h4, h5 => by
    simp at hi
    have hch : ch i run [] [] = flush i run := by simp [ch]
    rw [hch]
    by_cases hr : run = []
    · subst hr
      have : out.take i = out := List.take_of_length_le (by omega)
      simp [flush, ap, this]
    · have := ap_flush la i run [] out e h1 h2 hr (h4 hr) (by omega) h65 ho
      rw [List.append_nil] at this
      rw [this, h5]
      simp [ap]
theorem ap_all (a b : List UInt8) (h : a.length = b.length) (ha : a.length ≤ 600) : ap a.length (ch 0 [] a b) a 0 = (b, 0) := by
  rw [ap_ch a.length a b 0 [] a 0 h (by simp) (by omega) rfl (by simp) (by simp) (fun _ => by omega) (fun h => (h rfl).elim) rfl]
  simp
theorem ch_same : ∀ (a : List UInt8) (i : Nat), ch i [] a a = []
  | [], i => by simp [ch, flush]
  | x :: a, i => by rw [ch_skip, ch_same a]
end Go.Proofs.Ytoipglmjnibdpaa
end

section
namespace Go.Proofs.Ytoipglmjnibdpaa
open Go Go.PS
theorem live49c (x y : List PV) : fstR (evalCall Try.prog hints 5020 49 [] [x, y]) = some (.bool true) := by kernel_rfl
set_option maxHeartbeats 4000000 in
theorem f11 (a b : List UInt8) (ha : a.length ≤ 9223372036854775807) (hb : b.length ≤ 9223372036854775807) : ∃ hp d, evalCall Try.prog hints 5021 11 [.str a, .str b] [] = some (.bool true, hp, d) := by
  apply of_map
  obtain ⟨hpa, da, la⟩ := of_map live49a
  rw [evalCall_at _ _ _ hh11 rfl Try.func11 rfl (Nat.le_of_ble_eq_true rfl) rfl]
  by_cases h1 : 600 < a.length
  · have h1' : (600 : Int) < a.length := by omega
    simp [h1', la]
    cases da <;> simp
  by_cases h2 : 600 < b.length
  · have h1' : ¬ (600 : Int) < a.length := by omega
    have h2' : (600 : Int) < b.length := by omega
    simp [h1', h2', la]
    cases da <;> simp
  have h1' : ¬ (600 : Int) < a.length := by omega
  have h2' : ¬ (600 : Int) < b.length := by omega
  by_cases h3 : a.length = b.length
  · have h3' : ((a.length : Int) != b.length) = false := by simp; omega
    obtain ⟨rd, d, e50⟩ := f50 5015 a b [] h3 (by omega) (by omega)
    have hcl : (ch 0 [] a b).length ≤ 2400 := by have := ch_len a b 0 []; simp at this; omega
    have e51 := fun hp => f51 5015 a (ch 0 [] a b) hp (by omega) (by omega) (by omega)
    rw [ap_all a b h3 (by omega)] at e51
    have e52 := fun hp => f52 5015 a b hp h3 (by omega) (by omega)
    have e50' := fun hp => f50 5015 a a hp rfl (by omega) (by omega)
    rw [ch_same a 0] at e50'
    generalize ch 0 [] a b = C at *
    dsimp only at e51
    cases d with
    | true =>
      obtain ⟨rd2, d2, e51⟩ := e51 [rd]
      cases d2 with
      | true =>
        obtain ⟨hpb, db, lb⟩ := of_map (live49c rd rd2)
        cases db with
        | true =>
          obtain ⟨rd3, d3, e50'⟩ := e50' hpb
          simp [h1', h2', h3', e50, e51, lb, e52, e50']
          cases d3 <;> simp
        | false =>
          obtain ⟨rd3, d3, e50'⟩ := e50' [rd, rd2]
          simp at e50'
          simp [h1', h2', h3', e50, e51, lb, e52, e50']
          cases d3 <;> simp
      | false =>
        obtain ⟨hpb, db, lb⟩ := of_map (live49b rd)
        cases db with
        | true =>
          obtain ⟨rd3, d3, e50'⟩ := e50' hpb
          simp [h1', h2', h3', e50, e51, lb, e52, e50']
          cases d3 <;> simp
        | false =>
          obtain ⟨rd3, d3, e50'⟩ := e50' [rd]
          simp at e50'
          simp [h1', h2', h3', e50, e51, lb, e52, e50']
          cases d3 <;> simp
    | false =>
      obtain ⟨rd2, d2, e51⟩ := e51 []
      cases d2 with
      | true =>
        obtain ⟨hpb, db, lb⟩ := of_map (live49b rd2)
        cases db with
        | true =>
          obtain ⟨rd3, d3, e50'⟩ := e50' hpb
          simp [h1', h2', h3', e50, e51, lb, e52, e50']
          cases d3 <;> simp
        | false =>
          obtain ⟨rd3, d3, e50'⟩ := e50' [rd2]
          simp at e50'
          simp [h1', h2', h3', e50, e51, lb, e52, e50']
          cases d3 <;> simp
      | false =>
        cases da with
        | true =>
          obtain ⟨rd3, d3, e50'⟩ := e50' hpa
          simp [h1', h2', h3', e50, e51, la, e52, e50']
          cases d3 <;> simp
        | false =>
          obtain ⟨rd3, d3, e50'⟩ := e50' []
          simp at e50'
          simp [h1', h2', h3', e50, e51, la, e52, e50']
          cases d3 <;> simp
  · have h3' : ((a.length : Int) != b.length) = true := by simp; omega
    have e50 := fun hp => f50ne 5017 a b hp h3
    simp [h1', h2', h3', e50, la]
    cases da <;> simp
end Go.Proofs.Ytoipglmjnibdpaa
end
