/-
  What functions of this program compute, as equations about the evaluator. No condition but those stated.
-/
import Derived.Test.YtaiiboplopljoaaGreatEqsV

set_option linter.all false
section
namespace Go.Proofs.YtaiiboplopljoaaGreat
open Go Go.PS
theorem f16a (n : Nat) (s : List UInt8) (i : Nat) (I : Int) (a : UInt8) (l : List UInt8) (hp : Heap) (hI : I = i) (hd : s.drop i = a :: l) (hs : s.length ≤ 100000) : evalCall Tryz.prog hints (n + 1) 16 [.str s, .int .i64 I, .int .i64 1] hp = some (.int .i64 a.toNat, hp, false) := by
  subst hI
  have hl := congrArg List.length hd
  rw [List.length_drop, List.length_cons] at hl
  have g : s[i]? = some a := by
    have := congrArg (fun l => l[0]?) hd
    simpa [List.getElem?_drop] using this
  have hi : i < s.length := by omega
  have w1 := wrap_id (x := (s.length : Int) - i) (by omega)
  have w2 := wrap_id (x := (a.toNat : Int)) (by have := a.toNat_lt; omega)
  have c : ¬ ((s.length : Int) - i < 1) := by omega
  rw [evalCall_at _ _ _ hh16 rfl Tryz.func16 rfl (Nat.le_of_ble_eq_true rfl) rfl]
  simp [-getElem?_pos, w1, w2, c, g, hi]
theorem f16b (n : Nat) (s : List UInt8) (i : Nat) (I : Int) (a b : UInt8) (l : List UInt8) (hp : Heap) (hI : I = i) (hd : s.drop i = a :: b :: l) (hs : s.length ≤ 100000) : evalCall Tryz.prog hints (n + 1) 16 [.str s, .int .i64 I, .int .i64 2] hp = some (.int .i64 ((a.toNat : Int) + 256 * b.toNat), hp, false) := by
  subst hI
  have hl := congrArg List.length hd
  rw [List.length_drop, List.length_cons, List.length_cons] at hl
  have g : s[i]? = some a := by
    have := congrArg (fun l => l[0]?) hd
    simpa [List.getElem?_drop] using this
  have g2 : s[i + 1]? = some b := by
    have := congrArg (fun l => l[1]?) hd
    simpa [List.getElem?_drop] using this
  have hi : i < s.length := by omega
  have hi2 : (i : Int) + 1 < s.length := by omega
  have ha := a.toNat_lt
  have hb := b.toNat_lt
  have w1 := wrap_id (x := (s.length : Int) - i) (by omega)
  have w2 := wrap_id (x := (a.toNat : Int)) (by omega)
  have w3 := wrap_id (x := (b.toNat : Int)) (by omega)
  have w4 := wrap_id (x := (i : Int) + 1) (by omega)
  have w5 := wrap_id (x := 256 * (b.toNat : Int)) (by omega)
  have w6 := wrap_id (x := (a.toNat : Int) + 256 * b.toNat) (by omega)
  have c : ¬ ((s.length : Int) - i < 2) := by omega
  have c2 : (0 : Int) ≤ (i : Int) + 1 := by omega
  have c3 : ((i : Int) + 1).toNat = i + 1 := by omega
  rw [evalCall_at _ _ _ hh16 rfl Tryz.func16 rfl (Nat.le_of_ble_eq_true rfl) rfl]
  simp [-getElem?_pos, w1, w2, w3, w4, w5, w6, c, c2, c3, g, g2, hi, hi2]
theorem rows5_no {n : Nat} {l : List UInt8} (h : l.length < 5) : rows5 (n + 1) l = none := by
  match l, h with
  | [], _ => rfl
  | [_], _ => rfl
  | [_, _], _ => rfl
  | [_, _, _], _ => rfl
  | [_, _, _, _], _ => rfl
  | _ :: _ :: _ :: _ :: _ :: _, h => simp at h; omega
theorem five {l : List UInt8} (h : ¬ l.length < 5) : ∃ a b c d e r, l = a :: b :: c :: d :: e :: r := by
  match l, h with
  | [], h => simp at h
  | [_], h => simp at h
  | [_, _], h => simp at h
  | [_, _, _], h => simp at h
  | [_, _, _, _], h => simp at h
  | a :: b :: c :: d :: e :: r, _ => exact ⟨a, b, c, d, e, r, rfl⟩
theorem drop_add {s : List UInt8} {i : Nat} (k : Nat) {l r : List UInt8} (h : s.drop i = l ++ r) (hl : l.length = k) : s.drop (i + k) = r := by
  rw [← List.drop_drop, h, List.drop_left' hl]
end Go.Proofs.YtaiiboplopljoaaGreat
end

section
namespace Go.Proofs.YtaiiboplopljoaaGreat
open Go Go.PS
theorem f72a (n : Nat) (x m : Int) (hp : Heap) (h0 : 0 ≤ x) (hm : 0 < m) (hb : x ≤ 100000) (hmb : m ≤ 100000) : evalCall Tryz.prog hints (n + 1) 72 [.int .i64 x, .int .i64 m] hp = some (.int .i64 (x % m), hp, false) := by
  have b1 := Int.emod_nonneg x (show m ≠ 0 by omega)
  have b2 := Int.emod_lt_of_pos x hm
  have c : ¬ (x % m < 0) := by omega
  have hm0 : m ≠ 0 := by omega
  have t := tm (a := x) m h0
  have br : binI .rem .i64 x m = some (.int .i64 (x % m)) := by
    show (if m = 0 then none else some (PV.int .i64 (x.tmod m))) = _
    rw [if_neg hm0, t]
  rw [evalCall_at _ _ _ hh72 rfl Tryz.func72 rfl (Nat.le_of_ble_eq_true rfl) rfl]
  generalize x % m = y at *
  simp [-binI, bi_lss, br, c]
theorem f21 (n : Nat) (x : Int) (hp : Heap) (hx : inR x 65535) : evalCall Tryz.prog hints (n + 3) 21 [.int .i64 x] hp = some (.str (b2 x), hp, false) := by
  obtain ⟨h0, h1⟩ := hx
  have e42 : evalCall Tryz.prog hints (n + 2) 42 [.int .i64 x] hp = some (.int .i64 (x % 256), hp, false) := by
    have e := f72a n x 256 hp h0 (by omega) (by omega) (by omega)
    rw [evalCall_at _ _ _ hh42 rfl Tryz.func42 rfl (Nat.le_of_ble_eq_true rfl) rfl]
    generalize x % 256 = y at *
    simp [e]
  have e43 : evalCall Tryz.prog hints (n + 2) 43 [.int .i64 x] hp = some (.int .i64 (x / 256), hp, false) := by
    have e := f72a n x 65536 hp h0 (by omega) (by omega) (by omega)
    have hxx : x % 65536 = x := by omega
    rw [hxx] at e
    have t := td (a := x) 256 h0
    have w := wrap_id (x := x / 256) (by omega)
    have bq : binI .quo .i64 x 256 = some (.int .i64 (x / 256)) := by
      show (if (256 : Int) = 0 then none else some (PV.int .i64 (IntKind.i64.wrap (x.tdiv 256)))) = _
      rw [if_neg (by decide), t, w]
    rw [evalCall_at _ _ _ hh43 rfl Tryz.func43 rfl (Nat.le_of_ble_eq_true rfl) rfl]
    generalize x / 256 = y at *
    simp [-binI, e, bq]
  rw [evalCall_at _ _ _ hh21 rfl Tryz.func21 rfl (Nat.le_of_ble_eq_true rfl) rfl]
  have u1 : ((x % 256) % 256).toNat = x.toNat % 256 := by omega
  have u2 : ((x / 256) % 256).toNat = x.toNat / 256 % 256 := by omega
  unfold b2
  generalize hq1 : x % 256 = q1 at *
  generalize hq2 : x / 256 = q2 at *
  simp [-Int.emod_emod_of_dvd, e42, e43, bytesOf, u1, u2]
theorem bytesN_snoc (l : List F2) (k : Nat) (hk : k < l.length) : bytesN (l.take (k + 1)) = bytesN (l.take k) ++ (b2 l[k].r).take l[k].k.toNat := by
  rw [List.take_succ_eq_append_getElem hk, bytesN_append]
  simp [bytesN]
theorem bytesN_len (l : List F2) : (bytesN l).length ≤ 2 * l.length := by
  unfold bytesN
  induction l with
  | nil => simp
  | cons a l ih => rw [List.flatMap_cons, List.length_append, List.length_cons, List.length_take]; have : (b2 a.r).length = 2 := rfl; omega
set_option maxHeartbeats 2000000 in
theorem f8 (n : Nat) (t : Tab) (hp : Heap) (lW : t.W.length ≤ 255) (lS : t.S.length ≤ 255) (lC : t.C.length ≤ 255) (hn : ∀ x ∈ nums t, okF x = true ∧ (x.k = 1 ∨ x.k = 2)) : evalCall Tryz.prog hints (n + 20000) 8 [.agg t.cells] hp = some (.tup [.str (crcSeal (bytesN (nums t))), .int .i64 0], hp, false) := by
  have e20 := f20 (n + 19997) t hp (by omega) (by omega) (by omega) (by omega)
  have ln : (nums t).length ≤ 8000 := by
    unfold nums headN
    simp only [List.length_append, List.length_cons, List.length_nil, nlen R3.numsLen, nlen Cl.numsLen]
    omega
  have e15 := f15 (n + 19995) (bytesN (nums t)) hp (by have := bytesN_len (nums t); omega) (by omega) (by have := bytesN_len (nums t); omega)
  have e21 := fun x h => f21 (n + 19996) x hp h
  rw [evalCall_at _ _ _ hh8 rfl Tryz.func8 rfl (Nat.le_of_ble_eq_true rfl) rfl]
  have lX := flat_len F2.len (nums t)
  have g0 := fun k h => flat_get F2.len (nums t) k h 0 (by omega)
  have g1 := fun k h => flat_get F2.len (nums t) k h 1 (by omega)
  have cW : ¬ ((255 : Int) < (t.W.length : Int)) := by omega
  have cS : ¬ ((255 : Int) < (t.S.length : Int)) := by omega
  have cC : ¬ ((255 : Int) < (t.C.length : Int)) := by omega
  have bl := bytesN_len
  generalize nums t = N at *
  simp only [Tab.cells] at *
  generalize N.flatMap F2.cells = X at *
  generalize t.W.flatMap R3.cells = X1 at *
  generalize t.S.flatMap R3.cells = X2 at *
  generalize t.C.flatMap Cl.cells = X3 at *
  obtain ⟨B, hB⟩ : ∃ B : Nat → List UInt8, B = fun k => bytesN (N.take k) := ⟨_, rfl⟩
  have hBN : bytesN N = B N.length := by rw [hB]; simp
  have hB0 : B 0 = [] := by rw [hB]; simp [bytesN]
  have hBS : ∀ k (hk : k < N.length), B (k + 1) = B k ++ (b2 N[k].r).take N[k].k.toNat := fun k hk => by rw [hB]; exact bytesN_snoc N k hk
  have hBl : ∀ k, (B k).length ≤ 16000 := fun k => by
    have := bl (N.take k); rw [List.length_take] at this; rw [hB]; simp only; omega
  rw [hBN] at e15 ⊢
  clear hB hBN
  simp [-getElem?_pos, List.getElem?_cons_zero, List.getElem?_cons_succ, cW, cS, cC, e20]
  rw [iter_count (fun k => { fr := [(4, .sl (.mu 2) N.length X), (5, .str (B k)), (6, .int .i64 k)], hp := hp, base := hp.length, dirty := false }) (.exit 0, { fr := [(4, .sl (.mu 2) N.length X), (5, .str (B N.length)), (6, .int .i64 N.length), (30, .bool false)], hp := hp, base := hp.length, dirty := false }) N.length]
  · simp [e15]
  · simp [hB0]
  · omega
  · intro k hk
    have g0 := g0 k hk
    have g1 := g1 k hk
    have hS := hBS k hk
    have hl := hBl k
    obtain ⟨ok, kk⟩ := hn N[k] (List.getElem_mem hk)
    have w := wrap_id (x := (k : Int) + 1) (by omega)
    rw [hS]
    generalize N[k] = x at *
    obtain ⟨xr, xk⟩ := x
    unfold okF at ok
    simp only [decide_eq_true_eq] at ok kk
    obtain ⟨o1, o2, o3⟩ := ok
    have e21 := e21 xr ⟨o1, o3⟩
    simp only [F2.cells, Nat.add_zero, List.getElem?_cons_zero, List.getElem?_cons_succ] at g0 g1 ⊢
    have c1 : ¬ xr < 0 := by omega
    have c3 : ¬ 65535 < xr := by omega
    have lb : (b2 xr).length = 2 := rfl
    generalize b2 xr = bb at *
    rcases kk with rfl | rfl
    · have c2 : ¬ 255 < xr := by have := o2 rfl; omega
      have hlen : (B k).length + 1 ≤ 9223372036854775807 := by omega
      simp [-getElem?_pos, List.getElem?_cons_zero, List.getElem?_cons_succ, hk, lX, g0, g1, c1, c2, c3, e21, lb, w, hlen]
    · have hlen : (B k).length + 2 ≤ 9223372036854775807 := by omega
      simp [-getElem?_pos, List.getElem?_cons_zero, List.getElem?_cons_succ, hk, lX, g0, g1, c1, c3, e21, lb, w, hlen]
  · simp
  · simp
end Go.Proofs.YtaiiboplopljoaaGreat
end

section
namespace Go.Proofs.YtaiiboplopljoaaGreat
open Go Go.PS
/-- What the reference's reading holds. -/
def rS (q : Nat) (t : List UInt8) (f : Int) (t1 t2 t3 : Nat) (W S : List R3) (C : List Cl) (i m : Nat) (hp : Heap) (x : List (Nat × PV)) : St :=
  { fr := (2, .box [.int .i64 0, .sl (.mu 0) 0 [], .sl (.mu 0) 0 [], .sl (.mu 0) 0 []]) :: (4, .str t) :: (5, .box [.int .i64 f, .sl (.mu t1) W.length (W.flatMap R3.cells), .sl (.mu t2) S.length (S.flatMap R3.cells), .sl (.mu t3) C.length (C.flatMap Cl.cells)]) :: (6, .int .i64 i) :: (q, .int .i64 m) :: x, hp := hp, base := hp.length, dirty := false }
def rE (hp : Heap) : St := { fr := [(2, .box [.int .i64 0, .sl (.mu 0) 0 [], .sl (.mu 0) 0 [], .sl (.mu 0) 0 []]), (3, .int .i64 5)], hp := hp, base := hp.length, dirty := false }
/-- The body of a function's loop, by its number. -/
def loopsOf : Code → List Code
  | .seq a b => loopsOf a ++ loopsOf b
  | .cond _ a b => loopsOf a ++ loopsOf b
  | .block _ b => loopsOf b
  | .loop b => [b]
  | _ => []
def loopOf (c : Option Code) (k : Nat) : Code := match c with
  | some b => (loopsOf b).getD k .skip
  | none => .skip
/-- The windows' reading, row by row. -/
structure RX where
  m : Nat
  i : Nat
  W : List R3
  tg : Nat
set_option maxHeartbeats 4000000 in
theorem rl1 (n : Nat) (t : List UInt8) (f : Int) (hp : Heap) (ht : t.length ≤ 1000) (N i0 : Nat) (h0 : i0 ≤ t.length) (hN : N ≤ 255) (r : Option (Ex × St))
    (hit : iter (loopBody Tryz.prog hint6 (fun f => (hints f).own) (evalCall Tryz.prog hints (n + 2009)) (n + 2009) (loopOf Tryz.f6.body 0)) (n + 2009) (rS 7 t f 0 0 0 [] [] [] i0 N hp []) = r) :
    (rows5 N (t.drop i0) = none ∧ r = some (.ret, rE hp)) ∨ ∃ W i tg, rows5 N (t.drop i0) = some (W, t.drop i) ∧ i ≤ t.length ∧ (tg = 3 ∨ tg = 0 ∧ W = []) ∧ W.length ≤ 255 ∧ r = some (.exit 0, rS 7 t f tg 0 0 W [] [] i 0 hp [(43, .bool false)]) := by
  refine iter_elim hit (fun x : RX => rS 7 t f x.tg 0 0 x.W [] [] x.i x.m hp [])
    (fun x => x.i ≤ t.length ∧ x.m ≤ 255 ∧ x.W.length + x.m ≤ 255 ∧ (x.tg = 3 ∨ x.tg = 0 ∧ x.W = []) ∧ rows5 N (t.drop i0) = (rows5 x.m (t.drop x.i)).map fun y => (x.W ++ y.1, y.2)) (fun x => x.m)
    (fun y : Option RX => match y with | none => (.ret, rE hp) | some x => (.exit 0, rS 7 t f x.tg 0 0 x.W [] [] x.i 0 hp [(43, .bool false)]))
    (fun y => match y with | none => rows5 N (t.drop i0) = none | some x => x.i ≤ t.length ∧ (x.tg = 3 ∨ x.tg = 0 ∧ x.W = []) ∧ x.W.length ≤ 255 ∧ rows5 N (t.drop i0) = some (x.W, t.drop x.i))
    ⟨N, i0, [], 0⟩ rfl ⟨h0, hN, by simpa using hN, .inr ⟨rfl, rfl⟩, by cases rows5 N (t.drop i0) <;> rfl⟩ (by simp only; omega) ?_ ?_
  · rintro ⟨m, i, W, tg⟩ ⟨a1, a2, a3, a4, a5⟩
    simp only at a1 a2 a3 a4 a5
    match m, a2, a3, a5 with
    | 0, a2, a3, a5 =>
      right
      refine ⟨some ⟨0, i, W, tg⟩, ?_, by simp, ⟨a1, a4, by omega, by rw [a5]; simp [rows5]⟩⟩
      simp only [rS, Tryz.f6, loopOf, loopsOf, List.cons_append, List.nil_append, List.getD_cons_zero]
      simp [-getElem?_pos, List.getElem?_cons_zero, List.getElem?_cons_succ]
    | m + 1, a2, a3, a5 =>
      have w1 := wrap_id (x := (t.length : Int) - i) (by omega)
      have m0 : (0 : Int) < (m : Int) + 1 := by omega
      by_cases c : (t.drop i).length < 5
      · right
        have c' : (t.length : Int) - i < 5 := by rw [List.length_drop] at c; omega
        refine ⟨none, ?_, by simp, by rw [a5, rows5_no c]; rfl⟩
        simp only [rS, rE, Tryz.f6, loopOf, loopsOf, List.cons_append, List.nil_append, List.getD_cons_zero]
        simp [-getElem?_pos, List.getElem?_cons_zero, List.getElem?_cons_succ, w1, m0, c']
      · left
        obtain ⟨a, b, c1, d, e, l, hd⟩ := five c
        have c' : ¬ ((t.length : Int) - i < 5) := by rw [List.length_drop] at c; omega
        have e1 := f16a (n + 2008) t i i a _ hp rfl hd (by omega)
        have e2 := f16b (n + 2008) t (i + 1) ((i : Int) + 1) b c1 _ hp (by simp) (drop_add 1 (l := [a]) hd rfl) (by omega)
        have e3 := f16b (n + 2008) t (i + 3) ((i : Int) + 3) d e _ hp (by simp) (drop_add 3 (l := [a, b, c1]) hd rfl) (by omega)
        have w2 := wrap_id (x := (i : Int) + 1) (by omega)
        have w3 := wrap_id (x := (i : Int) + 3) (by omega)
        have w4 := wrap_id (x := (i : Int) + 5) (by omega)
        have w5 := wrap_id (x := (m : Int)) (by omega)
        have hd5 : t.drop (i + 5) = l := drop_add 5 (l := [a, b, c1, d, e]) hd rfl
        have hi5 : i + 5 ≤ t.length := by rw [List.length_drop] at c; omega
        refine ⟨⟨m, i + 5, W ++ [⟨a.toNat, (b.toNat : Int) + 256 * c1.toNat, (d.toNat : Int) + 256 * e.toNat⟩], 3⟩, ?_, ⟨hi5, by simp only; omega, by simp only [List.length_append, List.length_singleton]; omega, .inl rfl, ?_⟩, by simp⟩
        · have lW := flat_len R3.len W
          have aW : (W.flatMap R3.cells).all storable = true := flat_all (f := R3.cells) (fun _ => rfl) _
          have m1 : (W.length + 1) * 24 ≤ 140737488355328 := by omega
          have tt : tg = 3 ∨ tg = 0 ∧ W.length = 0 := by
            rcases a4 with h | ⟨h1, h2⟩
            · exact .inl h
            · exact .inr ⟨h1, by rw [h2]; rfl⟩
          simp only [rS, List.flatMap_append, List.length_append, List.length_singleton, List.flatMap_cons, List.flatMap_nil, List.append_nil, R3.cells]
          generalize W.flatMap R3.cells = X at *
          generalize W.length = WL at *
          generalize (b.toNat : Int) + 256 * c1.toNat = v2 at *
          generalize (d.toNat : Int) + 256 * e.toNat = v3 at *
          simp only [Tryz.f6, loopOf, loopsOf, List.cons_append, List.nil_append, List.getD_cons_zero]
          simp [-getElem?_pos, List.getElem?_cons_zero, List.getElem?_cons_succ, w1, m0, c', e1, e2, e3, w2, w3, w4, w5, lW, aW, m1, tt]
        · have hr5 : rows5 (m + 1) (t.drop i) = (rows5 m l).map fun x => (⟨a.toNat, (b.toNat : Int) + 256 * c1.toNat, (d.toNat : Int) + 256 * e.toNat⟩ :: x.1, x.2) := by rw [hd]; rfl
          simp only
          rw [a5, hr5, hd5]
          cases rows5 m l with
          | none => rfl
          | some y => simp only [Option.map_some, List.append_assoc, List.singleton_append]
  · rintro y hr hJ
    cases y with
    | none => exact .inl ⟨hJ, hr⟩
    | some x =>
      obtain ⟨j1, j2, j3, j4⟩ := hJ
      exact .inr ⟨x.W, x.i, x.tg, j4, j1, j2, j3, hr⟩
end Go.Proofs.YtaiiboplopljoaaGreat
end

section
namespace Go.Proofs.YtaiiboplopljoaaGreat
open Go Go.PS
set_option maxHeartbeats 4000000 in
theorem rl2 (n : Nat) (t : List UInt8) (f : Int) (t1 : Nat) (W0 : List R3) (hp : Heap) (ht : t.length ≤ 1000) (N i0 : Nat) (h0 : i0 ≤ t.length) (hN : N ≤ 255) (r : Option (Ex × St))
    (hit : iter (loopBody Tryz.prog hint6 (fun f => (hints f).own) (evalCall Tryz.prog hints (n + 2009)) (n + 2009) (loopOf Tryz.f6.body 1)) (n + 2009) (rS 8 t f t1 0 0 W0 [] [] i0 N hp []) = r) :
    (rows5 N (t.drop i0) = none ∧ r = some (.ret, rE hp)) ∨ ∃ W i tg, rows5 N (t.drop i0) = some (W, t.drop i) ∧ i ≤ t.length ∧ (tg = 3 ∨ tg = 0 ∧ W = []) ∧ W.length ≤ 255 ∧ r = some (.exit 2, rS 8 t f t1 tg 0 W0 W [] i 0 hp [(84, .bool false)]) := by
  refine iter_elim hit (fun x : RX => rS 8 t f t1 x.tg 0 W0 x.W [] x.i x.m hp [])
    (fun x => x.i ≤ t.length ∧ x.m ≤ 255 ∧ x.W.length + x.m ≤ 255 ∧ (x.tg = 3 ∨ x.tg = 0 ∧ x.W = []) ∧ rows5 N (t.drop i0) = (rows5 x.m (t.drop x.i)).map fun y => (x.W ++ y.1, y.2)) (fun x => x.m)
    (fun y : Option RX => match y with | none => (.ret, rE hp) | some x => (.exit 2, rS 8 t f t1 x.tg 0 W0 x.W [] x.i 0 hp [(84, .bool false)]))
    (fun y => match y with | none => rows5 N (t.drop i0) = none | some x => x.i ≤ t.length ∧ (x.tg = 3 ∨ x.tg = 0 ∧ x.W = []) ∧ x.W.length ≤ 255 ∧ rows5 N (t.drop i0) = some (x.W, t.drop x.i))
    ⟨N, i0, [], 0⟩ rfl ⟨h0, hN, by simpa using hN, .inr ⟨rfl, rfl⟩, by cases rows5 N (t.drop i0) <;> rfl⟩ (by simp only; omega) ?_ ?_
  · rintro ⟨m, i, W, tg⟩ ⟨a1, a2, a3, a4, a5⟩
    simp only at a1 a2 a3 a4 a5
    match m, a2, a3, a5 with
    | 0, a2, a3, a5 =>
      right
      refine ⟨some ⟨0, i, W, tg⟩, ?_, by simp, ⟨a1, a4, by omega, by rw [a5]; simp [rows5]⟩⟩
      simp only [rS, Tryz.f6, loopOf, loopsOf, List.cons_append, List.nil_append, List.getD_cons_zero, List.getD_cons_succ]
      simp [-getElem?_pos, List.getElem?_cons_zero, List.getElem?_cons_succ]
    | m + 1, a2, a3, a5 =>
      have w1 := wrap_id (x := (t.length : Int) - i) (by omega)
      have m0 : (0 : Int) < (m : Int) + 1 := by omega
      by_cases c : (t.drop i).length < 5
      · right
        have c' : (t.length : Int) - i < 5 := by rw [List.length_drop] at c; omega
        refine ⟨none, ?_, by simp, by rw [a5, rows5_no c]; rfl⟩
        simp only [rS, rE, Tryz.f6, loopOf, loopsOf, List.cons_append, List.nil_append, List.getD_cons_zero, List.getD_cons_succ]
        simp [-getElem?_pos, List.getElem?_cons_zero, List.getElem?_cons_succ, w1, m0, c']
      · left
        obtain ⟨a, b, c1, d, e, l, hd⟩ := five c
        have c' : ¬ ((t.length : Int) - i < 5) := by rw [List.length_drop] at c; omega
        have e1 := f16a (n + 2008) t i i a _ hp rfl hd (by omega)
        have e2 := f16b (n + 2008) t (i + 1) ((i : Int) + 1) b c1 _ hp (by simp) (drop_add 1 (l := [a]) hd rfl) (by omega)
        have e3 := f16b (n + 2008) t (i + 3) ((i : Int) + 3) d e _ hp (by simp) (drop_add 3 (l := [a, b, c1]) hd rfl) (by omega)
        have w2 := wrap_id (x := (i : Int) + 1) (by omega)
        have w3 := wrap_id (x := (i : Int) + 3) (by omega)
        have w4 := wrap_id (x := (i : Int) + 5) (by omega)
        have w5 := wrap_id (x := (m : Int)) (by omega)
        have hd5 : t.drop (i + 5) = l := drop_add 5 (l := [a, b, c1, d, e]) hd rfl
        have hi5 : i + 5 ≤ t.length := by rw [List.length_drop] at c; omega
        refine ⟨⟨m, i + 5, W ++ [⟨a.toNat, (b.toNat : Int) + 256 * c1.toNat, (d.toNat : Int) + 256 * e.toNat⟩], 3⟩, ?_, ⟨hi5, by simp only; omega, by simp only [List.length_append, List.length_singleton]; omega, .inl rfl, ?_⟩, by simp⟩
        · have lW := flat_len R3.len W
          have aW : (W.flatMap R3.cells).all storable = true := flat_all (f := R3.cells) (fun _ => rfl) _
          have m1 : (W.length + 1) * 24 ≤ 140737488355328 := by omega
          have tt : tg = 3 ∨ tg = 0 ∧ W.length = 0 := by
            rcases a4 with h | ⟨h1, h2⟩
            · exact .inl h
            · exact .inr ⟨h1, by rw [h2]; rfl⟩
          simp only [rS, List.flatMap_append, List.length_append, List.length_singleton, List.flatMap_cons, List.flatMap_nil, List.append_nil, R3.cells]
          generalize W.flatMap R3.cells = X at *
          generalize W0.flatMap R3.cells = X0 at *
          generalize W0.length = WL0 at *
          generalize W.length = WL at *
          generalize (b.toNat : Int) + 256 * c1.toNat = v2 at *
          generalize (d.toNat : Int) + 256 * e.toNat = v3 at *
          simp only [Tryz.f6, loopOf, loopsOf, List.cons_append, List.nil_append, List.getD_cons_zero, List.getD_cons_succ]
          simp [-getElem?_pos, List.getElem?_cons_zero, List.getElem?_cons_succ, w1, m0, c', e1, e2, e3, w2, w3, w4, w5, lW, aW, m1, tt]
        · have hr5 : rows5 (m + 1) (t.drop i) = (rows5 m l).map fun x => (⟨a.toNat, (b.toNat : Int) + 256 * c1.toNat, (d.toNat : Int) + 256 * e.toNat⟩ :: x.1, x.2) := by rw [hd]; rfl
          simp only
          rw [a5, hr5, hd5]
          cases rows5 m l with
          | none => rfl
          | some y => simp only [Option.map_some, List.append_assoc, List.singleton_append]
  · rintro y hr hJ
    cases y with
    | none => exact .inl ⟨hJ, hr⟩
    | some x =>
      obtain ⟨j1, j2, j3, j4⟩ := hJ
      exact .inr ⟨x.W, x.i, x.tg, j4, j1, j2, j3, hr⟩
end Go.Proofs.YtaiiboplopljoaaGreat
end

section
namespace Go.Proofs.YtaiiboplopljoaaGreat
open Go Go.PS
structure RXC where
  m : Nat
  i : Nat
  W : List Cl
  tg : Nat
theorem fourteen {l : List UInt8} (h : ¬ l.length < 14) : ∃ a a' b b' c1 d d' e g h o q q' j r, l = a :: a' :: b :: b' :: c1 :: d :: d' :: e :: g :: h :: o :: q :: q' :: j :: r := by
  match l, h with
  | a :: a' :: b :: b' :: c1 :: d :: d' :: e :: g :: h :: o :: q :: q' :: j :: r, _ => exact ⟨a, a', b, b', c1, d, d', e, g, h, o, q, q', j, r, rfl⟩
  | [], h => simp at h
  | [_], h => simp at h
  | [_, _], h => simp at h
  | [_, _, _], h => simp at h
  | [_, _, _, _], h => simp at h
  | [_, _, _, _, _], h => simp at h
  | [_, _, _, _, _, _], h => simp at h
  | [_, _, _, _, _, _, _], h => simp at h
  | [_, _, _, _, _, _, _, _], h => simp at h
  | [_, _, _, _, _, _, _, _, _], h => simp at h
  | [_, _, _, _, _, _, _, _, _, _], h => simp at h
  | [_, _, _, _, _, _, _, _, _, _, _], h => simp at h
  | [_, _, _, _, _, _, _, _, _, _, _, _], h => simp at h
  | [_, _, _, _, _, _, _, _, _, _, _, _, _], h => simp at h
theorem rows14_no {n : Nat} {l : List UInt8} (h : l.length < 14) : rows14 (n + 1) l = none := by
  rw [rows14]
  cases hc : clB l with
  | none => rfl
  | some y =>
    unfold clB at hc
    split at hc
    · simp at h; omega
    · cases hc
set_option maxRecDepth 100000 in
set_option maxHeartbeats 8000000 in
theorem rl3 (n : Nat) (t : List UInt8) (f : Int) (t1 t2 : Nat) (W0 S0 : List R3) (hp : Heap) (ht : t.length ≤ 1000) (N i0 : Nat) (h0 : i0 ≤ t.length) (hN : N ≤ 255) (r : Option (Ex × St))
    (hit : iter (loopBody Tryz.prog hint6 (fun f => (hints f).own) (evalCall Tryz.prog hints (n + 2009)) (n + 2009) (loopOf Tryz.f6.body 2)) (n + 2009) (rS 9 t f t1 t2 0 W0 S0 [] i0 N hp []) = r) :
    (rows14 N (t.drop i0) = none ∧ r = some (.ret, rE hp)) ∨ ∃ W i tg, rows14 N (t.drop i0) = some (W, t.drop i) ∧ i ≤ t.length ∧ (tg = 10 ∨ tg = 0 ∧ W = []) ∧ W.length ≤ 255 ∧ r = some (.exit 4, rS 9 t f t1 t2 tg W0 S0 W i 0 hp [(125, .bool false)]) := by
  refine iter_elim hit (fun x : RXC => rS 9 t f t1 t2 x.tg W0 S0 x.W x.i x.m hp [])
    (fun x => x.i ≤ t.length ∧ x.m ≤ 255 ∧ x.W.length + x.m ≤ 255 ∧ (x.tg = 10 ∨ x.tg = 0 ∧ x.W = []) ∧ rows14 N (t.drop i0) = (rows14 x.m (t.drop x.i)).map fun y => (x.W ++ y.1, y.2)) (fun x => x.m)
    (fun y : Option RXC => match y with | none => (.ret, rE hp) | some x => (.exit 4, rS 9 t f t1 t2 x.tg W0 S0 x.W x.i 0 hp [(125, .bool false)]))
    (fun y => match y with | none => rows14 N (t.drop i0) = none | some x => x.i ≤ t.length ∧ (x.tg = 10 ∨ x.tg = 0 ∧ x.W = []) ∧ x.W.length ≤ 255 ∧ rows14 N (t.drop i0) = some (x.W, t.drop x.i))
    ⟨N, i0, [], 0⟩ rfl ⟨h0, hN, by simpa using hN, .inr ⟨rfl, rfl⟩, by cases rows14 N (t.drop i0) <;> rfl⟩ (by simp only; omega) ?_ ?_
  · rintro ⟨m, i, W, tg⟩ ⟨a1, a2, a3, a4, a5⟩
    simp only at a1 a2 a3 a4 a5
    match m, a2, a3, a5 with
    | 0, a2, a3, a5 =>
      right
      refine ⟨some ⟨0, i, W, tg⟩, ?_, by simp, ⟨a1, a4, by omega, by rw [a5]; simp [rows14]⟩⟩
      simp only [rS, Tryz.f6, loopOf, loopsOf, List.cons_append, List.nil_append, List.getD_cons_zero, List.getD_cons_succ]
      simp [-getElem?_pos, List.getElem?_cons_zero, List.getElem?_cons_succ]
    | m + 1, a2, a3, a5 =>
      have w1 := wrap_id (x := (t.length : Int) - i) (by omega)
      have m0 : (0 : Int) < (m : Int) + 1 := by omega
      by_cases c : (t.drop i).length < 14
      · right
        have c' : (t.length : Int) - i < 14 := by rw [List.length_drop] at c; omega
        refine ⟨none, ?_, by simp, by rw [a5, rows14_no c]; rfl⟩
        simp only [rS, rE, Tryz.f6, loopOf, loopsOf, List.cons_append, List.nil_append, List.getD_cons_zero, List.getD_cons_succ]
        simp [-getElem?_pos, List.getElem?_cons_zero, List.getElem?_cons_succ, w1, m0, c']
      · left
        obtain ⟨a, a', b, b', c1, d, d', e, g, h, o, q, q', j, l, hd⟩ := fourteen c
        have c' : ¬ ((t.length : Int) - i < 14) := by rw [List.length_drop] at c; omega
        have e1 := f16b (n + 2008) t i i a a' _ hp rfl hd (by omega)
        have e2 := f16b (n + 2008) t (i + 2) ((i : Int) + 2) b b' _ hp (by simp) (drop_add 2 (l := [a, a']) hd rfl) (by omega)
        have w22 := wrap_id (x := (i : Int) + 2) (by omega)
        have e3 := f16a (n + 2008) t (i + 4) ((i : Int) + 4) c1 _ hp (by simp) (drop_add 4 (l := [a, a', b, b']) hd rfl) (by omega)
        have w24 := wrap_id (x := (i : Int) + 4) (by omega)
        have e4 := f16b (n + 2008) t (i + 5) ((i : Int) + 5) d d' _ hp (by simp) (drop_add 5 (l := [a, a', b, b', c1]) hd rfl) (by omega)
        have w25 := wrap_id (x := (i : Int) + 5) (by omega)
        have e5 := f16a (n + 2008) t (i + 7) ((i : Int) + 7) e _ hp (by simp) (drop_add 7 (l := [a, a', b, b', c1, d, d']) hd rfl) (by omega)
        have w27 := wrap_id (x := (i : Int) + 7) (by omega)
        have e6 := f16a (n + 2008) t (i + 8) ((i : Int) + 8) g _ hp (by simp) (drop_add 8 (l := [a, a', b, b', c1, d, d', e]) hd rfl) (by omega)
        have w28 := wrap_id (x := (i : Int) + 8) (by omega)
        have e7 := f16a (n + 2008) t (i + 9) ((i : Int) + 9) h _ hp (by simp) (drop_add 9 (l := [a, a', b, b', c1, d, d', e, g]) hd rfl) (by omega)
        have w29 := wrap_id (x := (i : Int) + 9) (by omega)
        have e8 := f16a (n + 2008) t (i + 10) ((i : Int) + 10) o _ hp (by simp) (drop_add 10 (l := [a, a', b, b', c1, d, d', e, g, h]) hd rfl) (by omega)
        have w30 := wrap_id (x := (i : Int) + 10) (by omega)
        have e9 := f16b (n + 2008) t (i + 11) ((i : Int) + 11) q q' _ hp (by simp) (drop_add 11 (l := [a, a', b, b', c1, d, d', e, g, h, o]) hd rfl) (by omega)
        have w31 := wrap_id (x := (i : Int) + 11) (by omega)
        have e10 := f16a (n + 2008) t (i + 13) ((i : Int) + 13) j _ hp (by simp) (drop_add 13 (l := [a, a', b, b', c1, d, d', e, g, h, o, q, q']) hd rfl) (by omega)
        have w33 := wrap_id (x := (i : Int) + 13) (by omega)
        have w34 := wrap_id (x := (i : Int) + 14) (by omega)
        have w5 := wrap_id (x := (m : Int)) (by omega)
        have hd5 : t.drop (i + 14) = l := drop_add 14 (l := [a, a', b, b', c1, d, d', e, g, h, o, q, q', j]) hd rfl
        have hi5 : i + 14 ≤ t.length := by rw [List.length_drop] at c; omega
        refine ⟨⟨m, i + 14, W ++ [⟨(a.toNat : Int) + 256 * a'.toNat, (b.toNat : Int) + 256 * b'.toNat, c1.toNat, (d.toNat : Int) + 256 * d'.toNat, e.toNat, g.toNat, h.toNat, o.toNat, (q.toNat : Int) + 256 * q'.toNat, j.toNat⟩], 10⟩, ?_, ⟨hi5, by simp only; omega, by simp only [List.length_append, List.length_singleton]; omega, .inl rfl, ?_⟩, by simp⟩
        · have lW := flat_len Cl.len W
          have aW : (W.flatMap Cl.cells).all storable = true := flat_all (f := Cl.cells) (fun _ => rfl) _
          have m1 : (W.length + 1) * 80 ≤ 140737488355328 := by omega
          have tt : tg = 10 ∨ tg = 0 ∧ W.length = 0 := by
            rcases a4 with h | ⟨h1, h2⟩
            · exact .inl h
            · exact .inr ⟨h1, by rw [h2]; rfl⟩
          simp only [rS, List.flatMap_append, List.length_append, List.length_singleton, List.flatMap_cons, List.flatMap_nil, List.append_nil, Cl.cells]
          generalize W.flatMap Cl.cells = X at *
          generalize W0.flatMap R3.cells = X0 at *
          generalize W0.length = WL0 at *
          generalize S0.flatMap R3.cells = X1 at *
          generalize S0.length = WL1 at *
          generalize W.length = WL at *
          generalize (a.toNat : Int) + 256 * a'.toNat = v1 at *
          generalize (b.toNat : Int) + 256 * b'.toNat = v2 at *
          generalize (d.toNat : Int) + 256 * d'.toNat = v4 at *
          generalize (q.toNat : Int) + 256 * q'.toNat = v9 at *
          simp only [Tryz.f6, loopOf, loopsOf, List.cons_append, List.nil_append, List.getD_cons_zero, List.getD_cons_succ]
          simp [-getElem?_pos, List.getElem?_cons_zero, List.getElem?_cons_succ, w1, m0, c', e1, e2, e3, e4, e5, e6, e7, e8, e9, e10, w22, w24, w25, w27, w28, w29, w30, w31, w33, w34, w5, lW, aW, m1, tt]
        · have hr5 : rows14 (m + 1) (t.drop i) = (rows14 m l).map fun x => (⟨(a.toNat : Int) + 256 * a'.toNat, (b.toNat : Int) + 256 * b'.toNat, c1.toNat, (d.toNat : Int) + 256 * d'.toNat, e.toNat, g.toNat, h.toNat, o.toNat, (q.toNat : Int) + 256 * q'.toNat, j.toNat⟩ :: x.1, x.2) := by rw [rows14, hd]; rfl
          simp only
          rw [a5, hr5, hd5]
          cases rows14 m l with
          | none => rfl
          | some y => simp only [Option.map_some, List.append_assoc, List.singleton_append]
  · rintro y hr hJ
    cases y with
    | none => exact .inl ⟨hJ, hr⟩
    | some x =>
      obtain ⟨j1, j2, j3, j4⟩ := hJ
      exact .inr ⟨x.W, x.i, x.tg, j4, j1, j2, j3, hr⟩
end Go.Proofs.YtaiiboplopljoaaGreat
end

section
namespace Go.Proofs.YtaiiboplopljoaaGreat
open Go Go.PS
theorem nilcons (t : List UInt8) : t = [] ∨ ∃ a r, t = a :: r := by
  match t with
  | [] => exact .inl rfl
  | a :: r => exact .inr ⟨a, r, rfl⟩
theorem three (t : List UInt8) : t = [] ∨ (∃ a, t = [a]) ∨ ∃ a b r, t = a :: b :: r := by
  match t with
  | [] => exact .inl rfl
  | [a] => exact .inr (.inl ⟨a, rfl⟩)
  | a :: b :: r => exact .inr (.inr ⟨a, b, r, rfl⟩)
theorem three' (t : List UInt8) : t = [] ∨ (∃ a, t = [a]) ∨ (∃ a b, t = [a, b]) ∨ ∃ a b c r, t = a :: b :: c :: r := by
  match t with
  | [] => exact .inl rfl
  | [a] => exact .inr (.inl ⟨a, rfl⟩)
  | [a, b] => exact .inr (.inr (.inl ⟨a, b, rfl⟩))
  | a :: b :: c :: r => exact .inr (.inr (.inr ⟨a, b, c, r, rfl⟩))
set_option maxRecDepth 100000 in
set_option maxHeartbeats 1000000 in
theorem f6 (n : Nat) (s : List UInt8) (hp : Heap) (hl : s.length ≤ 1000) : evalCall Tryz.prog hints (n + 2010) 6 [.str s] hp = some (.tup [.agg (parseI s).2.cells, .int .i64 (parseI s).1], hp, false) := by
  rw [evalCall_at _ _ _ hh6 rfl Tryz.func6 rfl (Nat.le_of_ble_eq_true rfl) rfl]
  unfold parseI openC
  by_cases c : s.length < 2
  · have c' : (s.length : Int) < 2 := by omega
    simp [-getElem?_pos, c, c', tab0, Tab.cells]
  · have c' : ¬ ((s.length : Int) < 2) := by omega
    have w := wrap_id (x := (s.length : Int) - 2) (by omega)
    have c1 : (0 : Int) ≤ (s.length : Int) - 2 := by omega
    have c2 : ((s.length : Int) - 2).toNat = s.length - 2 := by omega
    have c3 : (s.length : Int) - 2 ≤ s.length := by omega
    have c4 : (2 : Int) ≤ s.length := by omega
    have e15 := f15 (n + 2005) (s.take (s.length - 2)) hp (by rw [List.length_take]; omega) (by omega) (by rw [List.length_take]; omega)
    have lt : (s.take (s.length - 2)).length ≤ 1000 := by rw [List.length_take]; omega
    rw [if_neg c]
    generalize hq : s.take (s.length - 2) = t at *
    by_cases d : crcSeal t = s
    · rw [if_pos d]
      simp only [if_true]
      rcases three t with ht | ⟨a, ht⟩ | ⟨a, b, r, ht⟩
      · subst ht
        simp [-getElem?_pos, c', w, c1, c2, c3, c4, hq, e15, d, tab0, Tab.cells, parseT]
      · subst ht
        simp [-getElem?_pos, c', w, c1, c2, c3, c4, hq, e15, d, tab0, Tab.cells, parseT]
      ·
        have l2 : 2 ≤ t.length := by rw [ht]; simp
        have l2' : (2 : Int) ≤ t.length := by omega
        have tk : t.take 2 = [a, b] := by rw [ht]; rfl
        have dr : t.drop 2 = r := by rw [ht]; rfl
        have hP : parseT t = if [a, b] = [67, 1] then (match r with
          | f0 :: f1 :: n :: l => parse1 ((f0.toNat : Int) + 256 * f1.toNat) n l
          | _ => (5, tab0)) else (3, tab0) := by rw [ht]; rfl
        rw [hP]
        by_cases h67 : [a, b] = [67, 1]
        · rw [if_pos h67]
          rw [h67] at tk
          rcases three' r with hr | ⟨f0, hr⟩ | ⟨f0, f1, hr⟩ | ⟨f0, f1, nn, l, hr⟩
          · rw [hr] at dr
            have l5 : (t.length : Int) < 5 := by have := drop_le dr l2; simp at this; omega
            rw [hr]
            simp [-getElem?_pos, c', w, c1, c2, c3, c4, hq, e15, d, tab0, Tab.cells, l2', tk, l5]
          · rw [hr] at dr
            have l5 : (t.length : Int) < 5 := by have := drop_le dr l2; simp at this; omega
            rw [hr]
            simp [-getElem?_pos, c', w, c1, c2, c3, c4, hq, e15, d, tab0, Tab.cells, l2', tk, l5]
          · rw [hr] at dr
            have l5 : (t.length : Int) < 5 := by have := drop_le dr l2; simp at this; omega
            rw [hr]
            simp [-getElem?_pos, c', w, c1, c2, c3, c4, hq, e15, d, tab0, Tab.cells, l2', tk, l5]
          · rw [hr] at dr
            rw [hr]
            clear hr hP
            have l5 : ¬ ((t.length : Int) < 5) := by have := drop_le dr l2; simp at this; omega
            have l5' : 5 ≤ t.length := by omega
            have e1 := f16b (n + 2008) t 2 2 f0 f1 _ hp rfl dr (by omega)
            have e2 := f16a (n + 2008) t 4 4 nn _ hp rfl (drop_add 2 (l := [f0, f1]) dr rfl) (by omega)
            have d5 : t.drop 5 = l := drop_add 3 (l := [f0, f1, nn]) dr rfl
            show _ = some (PV.tup [PV.agg (parse1 ((f0.toNat : Int) + 256 * f1.toNat) nn l).2.cells, PV.int IntKind.i64 (parse1 ((f0.toNat : Int) + 256 * f1.toNat) nn l).1], hp, false)
            unfold parse1
            generalize (f0.toNat : Int) + 256 * f1.toNat = f at *
            have hn1 := nn.toNat_lt
            simp [-getElem?_pos, List.getElem?_cons_zero, List.getElem?_cons_succ, c', w, c1, c2, c3, c4, hq, e15, d, l2', tk, l5, e1, e2]
            generalize hit : iter _ _ _ = rr
            have L1 := rl1 n t f hp lt nn.toNat 5 l5' (by omega) rr (by
              rw [← hit]
              simp only [rS, Tryz.f6, loopOf, loopsOf, List.cons_append, List.nil_append, List.getD_cons_zero, List.getD_cons_succ]
              rfl)
            rw [d5] at L1
            clear hit e1 e2
            rcases L1 with ⟨hR, rfl⟩ | ⟨W, i, tg, hR, hi, htg, hWl, rfl⟩
            · rw [hR]
              simp [rE, tab0, Tab.cells]
            · rw [hR]
              clear hR
              have w1 := wrap_id (x := (t.length : Int) - i) (by omega)
              have w2 := wrap_id (x := (i : Int) + 1) (by omega)
              have w3 := wrap_id (x := (i : Int)) (by omega)
              rcases nilcons (t.drop i) with hd | ⟨m, l2', hd⟩
              · rw [hd]
                have ci : (t.length : Int) - i < 1 := by have := drop_le hd hi; simp at this; omega
                simp [-getElem?_pos, List.getElem?_cons_zero, List.getElem?_cons_succ, rS, w1, ci, tab0, Tab.cells]
              · rw [hd]
                have ci : ¬ ((t.length : Int) - i < 1) := by have := drop_le hd hi; simp at this; omega
                have hi1 : i + 1 ≤ t.length := by have := drop_le hd hi; simp at this; omega
                have e3 := f16a (n + 2008) t i i m _ hp rfl hd (by omega)
                have d6 : t.drop (i + 1) = l2' := drop_add 1 (l := [m]) hd rfl
                show _ = some (PV.tup [PV.agg (parse2 f W m l2').2.cells, PV.int IntKind.i64 (parse2 f W m l2').1], hp, false)
                unfold parse2
                have hm1 := m.toNat_lt
                simp [-getElem?_pos, List.getElem?_cons_zero, List.getElem?_cons_succ, rS, w1, w2, w3, ci, e3]
                generalize hit : iter _ _ _ = rr
                have L2 := rl2 n t f tg W hp lt m.toNat (i + 1) hi1 (by omega) rr (by
                  rw [← hit]
                  simp only [rS, Tryz.f6, loopOf, loopsOf, List.cons_append, List.nil_append, List.getD_cons_zero, List.getD_cons_succ, Int.natCast_add]
                  rfl)
                rw [d6] at L2
                clear hit e3 w1 w2 w3 ci
                rcases L2 with ⟨hR, rfl⟩ | ⟨S, i2, tg2, hR, hi2, htg2, hSl, rfl⟩
                · rw [hR]
                  simp [rE, tab0, Tab.cells]
                · rw [hR]
                  clear hR
                  have w1 := wrap_id (x := (t.length : Int) - i2) (by omega)
                  have w2 := wrap_id (x := (i2 : Int) + 1) (by omega)
                  have w3 := wrap_id (x := (i2 : Int)) (by omega)
                  rcases nilcons (t.drop i2) with hd | ⟨k, l3, hd⟩
                  · rw [hd]
                    have ci : (t.length : Int) - i2 < 1 := by have := drop_le hd hi2; simp at this; omega
                    simp [-getElem?_pos, List.getElem?_cons_zero, List.getElem?_cons_succ, rS, w1, ci, tab0, Tab.cells]
                  · rw [hd]
                    have ci : ¬ ((t.length : Int) - i2 < 1) := by have := drop_le hd hi2; simp at this; omega
                    have hi3 : i2 + 1 ≤ t.length := by have := drop_le hd hi2; simp at this; omega
                    have e3 := f16a (n + 2008) t i2 i2 k _ hp rfl hd (by omega)
                    have d7 : t.drop (i2 + 1) = l3 := drop_add 1 (l := [k]) hd rfl
                    show _ = some (PV.tup [PV.agg (parse3 f W S k l3).2.cells, PV.int IntKind.i64 (parse3 f W S k l3).1], hp, false)
                    unfold parse3
                    have hk1 := k.toNat_lt
                    simp [-getElem?_pos, List.getElem?_cons_zero, List.getElem?_cons_succ, rS, w1, w2, w3, ci, e3]
                    generalize hit : iter _ _ _ = rr
                    have L3 := rl3 n t f tg tg2 W S hp lt k.toNat (i2 + 1) hi3 (by omega) rr (by
                      rw [← hit]
                      simp only [rS, Tryz.f6, loopOf, loopsOf, List.cons_append, List.nil_append, List.getD_cons_zero, List.getD_cons_succ, Int.natCast_add]
                      rfl)
                    rw [d7] at L3
                    clear hit e3 w1 w2 w3 ci
                    rcases L3 with ⟨hR, rfl⟩ | ⟨C, i3, tg3, hR, hi4, htg3, hCl, rfl⟩
                    · rw [hR]
                      simp [rE, tab0, Tab.cells]
                    · rw [hR]
                      clear hR
                      rcases nilcons (t.drop i3) with hd | ⟨z, l4, hd⟩
                      · rw [hd]
                        have ci : ¬ (i3 < t.length) := by have := drop_le hd hi4; simp at this; omega
                        simp only [Tab.cells]
                        generalize hXW : W.flatMap R3.cells = XW at *
                        generalize hXS : S.flatMap R3.cells = XS at *
                        generalize hXC : C.flatMap Cl.cells = XC at *
                        simp [-getElem?_pos, List.getElem?_cons_zero, List.getElem?_cons_succ, rS, ci, hXW, hXS, hXC]
                      · rw [hd]
                        have ci : i3 < t.length := by have := drop_le hd hi4; simp at this; omega
                        simp [-getElem?_pos, List.getElem?_cons_zero, List.getElem?_cons_succ, rS, ci, tab0, Tab.cells]
        · rw [if_neg h67]
          have h67' : ([a, b] == [67, 1]) = false := by simpa using h67
          simp [-getElem?_pos, c', w, c1, c2, c3, c4, hq, e15, d, tab0, Tab.cells, l2', tk, h67']
    · have d' : (crcSeal t == s) = false := by simpa using d
      rw [if_neg d]
      simp [-getElem?_pos, c', w, c1, c2, c3, c4, hq, e15, d', tab0, Tab.cells]
end Go.Proofs.YtaiiboplopljoaaGreat
end
