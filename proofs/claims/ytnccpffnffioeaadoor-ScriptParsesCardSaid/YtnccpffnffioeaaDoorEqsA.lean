/-
  What functions of this program compute, as equations about the evaluator. No condition but those stated.
-/
import Derived.Test.YtnccpffnffioeaaDoorPsD
import Derived.Test.YtnccpffnffioeaaDoorFacts

set_option linter.all false
section
/-
  Hex digits, numbers, floats as words: what the program and the document make of them. No program here.
-/
namespace Go.PS
def hexD : List UInt8 := [48, 49, 50, 51, 52, 53, 54, 55, 56, 57, 97, 98, 99, 100, 101, 102]
/-- A hex digit's number. -/
def digN (c : UInt8) : Option Nat := if 48 ≤ c.toNat ∧ c.toNat ≤ 57 then some (c.toNat - 48) else if 97 ≤ c.toNat ∧ c.toNat ≤ 102 then some (c.toNat - 87) else none
def digI (c : UInt8) : Int := match digN c with
  | some d => d
  | none => -1
def digV (c : UInt8) : Nat := match digN c with
  | some d => d
  | none => 0
def hexN (n : Nat) : UInt8 := hexD.getD n 0
theorem u8_all {p : UInt8 → Prop} (h : ∀ n : Fin 256, p (UInt8.ofNat n.val)) (c : UInt8) : p c := by
  have := h ⟨c.toNat, c.toNat_lt⟩
  simpa using this
set_option maxRecDepth 100000 in
theorem dig_index (c : UInt8) : Lib.indexByte hexD c = digI c := by
  refine u8_all (p := fun c => Lib.indexByte hexD c = digI c) ?_ c
  decide
set_option maxRecDepth 100000 in
theorem dig_hex (c : UInt8) : ∀ d, digN c = some d → d < 16 ∧ hexN d = c := by
  refine u8_all (p := fun c => ∀ d, digN c = some d → d < 16 ∧ hexN d = c) (fun n d h => ?_) c
  have : ∀ n : Fin 256, (match digN (UInt8.ofNat n.val) with | some d => decide (d < 16 ∧ hexN d = UInt8.ofNat n.val) | none => true) = true := by decide
  have := this n
  rw [h] at this
  simpa using this
theorem hex_dig {d : Nat} (h : d < 16) : digN (hexN d) = some d := by
  have : ∀ d : Fin 16, digN (hexN d.val) = some d.val := by decide
  exact this ⟨d, h⟩
theorem digV_lt (c : UInt8) : digV c < 16 := by
  unfold digV
  cases h : digN c with
  | none => simp
  | some d => exact (dig_hex c d h).1
/-- Digits as bytes. -/
def unhexL : List UInt8 → Option (List UInt8)
  | [] => some []
  | [_] => none
  | a :: b :: r => match digN a, digN b, unhexL r with
    | some x, some y, some l => some (UInt8.ofNat (16 * x + y) :: l)
    | _, _, _ => none
def unhexP (w : List UInt8) : Option (List UInt8) := if w = [45] then some [] else if w = [] then none else unhexL w
def hexL : List UInt8 → List UInt8
  | [] => []
  | c :: r => hexN (c.toNat / 16) :: hexN (c.toNat % 16) :: hexL r
def hexP (s : List UInt8) : List UInt8 := if s = [] then [45] else hexL s
/-- The same, whatever is no digit being 0. -/
def dataL : List UInt8 → List UInt8
  | [] => []
  | [_] => []
  | a :: b :: r => UInt8.ofNat (16 * digV a + digV b) :: dataL r
theorem unhexL_even : ∀ {w l : List UInt8}, unhexL w = some l → w.length % 2 = 0
  | [], _, _ => rfl
  | [_], _, h => by cases h
  | a :: b :: r, l, h => by
    unfold unhexL at h
    split at h
    · rename_i h3
      have := unhexL_even h3
      simp [List.length_cons]; omega
    · cases h
theorem hexL_len : ∀ l : List UInt8, (hexL l).length = 2 * l.length
  | [] => rfl
  | c :: r => by
    have := hexL_len r
    simp [hexL, this]; omega
theorem pair_div {x y : Nat} (hx : x < 16) (hy : y < 16) : (UInt8.ofNat (16 * x + y)).toNat / 16 = x ∧ (UInt8.ofNat (16 * x + y)).toNat % 16 = y := by
  have : (UInt8.ofNat (16 * x + y)).toNat = 16 * x + y := by
    rw [UInt8.toNat_ofNat']; omega
  rw [this]; omega
/-- Digits that are bytes' digits are read as these bytes. -/
theorem unhexL_iff : ∀ (w l : List UInt8), unhexL w = some l ↔ hexL l = w
  | [], l => by
    cases l with
    | nil => simp [unhexL, hexL]
    | cons c r => simp [unhexL, hexL]
  | [a], l => by
    cases l with
    | nil => simp [unhexL, hexL]
    | cons c r => simp [unhexL, hexL]
  | a :: b :: r, l => by
    have ih := unhexL_iff r
    unfold unhexL
    cases l with
    | nil => simp [hexL]; split <;> simp
    | cons c l =>
      simp only [hexL, List.cons.injEq]
      constructor
      · intro h
        split at h
        · rename_i x y m hx hy hm
          simp only [Option.some.injEq, List.cons.injEq] at h
          obtain ⟨rfl, rfl⟩ := h
          have dx := dig_hex a x hx
          have dy := dig_hex b y hy
          have hp := pair_div dx.1 dy.1
          rw [hp.1, hp.2]
          exact ⟨dx.2, dy.2, (ih m).1 hm⟩
        · cases h
      · rintro ⟨rfl, rfl, hr⟩
        have h1 : c.toNat / 16 < 16 := by have := c.toNat_lt; omega
        have h2 : c.toNat % 16 < 16 := by omega
        rw [hex_dig h1, hex_dig h2, (ih l).2 hr]
        simp only
        congr 2
        have : 16 * (c.toNat / 16) + c.toNat % 16 = c.toNat := by omega
        rw [this]; simp
theorem dataL_of : ∀ (w l : List UInt8), unhexL w = some l → dataL w = l
  | [], l, h => by simpa [unhexL, dataL] using h
  | [_], l, h => by cases h
  | a :: b :: r, l, h => by
    unfold unhexL at h
    split at h
    · rename_i x y m hx hy hm
      simp only [Option.some.injEq] at h
      subst h
      have ih := dataL_of r m hm
      simp [dataL, digV, hx, hy, ih]
    · cases h
/-- What the document asks of a word of bytes. -/
theorem hex_data (w : List UInt8) : hexP (dataL w) = w ↔ unhexP w = some (dataL w) := by
  unfold hexP unhexP
  by_cases h0 : w = [45]
  · subst h0
    simp [dataL]
  · rw [if_neg h0]
    by_cases h1 : w = []
    · subst h1
      simp [dataL]
    · rw [if_neg h1]
      by_cases h2 : dataL w = []
      · rw [if_pos h2, h2]
        constructor
        · intro h; exact (h0 h.symm).elim
        · intro h
          rw [unhexL_iff] at h
          exact (h1 h.symm).elim
      · rw [if_neg h2]
        exact (unhexL_iff w (dataL w)).symm
theorem unhexP_data {w l : List UInt8} (h : unhexP w = some l) : dataL w = l := by
  unfold unhexP at h
  split at h
  · rename_i e
    subst e
    cases h
    rfl
  · split at h
    · cases h
    · exact dataL_of w l h
theorem unhexP_iff (w l : List UInt8) : unhexP w = some l ↔ hexP l = w := by
  unfold unhexP hexP
  by_cases h0 : w = [45]
  · subst h0
    rw [if_pos rfl]
    by_cases h : l = []
    · simp [h]
    · rw [if_neg h]
      constructor
      · intro e; cases e; exact (h rfl).elim
      · intro e
        have := congrArg List.length e
        rw [hexL_len] at this
        simp at this; omega
  · rw [if_neg h0]
    by_cases h1 : w = []
    · subst h1
      rw [if_pos rfl]
      by_cases h : l = []
      · simp [h]
      · rw [if_neg h]
        constructor
        · intro e; cases e
        · intro e
          have := congrArg List.length e
          rw [hexL_len] at this
          exact (h (List.eq_nil_of_length_eq_zero (by simp at this; omega))).elim
    · rw [if_neg h1, unhexL_iff]
      by_cases h : l = []
      · subst h
        rw [if_pos rfl]
        simp only [hexL]
        exact ⟨fun e => (h1 e.symm).elim, fun e => (h0 e.symm).elim⟩
      · rw [if_neg h]
end Go.PS
end

section
/-
  Small functions of the program: digits.
-/
namespace Go.PS
theorem str_drop_cons {w : List UInt8} {i : Nat} {c : UInt8} {r : List UInt8} (h : w.drop i = c :: r) : w[i]? = some c ∧ i < w.length ∧ w.drop (i + 1) = r := by
  have hl := congrArg List.length h
  rw [List.length_drop, List.length_cons] at hl
  refine ⟨?_, by omega, ?_⟩
  · have := congrArg (fun l => l[0]?) h
    simpa [List.getElem?_drop] using this
  · rw [← List.drop_drop, h]; rfl
def uh (w : List UInt8) : List UInt8 × Bool := match unhexP w with
  | some l => (l, true)
  | none => ([], false)
end Go.PS
namespace Go.Proofs.YtnccpffnffioeaaDoor
open Go Go.PS
theorem f64 (n : Nat) (s : List UInt8) (c : Int) (hp : Heap) : evalCall Tryd.prog hints (n + 1) 64 [.str s, .int .u8 c] hp = some (.int .i64 (Lib.indexByte s c.toNat.toUInt8), hp, false) := rfl
theorem f41 (n : Nat) (c : UInt8) (hp : Heap) : evalCall Tryd.prog hints (n + 2) 41 [.int .u8 c.toNat] hp = some (.int .i64 (digI c), hp, false) := by
  have e := f64 n hexD c.toNat hp
  rw [Int.toNat_natCast, show c.toNat.toUInt8 = c by simp, dig_index] at e
  rw [evalCall_at _ _ _ hh41 rfl Tryd.func41 rfl (Nat.le_of_ble_eq_true rfl) rfl]
  unfold hexD at e
  simp [e]
theorem f33 (n : Nat) (x : Int) (hp : Heap) : evalCall Tryd.prog hints (n + 1) 33 [.int .i64 x] hp = some (.bool (decide (0 ≤ x ∧ x ≤ 2147483647)), hp, false) := by
  rw [evalCall_at _ _ _ hh33 rfl Tryd.func33 rfl (Nat.le_of_ble_eq_true rfl) rfl]
  by_cases h : 0 ≤ x
  · by_cases h2 : x ≤ 2147483647
    · simp [h, h2]
    · simp [h, h2]
  · simp [h]
theorem f47 (n : Nat) (x : Int) (hp : Heap) : evalCall Tryd.prog hints (n + 1) 47 [.int .i64 x] hp = some (.bool (decide (0 ≤ x ∧ x ≤ 2147483647)), hp, false) := by
  rw [evalCall_at _ _ _ hh47 rfl Tryd.func47 rfl (Nat.le_of_ble_eq_true rfl) rfl]
  by_cases h : 0 ≤ x
  · by_cases h2 : x ≤ 2147483647
    · simp [h, h2]
    · simp [h, h2]
  · simp [h]
theorem f45 (n : Nat) (k : Nat) (hk : k < 16) (hp : Heap) : evalCall Tryd.prog hints (n + 1) 45 [.int .i64 k] hp = some (.str [hexN k], hp, false) := by
  rw [evalCall_at _ _ _ hh45 rfl Tryd.func45 rfl (Nat.le_of_ble_eq_true rfl) rfl]
  have w := wrap_id (x := (k : Int) + 1) (by omega)
  have h1 : (k : Int) + 1 ≤ 16 := by omega
  have h2 : (0 : Int) ≤ (k : Int) + 1 := by omega
  have h3 : ((k : Int) + 1).toNat = k + 1 := by omega
  have h4 : (k : Int) ≤ (k : Int) + 1 := by omega
  have e : (hexD.drop k).take 1 = [hexN k] := by
    have : ∀ d : Fin 16, (hexD.drop d.val).take 1 = [hexN d.val] := by decide
    exact this ⟨k, hk⟩
  unfold hexD at e
  simp [w, h1, h2, h3, h4, e]
end Go.Proofs.YtnccpffnffioeaaDoor
end

section
namespace Go.PS
/-- A row of bytes as it is read in a loop. -/
structure Rd2 where
  i : Nat
  l : List UInt8
  acc : List UInt8
theorem ofBytes_len (l : List UInt8) : (ofBytes l).length = l.length := by unfold ofBytes; simp
theorem ofBytes_app (a b : List UInt8) : ofBytes (a ++ b) = ofBytes a ++ ofBytes b := by unfold ofBytes; simp
theorem ofBytes_shr (l : List UInt8) : (ofBytes l).map shr = ofBytes l := by unfold ofBytes; simp
theorem bytesOf_of : ∀ l : List UInt8, bytesOf (ofBytes l) = some l
  | [] => rfl
  | a :: l => by
    have := bytesOf_of l
    unfold ofBytes at *
    rw [List.map_cons, bytesOf, this]
    simp
theorem or16 {x y : Nat} (h : y < 16) : x * 16 ||| y = 16 * x + y := by
  have := Nat.shiftLeft_add_eq_or_of_lt (i := 4) (b := y) h x
  rw [Nat.shiftLeft_eq, show (2 : Nat) ^ 4 = 16 from rfl] at this; omega
theorem unhexL_a {a b : UInt8} {r : List UInt8} (h : digN a = none) : unhexL (a :: b :: r) = none := by rw [unhexL, h]
theorem unhexL_b {a b : UInt8} {r : List UInt8} (h : digN b = none) : unhexL (a :: b :: r) = none := by rw [unhexL, h]; cases digN a <;> rfl
theorem unhexL_ab {a b : UInt8} {r : List UInt8} {x y : Nat} (h : digN a = some x) (h' : digN b = some y) : unhexL (a :: b :: r) = (unhexL r).map (UInt8.ofNat (16 * x + y) :: ·) := by rw [unhexL, h, h']; cases unhexL r <;> rfl
end Go.PS
namespace Go.Proofs.YtnccpffnffioeaaDoor
open Go Go.PS
set_option maxHeartbeats 1000000 in
theorem f44 (n : Nat) (c : UInt8) (hp : Heap) (hn : 60 < n) : evalCall Tryd.prog hints (n + 2) 44 [.int .u8 c.toNat] hp = some (.int .i64 (digV c), hp, false) := by
  have e45 := fun k hk => f45 n k hk hp
  rw [evalCall_at _ _ _ hh44 rfl Tryd.func44 rfl (Nat.le_of_ble_eq_true rfl) rfl]
  simp
  generalize hit : iter _ _ _ = r
  refine iter_elim hit (fun k : Nat => { fr := [(0, .int .u8 c.toNat), (3, .int .i64 k)], hp := hp, base := hp.length, dirty := false })
    (fun k => k ≤ 16 ∧ ∀ j, j < k → hexN j ≠ c) (fun k => 16 - k)
    (fun b : Bool => if b = true then (.ret, { fr := [(2, .int .i64 (digV c))], hp := hp, base := hp.length, dirty := false }) else (.exit 0, { fr := [(0, .int .u8 c.toNat), (3, .int .i64 (16 : Nat)), (5, .bool false)], hp := hp, base := hp.length, dirty := false })) (fun b => b = true ∨ digV c = 0) 0 rfl ⟨by omega, fun j hj => by omega⟩ (by omega) ?_ ?_
  · intro k ⟨h1, h2⟩
    by_cases hk : k < 16
    · have hk' : (k : Int) < 16 := by omega
      have w := wrap_id (x := (k : Int) + 1) (by omega)
      have e := e45 k hk
      have u : (UInt8.ofNat (Int.toNat (c.toNat : Int))) = c := by simp
      by_cases hc : hexN k = c
      · right
        refine ⟨true, ?_, by simp, .inl rfl⟩
        have hv : digV c = k := by rw [← hc, digV, hex_dig hk]
        rw [hv]
        simp [hk', e, bytesOf, hc]
      · left
        have hcb : (hexN k == c) = false := by simpa using hc
        refine ⟨k + 1, ?_, ⟨by omega, fun j hj => ?_⟩, by omega⟩
        · simp [hk', e, bytesOf, hcb, w]
        · by_cases hj' : j = k
          · subst hj'; exact hc
          · exact h2 j (by omega)
    · have hk : k = 16 := by omega
      subst hk
      right
      refine ⟨false, ?_, by simp, .inr ?_⟩
      · simp
      · unfold digV
        cases h : digN c with
        | none => rfl
        | some d => exact (h2 d (dig_hex c d h).1 (dig_hex c d h).2).elim
  · intro b hr hb
    subst hr
    cases b with
    | true => simp
    | false =>
      simp at hb
      simp [hb]

set_option maxHeartbeats 2000000 in
theorem f22 (n : Nat) (s : List UInt8) (hp : Heap) (hs : s.length ≤ 3000) (hn : 5000 < n) : evalCall Tryd.prog hints (n + 3) 22 [.str s] hp = some (.tup [.str (uh s).1, .bool (uh s).2], hp, false) := by
  have e41 := fun c => f41 n c hp
  rw [evalCall_at _ _ _ hh22 rfl Tryd.func22 rfl (Nat.le_of_ble_eq_true rfl) rfl]
  unfold uh unhexP
  by_cases h0 : s = [45]
  · subst h0
    simp
  · have h0' : (s == [45]) = false := by simpa using h0
    rw [if_neg h0]
    by_cases h1 : s = []
    · subst h1
      simp
    · have h1' : (s == []) = false := by simpa using h1
      rw [if_neg h1]
      by_cases h2 : s.length % 2 = 0
      · have h2' : ((s.length : Int).tmod 2 != 0) = false := by
          rw [tm _ (by omega)]; simp; omega
        simp [h0', h1', h2']
        generalize hit : iter _ _ _ = r
        refine iter_elim hit (fun x : Rd2 => { fr := [(0, .str s), (4, .sl (.mu 1) x.acc.length (ofBytes x.acc)), (5, .int .i64 x.i)], hp := hp, base := hp.length, dirty := false })
          (fun x => s.drop x.i = x.l ∧ x.l.length % 2 = 0 ∧ x.acc.length ≤ x.i ∧ x.i ≤ s.length ∧ unhexL s = (unhexL x.l).map (x.acc ++ ·)) (fun x => x.l.length)
          (fun b : Option (List UInt8) => match b with
            | none => (.ret, { fr := [(2, .str []), (3, .bool false)], hp := hp, base := hp.length, dirty := false })
            | some l => (.exit 1, { fr := [(0, .str s), (4, .sl (.mu 1) l.length (ofBytes l)), (5, .int .i64 s.length), (23, .bool false)], hp := hp, base := hp.length, dirty := false })) (fun b => unhexL s = b) ⟨0, s, []⟩ (by simp [ofBytes]) ⟨rfl, h2, Nat.le_refl 0, Nat.zero_le _, by show unhexL s = (unhexL s).map _; cases unhexL s <;> simp⟩ (by show s.length < _; omega) ?_ ?_
        · rintro ⟨i, l, acc⟩ ⟨j1, j2, j3, j4, j5⟩
          simp only at j1 j2 j3 j4 j5
          match l, j1, j2, j5 with
          | [], j1, j2, j5 =>
            right
            refine ⟨some acc, ?_, by simp, by simpa [unhexL] using j5⟩
            have hi : i = s.length := by
              have := congrArg List.length j1
              rw [List.length_drop] at this; simp at this; omega
            subst hi
            simp
          | [_], j1, j2, j5 => simp at j2
          | a :: b :: r, j1, j2, j5 =>
            obtain ⟨ga, la, d1⟩ := str_drop_cons j1
            obtain ⟨gb, lb, d2⟩ := str_drop_cons d1
            have la' : (i : Int) < s.length := by omega
            have lb' : (i : Int) + 1 < s.length := by omega
            have w1 := wrap_id (x := (i : Int) + 1) (by omega)
            have w2 := wrap_id (x := (i : Int) + 2) (by omega)
            have n1 : (0 : Int) ≤ (i : Int) + 1 := by omega
            have n2 : ((i : Int) + 1).toNat = i + 1 := by omega
            have ea := e41 a
            have eb := e41 b
            cases ha : digN a with
            | none =>
              right
              rw [unhexL_a ha] at j5
              refine ⟨none, ?_, by simp, by simpa using j5⟩
              have : digI a = -1 := by simp [digI, ha]
              rw [this] at ea
              simp [-getElem?_pos, la, lb, la', lb', ga, gb, ea, eb, w1, n1, n2]
            | some x =>
              have vx : digI a = x := by simp [digI, ha]
              have lx := (dig_hex a x ha).1
              rw [vx] at ea
              cases hb : digN b with
              | none =>
                right
                rw [unhexL_b hb] at j5
                refine ⟨none, ?_, by simp, by simpa using j5⟩
                have : digI b = -1 := by simp [digI, hb]
                rw [this] at eb
                have x0 : ¬ ((x : Int) < 0) := by omega
                simp [-getElem?_pos, la, lb, la', lb', ga, gb, ea, eb, w1, n1, n2, x0]
              | some y =>
                have vy : digI b = y := by simp [digI, hb]
                have ly := (dig_hex b y hb).1
                rw [vy] at eb
                left
                rw [unhexL_ab ha hb] at j5
                refine ⟨⟨i + 2, r, acc ++ [UInt8.ofNat (16 * x + y)]⟩, ?_, ⟨d2, ?_, ?_, ?_, ?_⟩, ?_⟩
                · have x0 : ¬ ((x : Int) < 0) := by omega
                  have y0 : ¬ ((y : Int) < 0) := by omega
                  have b1 := bi_or (A := (x : Int) * 16) (B := (y : Int)) (x * 16) y (by simp) rfl (by omega) (by omega)
                  have w3 := wrap_id (x := (x : Int) * 16) (by omega)
                  have lacc : acc.length + 1 ≤ 140737488355328 := by omega
                  rw [or16 ly] at b1
                  simp [-getElem?_pos, -binI, bi_lss, bi_add, la, lb, la', lb', ga, gb, ea, eb, w1, w2, n1, n2, x0, y0, ofBytes_app, ofBytes_len, lacc, b1, w3]
                  simp [ofBytes]
                · show r.length % 2 = 0; simp only [List.length_cons] at j2; omega
                · show (acc ++ [_]).length ≤ i + 2; rw [List.length_append]; simp only [List.length_cons, List.length_nil]; omega
                · show i + 2 ≤ s.length; omega
                · rw [j5]; cases unhexL r <;> simp
                · show r.length < (a :: b :: r).length; simp only [List.length_cons]; omega
        · intro b hr hb
          subst hr
          rw [hb]
          cases b with
          | none => simp
          | some l => simp [bytesOf_of, ofBytes_len]
      · have h2' : ((s.length : Int).tmod 2 != 0) = true := by
          rw [tm _ (by omega)]; simp; omega
        have h3 : unhexL s = none := by
          cases h : unhexL s with
          | none => rfl
          | some l => exact (h2 (unhexL_even h)).elim
        rw [h3]
        simp [h0', h1', h2']
end Go.Proofs.YtnccpffnffioeaaDoor
end

section
namespace Go.PS
def isD (c : UInt8) : Bool := decide (48 ≤ c.toNat) && decide (c.toNat ≤ 57)
def valN : Nat → List UInt8 → Nat
  | a, [] => a
  | a, c :: r => valN (10 * a + (c.toNat - 48)) r
def nm (w : List UInt8) : Int × Bool :=
  if w = [] ∨ 10 < w.length ∨ (1 < w.length ∧ w[0]? = some 48) then (0, false)
  else if w.all isD = true then (valN 0 w, decide (valN 0 w ≤ 2147483647)) else (0, false)
def hexV : Nat → List UInt8 → Option Nat
  | a, [] => some a
  | a, c :: r => match digN c with
    | some d => hexV (16 * a + d) r
    | none => none
def nanB (n : Nat) : Bool := FloatKind.f64.format.order n n != some .eq
def nanC : Nat := 9221120237041090561
def fl (w : List UInt8) : Nat × Bool := if w.length = 16 then (match hexV 0 w with
  | some n => (n, !nanB n || n == nanC)
  | none => (0, false)) else (0, false)
theorem bi_or64 {A B : Int} (a b : Nat) (hA : A = a) (hB : B = b) (ha : a < 18446744073709551616) (hb : b < 18446744073709551616) : binI .or .u64 A B = some (.int .u64 ((a ||| b : Nat) : Int)) := by
  subst hA hB
  have h : (BitVec.ofInt 64 (a : Int) ||| BitVec.ofInt 64 (b : Int)).toNat = a ||| b := by
    have e : ∀ x : Nat, BitVec.ofInt 64 (x : Int) = BitVec.ofNat 64 x := fun x => by simp
    rw [e, e, BitVec.toNat_or, BitVec.toNat_ofNat, BitVec.toNat_ofNat, Nat.mod_eq_of_lt (by omega), Nat.mod_eq_of_lt (by omega)]
  have hlt : a ||| b < 2 ^ 64 := Nat.or_lt_two_pow (by omega) (by omega)
  show some (PV.int .u64 (IntKind.u64.wrap _)) = _
  rw [show IntKind.u64.bits = 64 from rfl, h, wrap_u64, Int.emod_eq_of_lt (by omega) (by omega)]
theorem bi_and64 {A B : Int} (a b : Nat) (hA : A = a) (hB : B = b) (ha : a < 18446744073709551616) (hb : b < 18446744073709551616) : binI .and .u64 A B = some (.int .u64 ((a &&& b : Nat) : Int)) := by
  subst hA hB
  have h : (BitVec.ofInt 64 (a : Int) &&& BitVec.ofInt 64 (b : Int)).toNat = a &&& b := by
    have e : ∀ x : Nat, BitVec.ofInt 64 (x : Int) = BitVec.ofNat 64 x := fun x => by simp
    rw [e, e, BitVec.toNat_and, BitVec.toNat_ofNat, BitVec.toNat_ofNat, Nat.mod_eq_of_lt (by omega), Nat.mod_eq_of_lt (by omega)]
  have hlt : a &&& b < 2 ^ 64 := Nat.and_lt_two_pow _ (by omega)
  show some (PV.int .u64 (IntKind.u64.wrap _)) = _
  rw [show IntKind.u64.bits = 64 from rfl, h, wrap_u64, Int.emod_eq_of_lt (by omega) (by omega)]
theorem lt_pow10 {a : Nat} (h : a < 10 ^ 10) : a < 10000000000 := by
  have : (10 : Nat) ^ 10 = 10000000000 := by decide
  omega
structure RdN where
  i : Nat
  l : List UInt8
  a : Nat
end Go.PS
namespace Go.Proofs.YtnccpffnffioeaaDoor
open Go Go.PS
set_option maxHeartbeats 2000000 in
theorem f42 (n : Nat) (s : List UInt8) (hp : Heap) (hn : 5000 < n) : evalCall Tryd.prog hints (n + 1) 42 [.str s] hp = some (.tup [.int .i64 (nm s).1, .bool (nm s).2], hp, false) := by
  rw [evalCall_at _ _ _ hh42 rfl Tryd.func42 rfl (Nat.le_of_ble_eq_true rfl) rfl]
  unfold nm
  by_cases h0 : s = []
  · subst h0
    simp
  · have h0' : (s == []) = false := by simpa using h0
    by_cases h1 : 10 < s.length
    · have h1' : (10 : Int) < s.length := by omega
      rw [if_pos (.inr (.inl h1))]
      simp [h0', h1']
    · have h1' : ¬ ((10 : Int) < s.length) := by omega
      have h01 : (s = [] ∨ 10 < s.length ∨ 1 < s.length ∧ s[0]? = some 48) ↔ (1 < s.length ∧ s[0]? = some 48) := by simp [h0, h1]
      simp only [h01]
      obtain ⟨c, r, hcr⟩ : ∃ c r, s = c :: r := by
        cases s with
        | nil => exact (h0 rfl).elim
        | cons c r => exact ⟨c, r, rfl⟩
      have g0 : s[0]? = some c := by rw [hcr]; rfl
      have lpos : 0 < s.length := by rw [hcr]; simp
      by_cases h2 : 1 < s.length ∧ s[0]? = some 48
      · have h2' : (1 : Int) < s.length := by omega
        have hc : c = 48 := by have := h2.2; rw [g0] at this; simpa using this
        rw [if_pos h2]
        subst hc
        simp [-getElem?_pos, h0', h1', h2', g0, lpos]
      · rw [if_neg h2]
        have hreg : (1 < s.length → (c.toNat : Int) ≠ 48) := by
          intro h e
          apply h2
          refine ⟨h, ?_⟩
          rw [g0]
          congr 1
          apply UInt8.toNat_inj.1
          show c.toNat = 48
          omega
        have hall : ∀ (x : RdN) (h : s.drop x.i = x.l ∧ x.i ≤ s.length ∧ x.a < 10 ^ x.i ∧ valN 0 s = valN x.a x.l ∧ s.all isD = x.l.all isD), x.a < 10 ^ 10 := fun x h => Nat.lt_of_lt_of_le h.2.2.1 (Nat.pow_le_pow_right (by omega) (by omega))
        by_cases h3 : 1 < s.length
        have h3' : (1 : Int) < s.length := by omega
        have h4 : ((c.toNat : Int) == 48) = false := by simpa using hreg h3
        simp [-getElem?_pos, -List.all_eq_true, h0', h1', h3', g0, lpos, h4]
        rotate_left
        have h3' : ¬ ((1 : Int) < s.length) := by omega
        simp [-getElem?_pos, -List.all_eq_true, h0', h1', h3', g0, lpos]
        all_goals
          generalize hit : iter _ _ _ = r
          refine iter_elim hit (fun x : RdN => { fr := [(0, .str s), (4, .int .i64 x.a), (24, .int .i64 s.length), (25, .int .i64 x.i)], hp := hp, base := hp.length, dirty := false })
            (fun x => s.drop x.i = x.l ∧ x.i ≤ s.length ∧ x.a < 10 ^ x.i ∧ valN 0 s = valN x.a x.l ∧ s.all isD = x.l.all isD) (fun x => x.l.length)
            (fun b : Bool => if b = true then (.exit 0, { fr := [(0, .str s), (4, .int .i64 (valN 0 s)), (24, .int .i64 s.length), (25, .int .i64 s.length), (26, .bool false)], hp := hp, base := hp.length, dirty := false }) else
              (.ret, { fr := [(2, .int .i64 0), (3, .bool false)], hp := hp, base := hp.length, dirty := false })) (fun b => s.all isD = b) ⟨0, s, 0⟩ rfl ⟨rfl, Nat.zero_le _, by show 0 < 10 ^ 0; decide, rfl, rfl⟩ (by show s.length < _; omega) ?_ ?_
          · rintro ⟨i, l, a⟩ hI
            have ha := hall _ hI
            obtain ⟨j1, j2, j3, j4, j5⟩ := hI
            simp only at j1 j2 j3 j4 j5 ha
            have ha' : a < 10000000000 := lt_pow10 ha
            clear ha hall
            cases l with
            | nil =>
              right
              have hi : i = s.length := by
                have := congrArg List.length j1
                rw [List.length_drop] at this; simp at this; omega
              subst hi
              refine ⟨true, ?_, by simp, by simpa using j5⟩
              have j6 : valN 0 s = a := j4
              simp [j6]
            | cons b r =>
              obtain ⟨gb, lb, d2⟩ := str_drop_cons j1
              have lb' : (i : Int) < s.length := by omega
              have w2 := wrap_id (x := (i : Int) + 1) (by omega)
              have bl := b.toNat_lt
              cases hb : isD b with
              | false =>
                right
                refine ⟨false, ?_, by simp, by rw [j5, List.all_cons, hb]; rfl⟩
                unfold isD at hb
                by_cases k1 : b.toNat < 48
                · have k1' : (b.toNat : Int) < 48 := by omega
                  simp [-getElem?_pos, lb, lb', gb, k1, k1']
                · have k2 : 57 < b.toNat := by
                    simp at hb; omega
                  have k1' : ¬ ((b.toNat : Int) < 48) := by omega
                  have k2' : (57 : Int) < b.toNat := by omega
                  simp [-getElem?_pos, lb, lb', gb, k1, k2, k1', k2']
              | true =>
                left
                have hb' := hb
                unfold isD at hb'
                simp at hb'
                refine ⟨⟨i + 1, r, 10 * a + (b.toNat - 48)⟩, ?_, ⟨d2, by show i + 1 ≤ _; omega, ?_, ?_, ?_⟩, ?_⟩
                · have k1' : ¬ ((b.toNat : Int) < 48) := by omega
                  have k2' : ¬ ((57 : Int) < b.toNat) := by omega
                  have w3 := wrap_id (x := 10 * (a : Int)) (by omega)
                  have e1 : ((b.toNat : Int) - 48) % 256 = ((b.toNat - 48 : Nat) : Int) := by omega
                  have w4 := wrap_id (x := ((b.toNat - 48 : Nat) : Int)) (by omega)
                  have w5 := wrap_id (x := 10 * (a : Int) + ((b.toNat - 48 : Nat) : Int)) (by omega)
                  simp [-getElem?_pos, lb, lb', gb, k1', k2', w2, w3, e1, w4, w5]
                · show 10 * a + (b.toNat - 48) < 10 ^ (i + 1)
                  rw [Nat.pow_succ]; omega
                · rw [j4]; rfl
                · rw [j5, List.all_cons, hb, Bool.true_and]
                · show r.length < (b :: r).length
                  simp
          · intro b hr hb
            subst hr
            rw [hb]
            cases b with
            | false => simp
            | true => simp; omega
end Go.Proofs.YtnccpffnffioeaaDoor
end

section
namespace Go.PS
end Go.PS
namespace Go.Proofs.YtnccpffnffioeaaDoor
open Go Go.PS
@[simp] theorem ow46 : (hints 46).own = some 5000 := rfl
@[simp] theorem ow57 : (hints 57).own = some 5001 := rfl
theorem f58 (n a : Nat) (hp : Heap) : evalCall Tryd.prog hints (n + 1) 58 [.raw (.float .f64 a)] hp = some (.bool (nanB a), hp, false) := by
  rw [evalCall_at _ _ _ hh58 rfl Tryd.func58 rfl (Nat.le_of_ble_eq_true rfl) rfl]
  simp [binF, nanB]
theorem f75 (n a : Nat) (hp : Heap) : evalCall Tryd.prog hints (n + 1) 75 [.raw (.float .f64 a)] hp = some (.bool (nanB a), hp, false) := by
  rw [evalCall_at _ _ _ hh75 rfl Tryd.func75 rfl (Nat.le_of_ble_eq_true rfl) rfl]
  simp [binF, nanB]
set_option maxHeartbeats 2000000 in
theorem f43 (n : Nat) (s : List UInt8) (hp : Heap) (hn : 5000 < n) : evalCall Tryd.prog hints (n + 3) 43 [.str s] hp = some (.tup [.raw (.float .f64 (fl s).1), .bool (fl s).2], hp, false) := by
  have e41 := fun c => f41 n c hp
  have e58 := fun a => f58 (n + 1) a hp
  rw [evalCall_at _ _ _ hh43 rfl Tryd.func43 rfl (Nat.le_of_ble_eq_true rfl) rfl]
  unfold fl
  by_cases h0 : s.length = 16
  · have h0' : (s.length : Int) = 16 := by omega
    rw [if_pos h0]
    simp [h0', h0]
    generalize hit : iter _ _ _ = r
    refine iter_elim hit (fun x : RdN => { fr := [(0, .str s), (4, .int .u64 x.a), (12, .int .i64 16), (13, .int .i64 x.i)], hp := hp, base := hp.length, dirty := false })
      (fun x => s.drop x.i = x.l ∧ x.i ≤ 16 ∧ x.a < 16 ^ x.i ∧ hexV 0 s = hexV x.a x.l) (fun x => x.l.length)
      (fun b : Option Nat => match b with
        | some v => (.exit 0, { fr := [(0, .str s), (4, .int .u64 v), (12, .int .i64 16), (13, .int .i64 16), (14, .bool false)], hp := hp, base := hp.length, dirty := false })
        | none => (.ret, { fr := [(2, .raw (.float .f64 0)), (3, .bool false)], hp := hp, base := hp.length, dirty := false })) (fun b => hexV 0 s = b) ⟨0, s, 0⟩ rfl ⟨rfl, Nat.zero_le _, by show 0 < 16 ^ 0; decide, rfl⟩ (by show s.length < _; omega) ?_ ?_
    · rintro ⟨i, l, a⟩ ⟨j1, j2, j3, j4⟩
      simp only at j1 j2 j3 j4
      cases l with
      | nil =>
        right
        have hi : i = 16 := by
          have := congrArg List.length j1
          rw [List.length_drop] at this; simp at this; omega
        subst hi
        refine ⟨some a, ?_, by simp, j4⟩
        simp
      | cons b r =>
        obtain ⟨gb, lb, d2⟩ := str_drop_cons j1
        have lb' : (i : Int) < s.length := by omega
        have lb2 : (i : Int) < 16 := by omega
        have w2 := wrap_id (x := (i : Int) + 1) (by omega)
        have ha : a < 1152921504606846976 := by
          have := Nat.lt_of_lt_of_le j3 (Nat.pow_le_pow_right (show 0 < 16 by omega) (show i ≤ 15 by omega))
          have e : (16 : Nat) ^ 15 = 1152921504606846976 := by decide
          omega
        have eb := e41 b
        cases hb : digN b with
        | none =>
          right
          refine ⟨none, ?_, by simp, by rw [j4, hexV, hb]⟩
          have : digI b = -1 := by simp [digI, hb]
          rw [this] at eb
          simp [-getElem?_pos, lb, lb', lb2, gb, eb]
        | some x =>
          left
          have vx : digI b = x := by simp [digI, hb]
          have lx := (dig_hex b x hb).1
          rw [vx] at eb
          refine ⟨⟨i + 1, r, 16 * a + x⟩, ?_, ⟨d2, by show i + 1 ≤ _; omega, ?_, ?_⟩, ?_⟩
          · have x0 : ¬ ((x : Int) < 0) := by omega
            have b1 := bi_or64 (A := (a : Int) * 16) (B := (x : Int)) (a * 16) x (by simp) rfl (by omega) (by omega)
            rw [or16 lx] at b1
            have m1 : (a : Int) * 16 % 18446744073709551616 = a * 16 := by omega
            have m2 : (x : Int) % 18446744073709551616 = x := by omega
            simp [-getElem?_pos, -binI, bi_lss, bi_add, lb, lb', lb2, gb, eb, x0, w2, m1, m2, b1]
          · show 16 * a + x < 16 ^ (i + 1)
            rw [Nat.pow_succ]; omega
          · rw [j4]
            show hexV a (b :: r) = hexV (16 * a + x) r
            rw [hexV, hb]
          · show r.length < (b :: r).length
            simp
    · intro b hr hb
      subst hr
      rw [hb]
      cases b with
      | none => simp
      | some v =>
        have e58 := e58 v
        cases hv : nanB v with
        | true =>
          rw [hv] at e58
          simp [e58, nanC]
          rw [hv, Bool.eq_iff_iff]
          simp
          omega
        | false =>
          rw [hv] at e58
          simp [e58, hv]
  · have h0' : ¬ ((s.length : Int) = 16) := by omega
    rw [if_neg h0]
    have h0b : ((s.length : Int) != 16) = true := by simpa using h0'
    simp [h0', h0b]
end Go.Proofs.YtnccpffnffioeaaDoor
end

section
namespace Go.PS
theorem hp_get (hp : Heap) (x : Node) : (hp ++ [x])[hp.length]? = some x := by simp
theorem hp_set (hp : Heap) (x y : Node) : (hp ++ [x]).set hp.length y = hp ++ [y] := by simp
theorem hexD_get {q : Nat} (h : q < 16) : hexD[q]? = some (hexN q) := by
  have : ∀ d : Fin 16, hexD[d.val]? = some (hexN d.val) := by decide
  exact this ⟨q, h⟩
theorem hexL_app (a : List UInt8) (c : UInt8) : hexL (a ++ [c]) = hexL a ++ [hexN (c.toNat / 16), hexN (c.toNat % 16)] := by
  induction a with
  | nil => rfl
  | cons b a ih => simp [hexL, ih]
theorem hexL_take (s : List UInt8) (k : Nat) (h : k < s.length) : hexL (s.take (k + 1)) = hexL (s.take k) ++ [hexN ((s[k]).toNat / 16), hexN ((s[k]).toNat % 16)] := by
  rw [List.take_succ_eq_append_getElem h, hexL_app]
set_option maxRecDepth 100000 in
theorem bi_and8 {c : Nat} (h : c < 256) : binI .and .u8 (c : Int) 15 = some (.int .u8 ((c % 16 : Nat) : Int)) := by
  have : ∀ d : Fin 256, ((BitVec.ofInt 8 (d.val : Int) &&& BitVec.ofInt 8 15).toNat) = d.val % 16 := by decide
  have := this ⟨c, h⟩
  show some (PV.int .u8 (IntKind.u8.wrap _)) = _
  rw [show IntKind.u8.bits = 8 from rfl, this, wrap_u8]
  congr 2
  show ((c % 16 : Nat) : Int) % 256 = _
  omega
end Go.PS
namespace Go.Proofs.YtnccpffnffioeaaDoor
open Go Go.PS
@[simp] theorem zb55 : zeroBld Tryd.prog 55 = true := by kernel_rfl
set_option maxHeartbeats 2000000 in
theorem f17 (n : Nat) (s : List UInt8) (hp : Heap) (hs : s.length ≤ 3000) (hn : 5000 < n) : ∃ hp', evalCall Tryd.prog hints (n + 1) 17 [.str s] hp = some (.str (hexP s), hp', false) := by
  rw [evalCall_at _ _ _ hh17 rfl Tryd.func17 rfl (Nat.le_of_ble_eq_true rfl) rfl]
  unfold hexP
  by_cases h0 : s = []
  · subst h0
    simp
  · have h0' : (s == []) = false := by simpa using h0
    rw [if_neg h0]
    simp [h0']
    rw [iter_count (fun k => { fr := [(0, .str s), (3, .bp hp.length), (8, .int .i64 s.length), (9, .int .i64 k)], hp := hp ++ [.bld 55 5 (hexL (s.take k))], base := hp.length, dirty := false })
      (.exit 0, { fr := [(0, .str s), (3, .bp hp.length), (8, .int .i64 s.length), (9, .int .i64 s.length), (10, .bool false)], hp := hp ++ [.bld 55 5 (hexL s)], base := hp.length, dirty := false }) s.length]
    · have hl : 0 < (hexL s).length := by
        rw [hexL_len]
        cases s with
        | nil => exact (h0 rfl).elim
        | cons c r => simp
      simp [hl, bldOp, hp_get, hp_set]
    · simp [hexL]
    · omega
    · intro k hk
      have hk' : (k : Int) < s.length := by omega
      have w := wrap_id (x := (k : Int) + 1) (by omega)
      rw [hexL_take s k hk]
      have hc := (s[k]).toNat_lt
      have hlen : (hexL (s.take k)).length ≤ 6000 := by rw [hexL_len, List.length_take]; omega
      have gk := List.getElem?_eq_getElem hk
      generalize s[k] = ck at *
      generalize hcc : ck.toNat = c at *
      have g1 := hexD_get (q := c / 16) (by omega)
      have g2 := hexD_get (q := c % 16) (by omega)
      unfold hexD at g1 g2
      have b1 := bi_and8 hc
      have e1 : (c : Int).fdiv 16 = ((c / 16 : Nat) : Int) := by rw [fd (by omega)]; omega
      have q1 : ((c / 16 : Nat) : Int) < 16 := by omega
      have q2 : ((c % 16 : Nat) : Int) < 16 := by omega
      generalize hexN (c / 16) = d1 at *
      generalize hexN (c % 16) = d2 at *
      generalize hexL (s.take k) = L at *
      have l1 : L.length + 1 ≤ 140737488355328 := by omega
      have l2 : L.length + 1 + 1 ≤ 140737488355328 := by omega
      have t1 := d1.toNat_lt
      have t2 := d2.toNat_lt
      have t1' : (d1.toNat : Int) < 256 := by omega
      have t2' : (d2.toNat : Int) < 256 := by omega
      generalize c / 16 = x1 at *
      generalize c % 16 = x2 at *
      simp [-getElem?_pos, -binI, bi_lss, bi_add, hk', hk, gk, hcc, w, b1, e1, g1, g2, q1, q2, bldOp, hp_get, hp_set, l1, l2, t1', t2']
    · simp
    · simp
end Go.Proofs.YtnccpffnffioeaaDoor
end

section
namespace Go.PS
def hex16 (n : Nat) : List UInt8 := (List.range 16).map fun i => hexN (n / 2 ^ (60 - 4 * i) % 16)
def bitsL (n : Nat) : List UInt8 := hex16 (if nanB n = true then nanC else n)
theorem hex16_len (n : Nat) : (hex16 n).length = 16 := by simp [hex16]
theorem hex16_get (n i : Nat) (h : i < 16) : (hex16 n)[i]? = some (hexN (n / 2 ^ (60 - 4 * i) % 16)) := by simp [hex16, h]
/-- The first k digits, and zeros. -/
def part16 (n k : Nat) : List PV := ofBytes ((hex16 n).take k) ++ List.replicate (16 - k) (.int .u8 0)
theorem part16_set (n k : Nat) (h : k < 16) : (part16 n k).set k (.int .u8 (hexN (n / 2 ^ (60 - 4 * k) % 16)).toNat) = part16 n (k + 1) := by
  have hl := hex16_len n
  have hg := hex16_get n k h
  have e : 16 - k = (16 - (k + 1)) + 1 := by omega
  have hk : k < (hex16 n).length := by omega
  rw [List.getElem?_eq_getElem hk] at hg
  unfold part16
  rw [e, List.replicate_succ, List.set_append_right _ _ (by simp [ofBytes]; omega), List.take_succ_eq_append_getElem hk, ofBytes_app, List.append_assoc]
  congr 1
  have : k - (ofBytes ((hex16 n).take k)).length = 0 := by simp [ofBytes]; omega
  rw [this, List.set_cons_zero]
  simp at hg
  simp [ofBytes, hg]
theorem part16_len (n k : Nat) (h : k ≤ 16) : (part16 n k).length = 16 := by
  have := hex16_len n
  simp [part16, ofBytes]; omega
theorem part16_0 (n : Nat) : part16 n 0 = List.replicate 16 (.int .u8 0) := by simp [part16, ofBytes]
theorem part16_16 (n : Nat) : part16 n 16 = ofBytes (hex16 n) := by
  have := hex16_len n
  unfold part16
  rw [List.take_of_length_le (by omega)]; simp
theorem fdiv_pow (x j : Nat) : (x : Int).fdiv (2 ^ j) = ((x / 2 ^ j : Nat) : Int) := by
  have p : (2 : Int) ^ j = ((2 ^ j : Nat) : Int) := by rw [Int.natCast_pow]; rfl
  rw [p, fd (Int.natCast_nonneg _), Int.natCast_ediv]
theorem and_15 (x : Nat) : x &&& 15 = x % 16 := Nat.and_two_pow_sub_one_eq_mod x 4
end Go.PS
namespace Go.Proofs.YtnccpffnffioeaaDoor
open Go Go.PS
set_option maxHeartbeats 2000000 in
theorem f36 (n a : Nat) (hp : Heap) (ha : a < 18446744073709551616) (hn : 5000 < n) : evalCall Tryd.prog hints (n + 2) 36 [.raw (.float .f64 a)] hp = some (.str (bitsL a), hp, false) := by
  have e58 := f58 n a hp
  rw [evalCall_at _ _ _ hh36 rfl Tryd.func36 rfl (Nat.le_of_ble_eq_true rfl) rfl]
  unfold bitsL
  generalize hx : (if nanB a = true then nanC else a) = x
  have hx' : x < 18446744073709551616 := by
    rw [← hx]; split
    · decide
    · exact ha
  cases hv : nanB a
  rw [hv] at e58 hx
  have hx : a = x := hx
  have hx2 : (x : Int) = a := by omega
  simp [e58]
  rotate_left
  rw [hv] at e58 hx
  have hx : nanC = x := hx
  have hx2 : (x : Int) = 9221120237041090561 := by rw [← hx]; simp [nanC]
  simp [e58]
  all_goals
    rw [iter_count (fun k => { fr := [(3, .int .u64 x), (4, .box (part16 x k)), (10, .int .i64 k)], hp := hp, base := hp.length, dirty := false }) (.exit 0, { fr := [(3, .int .u64 x), (4, .box (part16 x 16)), (10, .int .i64 16), (11, .bool false)], hp := hp, base := hp.length, dirty := false }) 16]
    · have h1 := part16_len x 16 (by omega)
      have h2 := hex16_len x
      rw [part16_16] at h1 ⊢
      have h3 : List.take 16 (List.map shr (ofBytes (hex16 x))) = ofBytes (hex16 x) := by rw [ofBytes_shr]; exact List.take_of_length_le (by omega)
      simp [h1, h3, bytesOf_of]
    · rw [hx2, part16_0]; simp
    · omega
    · intro k hk
      have hk' : (k : Int) < 16 := by omega
      have hk15 : k ≤ 15 := by omega
      have w := wrap_id (x := (k : Int) + 1) (by omega)
      have w1 := wrap_id (x := 4 * (k : Int)) (by omega)
      have w2 := wrap_id (x := 60 - 4 * (k : Int)) (by omega)
      have hs := part16_set x k hk
      have hl := part16_len x k (by omega)
      have n1 : ¬ (60 - 4 * (k : Int) < 0) := by omega
      have n2 : min (60 - 4 * (k : Int)).toNat 64 = 60 - 4 * k := by omega
      have e1 : (x : Int).fdiv (2 ^ (60 - 4 * k)) = ((x / 2 ^ (60 - 4 * k) : Nat) : Int) := by
        exact fdiv_pow x _
      have hq : x / 2 ^ (60 - 4 * k) < 18446744073709551616 := Nat.lt_of_le_of_lt (Nat.div_le_self _ _) hx'
      generalize hqq : x / 2 ^ (60 - 4 * k) = q at *
      have m1 : (q : Int) % 18446744073709551616 = q := by omega
      have b1 := bi_and64 (A := (q : Int)) (B := 15) q 15 rfl rfl hq (by omega)
      rw [and_15] at b1
      have g1 := hexD_get (q := q % 16) (by omega)
      unfold hexD at g1
      have q2 : ((q % 16 : Nat) : Int) < 16 := by omega
      generalize hexN (q % 16) = d at *
      generalize q % 16 = x2 at *
      generalize part16 x (k + 1) = Y at *
      generalize part16 x k = X at *
      simp [-getElem?_pos, -binI, bi_lss, bi_add, bi_mul, bi_sub, hk', hk, w, w1, w2, n1, n2, e1, m1, b1, g1, q2, hl, hk15, hs]
    · simp
    · simp
end Go.Proofs.YtnccpffnffioeaaDoor
end

section
namespace Go.PS
def bitsR (n : Nat) : List UInt8 := if nanB n = true then hex16 nanC else hex16 n
theorem bitsR_eq (n : Nat) : bitsR n = bitsL n := by unfold bitsR bitsL; split <;> rfl
theorem hex16_nan : hex16 nanC = [55, 102, 102, 56, 48, 48, 48, 48, 48, 48, 48, 48, 48, 48, 48, 49] := by decide
theorem hex16_drop (n k : Nat) (h : k < 16) : (hex16 n).drop (16 - (k + 1)) = hexN (n / 16 ^ k % 16) :: (hex16 n).drop (16 - k) := by
  have hl := hex16_len n
  have hk : 16 - (k + 1) < (hex16 n).length := by omega
  rw [List.drop_eq_getElem_cons hk]
  have e : 16 - (k + 1) + 1 = 16 - k := by omega
  rw [e]
  congr 1
  have hg := hex16_get n (16 - (k + 1)) (by omega)
  rw [List.getElem?_eq_getElem hk] at hg
  have e2 : 60 - 4 * (16 - (k + 1)) = 4 * k := by omega
  rw [e2, Nat.pow_mul] at hg
  simpa using hg
end Go.PS
namespace Go.Proofs.YtnccpffnffioeaaDoor
open Go Go.PS
set_option maxHeartbeats 2000000 in
theorem f50 (n a : Nat) (hp : Heap) (ha : a < 18446744073709551616) (hn : 5000 < n) : evalCall Tryd.prog hints (n + 2) 50 [.raw (.float .f64 a)] hp = some (.str (bitsL a), hp, false) := by
  have e45 := fun k hk => f45 n k hk hp
  rw [← bitsR_eq]
  rw [evalCall_at _ _ _ hh50 rfl Tryd.func50 rfl (Nat.le_of_ble_eq_true rfl) rfl]
  unfold bitsR
  cases hv : nanB a with
  | true =>
    have hv' : (FloatKind.f64.format.order a a != some .eq) = true := hv
    rw [if_pos rfl, hex16_nan]
    simp [binF, hv']
  | false =>
    have hv' : (FloatKind.f64.format.order a a != some .eq) = false := hv
    rw [if_neg (by decide)]
    simp [binF, hv']
    rw [iter_count (fun k => { fr := [(3, .int .u64 (a / 16 ^ k : Nat)), (4, .str ((hex16 a).drop (16 - k))), (5, .int .i64 k)], hp := hp, base := hp.length, dirty := false }) (.exit 0, { fr := [(3, .int .u64 (a / 16 ^ 16 : Nat)), (4, .str (hex16 a)), (5, .int .i64 16), (12, .bool false)], hp := hp, base := hp.length, dirty := false }) 16]
    · simp
    · simp [List.drop_of_length_le (Nat.le_of_eq (hex16_len a))]
    · omega
    · intro k hk
      have hk' : (k : Int) < 16 := by omega
      have w := wrap_id (x := (k : Int) + 1) (by omega)
      have hd := hex16_drop a k hk
      have hq : a / 16 ^ k < 18446744073709551616 := Nat.lt_of_le_of_lt (Nat.div_le_self _ _) ha
      have hs : a / 16 ^ (k + 1) = a / 16 ^ k / 16 := by rw [Nat.pow_succ, Nat.div_div_eq_div_mul]
      have hl := congrArg List.length hd
      rw [List.length_drop, hex16_len] at hl
      rw [hd, hs]
      generalize (hex16 a).drop (16 - k) = L at *
      generalize a / 16 ^ k = q at *
      have e := e45 (q % 16) (by omega)
      have m1 : (q : Int).tmod 16 = ((q % 16 : Nat) : Int) := by rw [tm _ (by omega)]; omega
      have m2 : (q : Int).tdiv 16 = ((q / 16 : Nat) : Int) := by rw [td _ (by omega)]; omega
      have w3 := wrap_id (x := ((q % 16 : Nat) : Int)) (by omega)
      have m3 : ((q / 16 : Nat) : Int) % 18446744073709551616 = ((q / 16 : Nat) : Int) := by omega
      simp only [List.length_cons] at hl
      have hL : 1 + L.length ≤ 9223372036854775807 := by omega
      generalize hexN (q % 16) = d at *
      generalize q % 16 = x1 at *
      generalize q / 16 = x2 at *
      simp [hk', w, e, m1, m2, m3, w3, hL]
    · simp
    · simp
end Go.Proofs.YtnccpffnffioeaaDoor
end

section
namespace Go.PS
def numR (w : List UInt8) : Int := if w.all isD = true ∧ w.length ≤ 10 then (valN 0 w : Int) else -1
def hexW : Nat → List UInt8 → Nat
  | a, [] => a
  | a, c :: r => hexW (16 * a + digV c) r
def fltR (s : List UInt8) : Nat := hexW 0 (s.take 16)
structure RdD where
  i : Nat
  acc : List UInt8
theorem dataL_short {l : List UInt8} (h : l.length < 2) : dataL l = [] := by
  match l, h with
  | [], _ => rfl
  | [_], _ => rfl
end Go.PS
namespace Go.Proofs.YtnccpffnffioeaaDoor
open Go Go.PS
set_option maxHeartbeats 2000000 in
theorem f24 (n : Nat) (s : List UInt8) (hp : Heap) (hs : s.length ≤ 3000) (hn : 5000 < n) : evalCall Tryd.prog hints (n + 3) 24 [.str s] hp = some (.str (dataL s), hp, false) := by
  have e44 := fun c => f44 n c hp (by omega)
  rw [evalCall_at _ _ _ hh24 rfl Tryd.func24 rfl (Nat.le_of_ble_eq_true rfl) rfl]
  simp
  generalize hit : iter _ _ _ = r
  refine iter_elim hit (fun x : Rd2 => { fr := [(0, .str s), (3, .sl (.mu 1) x.acc.length (ofBytes x.acc)), (4, .int .i64 x.i)], hp := hp, base := hp.length, dirty := false })
    (fun x => s.drop x.i = x.l ∧ x.acc.length ≤ x.i ∧ x.i ≤ s.length ∧ dataL s = x.acc ++ dataL x.l) (fun x => x.l.length)
    (fun b : Nat => (.exit 0, { fr := [(0, .str s), (3, .sl (.mu 1) (dataL s).length (ofBytes (dataL s))), (4, .int .i64 b), (10, .bool false)], hp := hp, base := hp.length, dirty := false })) (fun b => True) ⟨0, s, []⟩ (by simp [ofBytes]) ⟨rfl, Nat.le_refl 0, Nat.zero_le _, rfl⟩ (by show s.length < _; omega) ?_ ?_
  · rintro ⟨i, l, acc⟩ ⟨j1, j3, j4, j5⟩
    simp only at j1 j3 j4 j5
    have hll := congrArg List.length j1
    rw [List.length_drop] at hll
    have w1 := wrap_id (x := (i : Int) + 1) (by omega)
    have w2 := wrap_id (x := (i : Int) + 2) (by omega)
    by_cases hl2 : l.length < 2
    · right
      refine ⟨i, ?_, by simp, trivial⟩
      rw [dataL_short hl2, List.append_nil] at j5
      have c : ¬ ((i : Int) + 1 < s.length) := by omega
      simp [w1, c, j5]
    · left
      match l, hl2, j1, j5 with
      | a :: b :: r, _, j1, j5 =>
        obtain ⟨ga, la, d1⟩ := str_drop_cons j1
        obtain ⟨gb, lb, d2⟩ := str_drop_cons d1
        have la' : (i : Int) < s.length := by omega
        have lb' : (i : Int) + 1 < s.length := by omega
        have n1 : (0 : Int) ≤ (i : Int) + 1 := by omega
        have n2 : ((i : Int) + 1).toNat = i + 1 := by omega
        have ea := e44 a
        have eb := e44 b
        refine ⟨⟨i + 2, r, acc ++ [UInt8.ofNat (16 * digV a + digV b)]⟩, ?_, ⟨d2, ?_, ?_, ?_⟩, ?_⟩
        · have lx := digV_lt a
          have ly := digV_lt b
          generalize digV a = x at *
          generalize digV b = y at *
          have w3 := wrap_id (x := 16 * (x : Int)) (by omega)
          have w4 := wrap_id (x := 16 * (x : Int) + y) (by omega)
          have lacc : acc.length + 1 ≤ 140737488355328 := by omega
          have m : (16 * (x : Int) + y) % 256 = 16 * x + y := by omega
          simp [-getElem?_pos, la, lb, la', lb', ga, gb, ea, eb, w1, w2, n1, n2, ofBytes_app, ofBytes_len, lacc, w3, w4]
          simp [ofBytes]
        · show (acc ++ [_]).length ≤ i + 2; rw [List.length_append]; simp only [List.length_cons, List.length_nil]; omega
        · show i + 2 ≤ s.length; omega
        · rw [j5, dataL]; simp
        · show r.length < (a :: b :: r).length; simp only [List.length_cons]; omega
      | [], h, _, _ => exact (h (by simp)).elim
      | [_], h, _, _ => exact (h (by simp)).elim
  · intro b hr hb
    subst hr
    simp [bytesOf_of, ofBytes_len]
set_option maxHeartbeats 2000000 in
theorem f25 (n : Nat) (s : List UInt8) (hp : Heap) (hs : s.length ≤ 3000) (hn : 5000 < n) : evalCall Tryd.prog hints (n + 2) 25 [.str s] hp = some (.str (hexP s), hp, false) := by
  have e45 := fun k hk => f45 n k hk hp
  rw [evalCall_at _ _ _ hh25 rfl Tryd.func25 rfl (Nat.le_of_ble_eq_true rfl) rfl]
  simp
  rw [iter_count (fun k => { fr := [(0, .str s), (3, .str (hexL (s.take k))), (4, .int .i64 k)], hp := hp, base := hp.length, dirty := false })
      (.exit 0, { fr := [(0, .str s), (3, .str (hexL s)), (4, .int .i64 s.length), (8, .bool false)], hp := hp, base := hp.length, dirty := false }) s.length]
  · unfold hexP
    by_cases h0 : s = []
    · subst h0
      simp
    · have h0' : (s == []) = false := by simpa using h0
      rw [if_neg h0]
      simp [h0']
  · simp [hexL]
  · omega
  · intro k hk
    have hk' : (k : Int) < s.length := by omega
    have w := wrap_id (x := (k : Int) + 1) (by omega)
    rw [hexL_take s k hk]
    have hc := (s[k]).toNat_lt
    have hlen : (hexL (s.take k)).length ≤ 6000 := by rw [hexL_len, List.length_take]; omega
    have gk := List.getElem?_eq_getElem hk
    generalize s[k] = ck at *
    generalize hcc : ck.toNat = c at *
    have g1 := e45 (c / 16) (by omega)
    have g2 := e45 (c % 16) (by omega)
    have w1 := wrap_id (x := (c : Int)) (by omega)
    have w2 := wrap_id (x := ((c / 16 : Nat) : Int)) (by omega)
    have m1 : (c : Int).tmod 16 = ((c % 16 : Nat) : Int) := by rw [tm _ (by omega)]; omega
    have m2 : (c : Int).tdiv 16 = ((c / 16 : Nat) : Int) := by rw [td _ (by omega)]; omega
    generalize hexN (c / 16) = d1 at *
    generalize hexN (c % 16) = d2 at *
    generalize hexL (s.take k) = L at *
    have l1 : L.length + 1 ≤ 9223372036854775807 := by omega
    have l2 : L.length + 1 + 1 ≤ 9223372036854775807 := by omega
    generalize c / 16 = x1 at *
    generalize c % 16 = x2 at *
    simp [-getElem?_pos, hk', hk, gk, hcc, w, g1, g2, w1, w2, m1, m2, l1, l2]
  · simp
  · simp
end Go.Proofs.YtnccpffnffioeaaDoor
end

section
namespace Go.PS
theorem nDigits_le : ∀ (k u : Nat), u < 10 ^ (k + 1) → Lib.nDigits u ≤ k + 1
  | 0, u, h => by rw [Lib.nDigits_small (by simpa using h)]; omega
  | k + 1, u, h => by
    by_cases c : u < 10
    · rw [Lib.nDigits_small c]; omega
    · rw [Lib.nDigits_big c]
      have := nDigits_le k (u / 10) (by rw [Nat.pow_succ] at h; omega)
      omega
end Go.PS
namespace Go.Proofs.YtnccpffnffioeaaDoor
open Go Go.PS
set_option maxHeartbeats 2000000 in
theorem f26 (n : Nat) (s : List UInt8) (hp : Heap) (hs : s.length ≤ 3000) (hn : 5000 < n) : evalCall Tryd.prog hints (n + 1) 26 [.str s] hp = some (.int .i64 (numR s), hp, false) := by
  rw [evalCall_at _ _ _ hh26 rfl Tryd.func26 rfl (Nat.le_of_ble_eq_true rfl) rfl]
  unfold numR
  simp [-List.all_eq_true]
  generalize hit : iter _ _ _ = r
  refine iter_elim hit (fun x : RdN => { fr := [(0, .str s), (3, .int .i64 x.a), (4, .int .i64 x.i)], hp := hp, base := hp.length, dirty := false })
    (fun x => s.drop x.i = x.l ∧ x.i ≤ s.length ∧ x.i ≤ 10 ∧ x.a < 10 ^ x.i ∧ valN 0 s = valN x.a x.l ∧ s.all isD = x.l.all isD) (fun x => x.l.length)
    (fun b : Bool => if b = true then (.exit 0, { fr := [(0, .str s), (3, .int .i64 (valN 0 s)), (4, .int .i64 s.length), (8, .bool false)], hp := hp, base := hp.length, dirty := false }) else
      (.ret, { fr := [(2, .int .i64 (-1))], hp := hp, base := hp.length, dirty := false })) (fun b => b = true ↔ (s.all isD = true ∧ s.length ≤ 10)) ⟨0, s, 0⟩ rfl ⟨rfl, Nat.zero_le _, Nat.zero_le _, by show 0 < 10 ^ 0; decide, rfl, rfl⟩ (by show s.length < _; omega) ?_ ?_
  · rintro ⟨i, l, a⟩ ⟨j1, j2, j6, j3, j4, j5⟩
    simp only at j1 j2 j3 j4 j5 j6
    have ha' : a < 10000000000 := lt_pow10 (Nat.lt_of_lt_of_le j3 (Nat.pow_le_pow_right (by omega) j6))
    have hll := congrArg List.length j1
    rw [List.length_drop] at hll
    cases l with
    | nil =>
      right
      have hi : i = s.length := by simp at hll; omega
      subst hi
      refine ⟨true, ?_, by simp, by simp [-List.all_eq_true, j5, j6]⟩
      have j7 : valN 0 s = a := j4
      simp [j7]
    | cons b r =>
      obtain ⟨gb, lb, d2⟩ := str_drop_cons j1
      have lb' : (i : Int) < s.length := by omega
      have w2 := wrap_id (x := (i : Int) + 1) (by omega)
      have bl := b.toNat_lt
      cases hb : isD b with
      | false =>
        right
        refine ⟨false, ?_, by simp, by simp [-List.all_eq_true, j5, hb]⟩
        unfold isD at hb
        by_cases k1 : b.toNat < 48
        · have k1' : (b.toNat : Int) < 48 := by omega
          simp [-getElem?_pos, lb, lb', gb, k1, k1']
        · have k2 : 57 < b.toNat := by
            simp at hb; omega
          have k1' : ¬ ((b.toNat : Int) < 48) := by omega
          have k2' : (57 : Int) < b.toNat := by omega
          simp [-getElem?_pos, lb, lb', gb, k1, k2, k1', k2']
      | true =>
        have hb' := hb
        unfold isD at hb'
        simp at hb'
        have k1' : ¬ ((b.toNat : Int) < 48) := by omega
        have k2' : ¬ ((57 : Int) < b.toNat) := by omega
        by_cases k9 : 9 < i
        · right
          refine ⟨false, ?_, by simp, ?_⟩
          · have k9' : (9 : Int) < i := by omega
            simp [-getElem?_pos, lb, lb', gb, k1', k2', k9, k9']
          · have : ¬ (s.length ≤ 10) := by simp only [List.length_cons] at hll; omega
            simp [this]
        · left
          have k9' : ¬ ((9 : Int) < i) := by omega
          refine ⟨⟨i + 1, r, 10 * a + (b.toNat - 48)⟩, ?_, ⟨d2, by show i + 1 ≤ _; omega, by show i + 1 ≤ _; omega, ?_, ?_, ?_⟩, ?_⟩
          · have w3 := wrap_id (x := 10 * (a : Int)) (by omega)
            have w4 := wrap_id (x := (b.toNat : Int)) (by omega)
            have w5 := wrap_id (x := 10 * (a : Int) + b.toNat) (by omega)
            have w6 := wrap_id (x := 10 * (a : Int) + b.toNat - 48) (by omega)
            have e1 : 10 * (a : Int) + b.toNat - 48 = 10 * (a : Int) + ((b.toNat - 48 : Nat) : Int) := by omega
            rw [e1] at w6
            simp [-getElem?_pos, lb, lb', gb, k1', k2', k9, k9', w2, w3, w4, w5, e1, w6]
          · show 10 * a + (b.toNat - 48) < 10 ^ (i + 1)
            rw [Nat.pow_succ]; omega
          · rw [j4]; rfl
          · rw [j5, List.all_cons, hb, Bool.true_and]
          · show r.length < (b :: r).length
            simp
  · intro b hr hb
    subst hr
    cases b with
    | false =>
      have : ¬ (s.all isD = true ∧ s.length ≤ 10) := fun h => by have := hb.2 h; cases this
      rw [if_neg this]
      simp
    | true =>
      rw [if_pos (hb.1 rfl)]
      simp
set_option maxHeartbeats 2000000 in
theorem f27 (n : Nat) (s : List UInt8) (hp : Heap) (hs : s.length ≤ 3000) (hn : 5000 < n) : evalCall Tryd.prog hints (n + 3) 27 [.str s] hp = some (.raw (.float .f64 (fltR s)), hp, false) := by
  have e44 := fun c => f44 n c hp (by omega)
  rw [evalCall_at _ _ _ hh27 rfl Tryd.func27 rfl (Nat.le_of_ble_eq_true rfl) rfl]
  unfold fltR
  simp
  generalize hit : iter _ _ _ = r
  refine iter_elim hit (fun x : RdN => { fr := [(0, .str s), (3, .int .u64 x.a), (4, .int .i64 x.i)], hp := hp, base := hp.length, dirty := false })
    (fun x => (s.take 16).drop x.i = x.l ∧ x.i ≤ (s.take 16).length ∧ x.a < 16 ^ x.i ∧ hexW 0 (s.take 16) = hexW x.a x.l) (fun x => x.l.length)
    (fun b : Nat => (.exit 0, { fr := [(0, .str s), (3, .int .u64 (hexW 0 (s.take 16))), (4, .int .i64 b), (12, .bool false)], hp := hp, base := hp.length, dirty := false })) (fun b => True) ⟨0, s.take 16, 0⟩ rfl ⟨rfl, Nat.zero_le _, by show 0 < 16 ^ 0; decide, rfl⟩ (by show (s.take 16).length < _; rw [List.length_take]; omega) ?_ ?_
  · rintro ⟨i, l, a⟩ ⟨j1, j2, j3, j4⟩
    simp only at j1 j2 j3 j4
    have hll := congrArg List.length j1
    rw [List.length_drop] at hll
    rw [List.length_take] at hll j2
    cases l with
    | nil =>
      right
      refine ⟨i, ?_, by simp, trivial⟩
      have j7 : hexW 0 (s.take 16) = a := j4
      simp only [List.length_nil] at hll
      by_cases c : i < s.length
      · have c1 : (i : Int) < s.length := by omega
        have c2 : ¬ ((i : Int) < 16) := by omega
        simp [j7, c, c1, c2]
      · have c1 : ¬ ((i : Int) < s.length) := by omega
        simp [j7, c, c1]
    | cons b r =>
      obtain ⟨gb, lb, d2⟩ := str_drop_cons j1
      rw [List.length_take] at lb
      have lb0 : i < s.length := by omega
      have gb0 : s[i]? = some b := by
        rw [List.getElem?_take] at gb
        split at gb
        · exact gb
        · cases gb
      have lb' : (i : Int) < s.length := by omega
      have lb2 : (i : Int) < 16 := by omega
      have w2 := wrap_id (x := (i : Int) + 1) (by omega)
      have ha : a < 1152921504606846976 := by
        have := Nat.lt_of_lt_of_le j3 (Nat.pow_le_pow_right (show 0 < 16 by omega) (show i ≤ 15 by omega))
        have e : (16 : Nat) ^ 15 = 1152921504606846976 := by decide
        omega
      have eb := e44 b
      have lx := digV_lt b
      left
      refine ⟨⟨i + 1, r, 16 * a + digV b⟩, ?_, ⟨d2, by show i + 1 ≤ (s.take 16).length; rw [List.length_take]; omega, ?_, ?_⟩, ?_⟩
      · generalize digV b = x at *
        have m1 : (16 * (a : Int)) % 18446744073709551616 = 16 * a := by omega
        have m2 : (x : Int) % 18446744073709551616 = x := by omega
        have m3 : (16 * (a : Int) + x) % 18446744073709551616 = 16 * a + x := by omega
        simp [-getElem?_pos, lb0, lb', lb2, gb0, eb, w2, m1, m2, m3]
      · show 16 * a + digV b < 16 ^ (i + 1)
        rw [Nat.pow_succ]; omega
      · rw [j4]; rfl
      · show r.length < (b :: r).length
        simp
  · intro b hr hb
    subst hr
    simp
set_option maxHeartbeats 2000000 in
theorem f49 (n m : Nat) (hp : Heap) (hm : m ≤ 2147483647) (hn : 5000 < n) : evalCall Tryd.prog hints (n + 1) 49 [.int .i64 m] hp = some (.str (Lib.decDigits m), hp, false) := by
  rw [evalCall_at _ _ _ hh49 rfl Tryd.func49 rfl (Nat.le_of_ble_eq_true rfl) rfl]
  simp
  generalize hit : iter _ _ _ = r
  refine iter_elim hit (fun x : RdD => { fr := [(0, .int .i64 x.i), (3, .str x.acc)], hp := hp, base := hp.length, dirty := false })
    (fun x => Lib.decDigits m = Lib.decDigits x.i ++ x.acc ∧ x.acc.length + x.i ≤ m) (fun x => Lib.nDigits x.i)
    (fun x : RdD => (.exit 0, { fr := [(0, .int .i64 x.i), (3, .str x.acc), (5, .bool false)], hp := hp, base := hp.length, dirty := false })) (fun x => x.i < 10 ∧ x.acc.length ≤ m ∧ Lib.decDigits m = Lib.decDigits x.i ++ x.acc) ⟨m, []⟩ rfl ⟨by simp, by show 0 + m ≤ m; omega⟩ ?_ ?_ ?_
  · show Lib.nDigits m < n
    have := nDigits_le 9 m (by have e : (10 : Nat) ^ (9 + 1) = 10000000000 := by decide
                               omega)
    omega
  · rintro ⟨i, acc⟩ ⟨j1, j2⟩
    simp only at j1 j2
    by_cases c : i < 10
    · right
      refine ⟨⟨i, acc⟩, ?_, by simp, c, by show acc.length ≤ m; omega, j1⟩
      have c' : ¬ ((9 : Int) < i) := by omega
      simp [c']
    · left
      have c' : (9 : Int) < i := by omega
      refine ⟨⟨i / 10, UInt8.ofNat (48 + i % 10) :: acc⟩, ?_, ⟨?_, ?_⟩, ?_⟩
      · have m1 : (i : Int).tmod 10 = ((i % 10 : Nat) : Int) := by rw [tm _ (by omega)]; omega
        have m2 : (i : Int).tdiv 10 = ((i / 10 : Nat) : Int) := by rw [td _ (by omega)]; omega
        have w1 := wrap_id (x := ((i / 10 : Nat) : Int)) (by omega)
        have w2 := wrap_id (x := 48 + ((i % 10 : Nat) : Int)) (by omega)
        have w3 : (48 + ((i % 10 : Nat) : Int)) % 256 = 48 + ((i % 10 : Nat) : Int) := by omega
        have w4 : (48 + ((i % 10 : Nat) : Int)).toNat = 48 + i % 10 := by omega
        have la : 1 + acc.length ≤ 9223372036854775807 := by omega
        generalize i / 10 = x1 at *
        generalize i % 10 = x2 at *
        simp [c', m1, m2, w1, w2, w3, w4, la, bytesOf]
      · rw [j1, Lib.decDigits, dif_neg c]; simp
      · show (_ :: acc).length + i / 10 ≤ m
        rw [List.length_cons]; omega
      · show Lib.nDigits (i / 10) < Lib.nDigits i
        rw [Lib.nDigits_big c]; omega
  · rintro ⟨i, acc⟩ hr ⟨h1, h2, h3⟩
    simp only at h1 h2 h3
    subst hr
    rw [h3, Lib.decDigits_one h1]
    have w2 := wrap_id (x := 48 + (i : Int)) (by omega)
    have w3 : (48 + (i : Int)) % 256 = 48 + (i : Int) := by omega
    have w4 : (48 + (i : Int)).toNat = 48 + i := by omega
    have la : 1 + acc.length ≤ 9223372036854775807 := by omega
    simp [w2, w3, w4, la, bytesOf]
end Go.Proofs.YtnccpffnffioeaaDoor
end
