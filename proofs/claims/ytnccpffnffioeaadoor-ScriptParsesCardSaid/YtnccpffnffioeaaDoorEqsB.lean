/-
  What functions of this program compute, as equations about the evaluator. No condition but those stated.
-/
import Derived.Test.YtnccpffnffioeaaDoorEqsA

set_option linter.all false
section
namespace Go.PS
def sameF (a b : Nat) : Bool := if (nanB a || nanB b) = true then (nanB a && nanB b) else a == b
def sameC (p q : Nat × Nat) : Bool := sameF p.1 q.1 && sameF p.2 q.2
abbrev cx (p : Nat × Nat) : PV := .raw (.complex .f64 p.1 p.2)
structure Evt where
  k : Nat
  c : Int
  b : Int
  z0 : Nat × Nat
  z1 : Nat × Nat
  z2 : Nat × Nat
  z3 : Nat × Nat
  d : List UInt8
  deriving DecidableEq
def Evt.cells (e : Evt) : List PV := [.int .u8 e.k, .int .i64 e.c, .int .i64 e.b, cx e.z0, cx e.z1, cx e.z2, cx e.z3, .str e.d]
def zero4 (z0 z1 z2 z3 : Nat × Nat) : Bool := sameC z0 (0, 0) && sameC z1 (0, 0) && sameC z2 (0, 0) && sameC z3 (0, 0)
theorem sameF_self (a : Nat) : sameF a a = true := by unfold sameF; cases nanB a <;> simp
theorem sameC_self (a : Nat × Nat) : sameC a a = true := by unfold sameC; rw [sameF_self, sameF_self]; rfl
theorem zero4_0 : zero4 (0, 0) (0, 0) (0, 0) (0, 0) = true := by unfold zero4; rw [sameC_self]; rfl
def iterK (body : St → Option (Ex × St)) (n : Nat) (x : Option (Ex × St)) : Option (Ex × St) := match x with
  | some (.normal, st) => iter body n st
  | r => r
theorem iter_one {body : St → Option (Ex × St)} (n : Nat) (st : St) : iter body (n + 1) st = iterK body n (body st) := rfl
@[congr] theorem iterK_congr {body : St → Option (Ex × St)} {n : Nat} {x y : Option (Ex × St)} (h : x = y) : iterK body n x = iterK body n y := by rw [h]
@[simp] theorem ik_normal (body : St → Option (Ex × St)) (n : Nat) (st : St) : iterK body n (some (.normal, st)) = iter body n st := rfl
@[simp] theorem ik_exit (body : St → Option (Ex × St)) (n i : Nat) (st : St) : iterK body n (some (.exit i, st)) = some (.exit i, st) := rfl
@[simp] theorem ik_ret (body : St → Option (Ex × St)) (n : Nat) (st : St) : iterK body n (some (.ret, st)) = some (.ret, st) := rfl
end Go.PS
namespace Go.Proofs.YtnccpffnffioeaaDoor
open Go Go.PS
theorem f67 (n a b : Nat) (hp : Heap) : evalCall Tryd.prog hints (n + 2) 67 [.raw (.float .f64 a), .raw (.float .f64 b)] hp = some (.bool (sameF a b), hp, false) := by
  have ea := f58 n a hp
  have eb := f58 n b hp
  rw [evalCall_at _ _ _ hh67 rfl Tryd.func67 rfl (Nat.le_of_ble_eq_true rfl) rfl]
  unfold sameF
  cases ha : nanB a <;> cases hb : nanB b <;> rw [ha] at ea <;> rw [hb] at eb
  · simp [ea, eb]
    rw [Bool.eq_iff_iff]; simp; omega
  all_goals simp [ea, eb]
theorem f65 (n a b : Nat) (hp : Heap) : evalCall Tryd.prog hints (n + 2) 65 [.raw (.float .f64 a), .raw (.float .f64 b)] hp = some (.bool (sameF a b), hp, false) := by
  have ea := f75 n a hp
  have eb := f75 n b hp
  rw [evalCall_at _ _ _ hh65 rfl Tryd.func65 rfl (Nat.le_of_ble_eq_true rfl) rfl]
  unfold sameF
  cases ha : nanB a <;> cases hb : nanB b <;> rw [ha] at ea <;> rw [hb] at eb
  · simp [ea, eb]
    rw [Bool.eq_iff_iff]; simp; omega
  all_goals simp [ea, eb]
theorem f55 (n : Nat) (p q : Nat × Nat) (hp : Heap) : evalCall Tryd.prog hints (n + 3) 55 [cx p, cx q] hp = some (.bool (sameC p q), hp, false) := by
  have e1 := f67 n p.1 q.1 hp
  have e2 := f67 n p.2 q.2 hp
  rw [evalCall_at _ _ _ hh55 rfl Tryd.func55 rfl (Nat.le_of_ble_eq_true rfl) rfl]
  unfold sameC
  cases h1 : sameF p.1 q.1 <;> rw [h1] at e1
  · simp [e1]
  · simp [e1, e2]
theorem f51 (n : Nat) (p q : Nat × Nat) (hp : Heap) : evalCall Tryd.prog hints (n + 3) 51 [cx p, cx q] hp = some (.bool (sameC p q), hp, false) := by
  have e1 := f65 n p.1 q.1 hp
  have e2 := f65 n p.2 q.2 hp
  rw [evalCall_at _ _ _ hh51 rfl Tryd.func51 rfl (Nat.le_of_ble_eq_true rfl) rfl]
  unfold sameC
  cases h1 : sameF p.1 q.1 <;> rw [h1] at e1
  · simp [e1]
  · simp [e1, e2]
theorem f54 (n : Nat) (p : Nat × Nat) (hp : Heap) : evalCall Tryd.prog hints (n + 4) 54 [cx p] hp = some (.bool (!sameC p (0, 0)), hp, false) := by
  have e1 := f55 n p (0, 0) hp
  rw [evalCall_at _ _ _ hh54 rfl Tryd.func54 rfl (Nat.le_of_ble_eq_true rfl) rfl]
  simp [e1]
set_option maxHeartbeats 2000000 in
theorem f66 (n : Nat) (z0 z1 z2 z3 : Nat × Nat) (hp : Heap) : ∃ i : Int, evalCall Tryd.prog hints (n + 20) 66 [.sl .sh 4 [cx z0, cx z1, cx z2, cx z3], .fn 54 []] hp = some (.int .i64 i, hp, false) ∧ (i < 0 ↔ zero4 z0 z1 z2 z3 = true) := by
  have e := fun p => f54 (n + 15) p hp
  rw [evalCall_at _ _ _ hh66 rfl Tryd.func66 rfl (Nat.le_of_ble_eq_true rfl) rfl]
  have e0 := e z0
  have e1 := e z1
  have e2 := e z2
  have e3 := e z3
  clear e
  unfold zero4
  generalize sameC z0 (0, 0) = s0 at *
  generalize sameC z1 (0, 0) = s1 at *
  generalize sameC z2 (0, 0) = s2 at *
  generalize sameC z3 (0, 0) = s3 at *
  have w0 := wrap_id (x := (1 : Int)) (by omega)
  have w1 := wrap_id (x := (2 : Int)) (by omega)
  have w2 := wrap_id (x := (3 : Int)) (by omega)
  have w3 := wrap_id (x := (4 : Int)) (by omega)
  cases s0
  · simp [iter_one, e0]
  · cases s1
    · simp [iter_one, e0, e1, w0]
    · cases s2
      · simp [iter_one, e0, e1, e2, w0, w1]
      · cases s3
        · simp [iter_one, e0, e1, e2, e3, w0, w1, w2]
        · simp [iter_one, e0, e1, e2, e3, w0, w1, w2, w3]
end Go.Proofs.YtnccpffnffioeaaDoor
end

section
namespace Go.PS
def rng (x : Int) : Bool := decide (0 ≤ x ∧ x ≤ 2147483647)
def mayE (e : Evt) : Bool :=
  if e.k = 1 then rng e.c && rng e.b && (e.d == []) && zero4 e.z0 e.z1 e.z2 e.z3
  else if e.k = 2 then rng e.c && (e.b == 0) && (e.d == [])
  else if e.k = 3 then (e.c == 0) && (e.b == 0) && zero4 e.z0 e.z1 e.z2 e.z3
  else false
end Go.PS
namespace Go.Proofs.YtnccpffnffioeaaDoor
open Go Go.PS
theorem f53 (n : Nat) (z0 z1 z2 z3 : Nat × Nat) (hp : Heap) : evalCall Tryd.prog hints (n + 21) 53 [.sl .sh 4 [cx z0, cx z1, cx z2, cx z3], .fn 54 []] hp = some (.bool (!zero4 z0 z1 z2 z3), hp, false) := by
  obtain ⟨i, e, hi⟩ := f66 n z0 z1 z2 z3 hp
  rw [evalCall_at _ _ _ hh53 rfl Tryd.func53 rfl (Nat.le_of_ble_eq_true rfl) rfl]
  cases hz : zero4 z0 z1 z2 z3
  · rw [hz] at hi
    have : 0 ≤ i := by
      rcases Int.lt_or_le i 0 with h | h
      · have := hi.1 h; cases this
      · exact h
    simp [e, this]
  · rw [hz] at hi
    have : ¬ (0 ≤ i) := by have := hi.2 rfl; omega
    simp [e, this]
theorem f34 (n : Nat) (z0 z1 z2 z3 : Nat × Nat) (hp : Heap) : evalCall Tryd.prog hints (n + 22) 34 [.agg [cx z0, cx z1, cx z2, cx z3]] hp = some (.bool (zero4 z0 z1 z2 z3), hp, false) := by
  have e := f53 n z0 z1 z2 z3 hp
  rw [evalCall_at _ _ _ hh34 rfl Tryd.func34 rfl (Nat.le_of_ble_eq_true rfl) rfl]
  simp [e]
set_option maxHeartbeats 2000000 in
theorem f48 (n : Nat) (z0 z1 z2 z3 : Nat × Nat) (hp : Heap) : evalCall Tryd.prog hints (n + 22) 48 [.agg [cx z0, cx z1, cx z2, cx z3]] hp = some (.bool (zero4 z0 z1 z2 z3), hp, false) := by
  have e := fun p => f51 (n + 18) p (0, 0) hp
  rw [evalCall_at _ _ _ hh48 rfl Tryd.func48 rfl (Nat.le_of_ble_eq_true rfl) rfl]
  have e0 := e z0
  have e1 := e z1
  have e2 := e z2
  have e3 := e z3
  clear e
  unfold zero4
  generalize sameC z0 (0, 0) = s0 at *
  generalize sameC z1 (0, 0) = s1 at *
  generalize sameC z2 (0, 0) = s2 at *
  generalize sameC z3 (0, 0) = s3 at *
  have w0 := wrap_id (x := (1 : Int)) (by omega)
  have w1 := wrap_id (x := (2 : Int)) (by omega)
  have w2 := wrap_id (x := (3 : Int)) (by omega)
  have w3 := wrap_id (x := (4 : Int)) (by omega)
  cases s0
  · simp [iter_one, e0]
  · cases s1
    · simp [iter_one, e0, e1, w0]
    · cases s2
      · simp [iter_one, e0, e1, e2, w0, w1]
      · cases s3
        · simp [iter_one, e0, e1, e2, e3, w0, w1, w2]
        · simp [iter_one, e0, e1, e2, e3, w0, w1, w2, w3]
set_option maxHeartbeats 4000000 in
theorem f18 (n : Nat) (e : Evt) (hp : Heap) : evalCall Tryd.prog hints (n + 23) 18 [.agg e.cells] hp = some (.bool (mayE e), hp, false) := by
  have ez := f34 n e.z0 e.z1 e.z2 e.z3 hp
  have ec := f33 (n + 21) e.c hp
  have eb := f33 (n + 21) e.b hp
  rw [evalCall_at _ _ _ hh18 rfl Tryd.func18 rfl (Nat.le_of_ble_eq_true rfl) rfl]
  obtain ⟨k, c, b, z0, z1, z2, z3, d⟩ := e
  unfold mayE Evt.cells
  simp only at ez ec eb ⊢
  change _ = some (PV.bool (rng c), hp, false) at ec
  change _ = some (PV.bool (rng b), hp, false) at eb
  generalize rng c = rc at *
  generalize rng b = rb at *
  generalize zero4 z0 z1 z2 z3 = zz at *
  by_cases k1 : k = 1
  · subst k1
    cases rc
    · simp [ec]
    · cases rb
      · simp [ec, eb]
      · cases hd : (d == [])
        · simp [ec, eb, hd]
        · simp [ec, eb, hd, ez]
  · have k1' : ((k : Int) == 1) = false := by simp; omega
    rw [if_neg k1]
    by_cases k2 : k = 2
    · subst k2
      cases rc
      · simp [ec]
      · cases hb : (b == 0)
        · simp [ec, hb]
        · simp [ec, hb]
    · have k2' : ((k : Int) == 2) = false := by simp; omega
      rw [if_neg k2]
      by_cases k3 : k = 3
      · subst k3
        cases hc : (c == 0)
        · simp [hc]
        · cases hb : (b == 0)
          · simp [hc, hb]
          · simp [hc, hb, ez]
      · have k3' : ((k : Int) == 3) = false := by simp; omega
        rw [if_neg k3]
        simp [k1', k2', k3']
set_option maxHeartbeats 4000000 in
theorem f28 (n : Nat) (e : Evt) (hp : Heap) : evalCall Tryd.prog hints (n + 23) 28 [.agg e.cells] hp = some (.bool (mayE e), hp, false) := by
  have ez := f48 n e.z0 e.z1 e.z2 e.z3 hp
  have ec := f47 (n + 21) e.c hp
  have eb := f47 (n + 21) e.b hp
  rw [evalCall_at _ _ _ hh28 rfl Tryd.func28 rfl (Nat.le_of_ble_eq_true rfl) rfl]
  obtain ⟨k, c, b, z0, z1, z2, z3, d⟩ := e
  unfold mayE Evt.cells
  simp only at ez ec eb ⊢
  change _ = some (PV.bool (rng c), hp, false) at ec
  change _ = some (PV.bool (rng b), hp, false) at eb
  generalize rng c = rc at *
  generalize rng b = rb at *
  generalize zero4 z0 z1 z2 z3 = zz at *
  by_cases k1 : k = 1
  · subst k1
    cases rc
    · simp [ec]
    · cases rb
      · simp [ec, eb]
      · cases hd : (d == [])
        · simp [ec, eb, hd]
        · simp [ec, eb, hd, ez]
  · have k1' : ((k : Int) == 1) = false := by simp; omega
    rw [if_neg k1]
    by_cases k2 : k = 2
    · subst k2
      cases rc
      · simp [ec]
      · cases hb : (b == 0)
        · simp [ec, hb]
        · simp [ec, hb]
    · have k2' : ((k : Int) == 2) = false := by simp; omega
      rw [if_neg k2]
      by_cases k3 : k = 3
      · subst k3
        cases hc : (c == 0)
        · simp [hc]
        · cases hb : (b == 0)
          · simp [hc, hb]
          · simp [hc, hb, ez]
      · have k3' : ((k : Int) == 3) = false := by simp; omega
        rw [if_neg k3]
        simp [k1', k2', k3']
end Go.Proofs.YtnccpffnffioeaaDoor
end

section
namespace Go.PS
def wByte : List UInt8 := [98, 121, 116, 101]
def wTone : List UInt8 := [116, 111, 110, 101]
def wPacket : List UInt8 := [112, 97, 99, 107, 101, 116]
def decI (x : Int) : List UInt8 := Lib.decDigits x.toNat
def tones (e : Evt) : List UInt8 :=
  [32] ++ bitsL e.z0.1 ++ [32] ++ bitsL e.z0.2 ++ ([32] ++ bitsL e.z1.1 ++ [32] ++ bitsL e.z1.2 ++ ([32] ++ bitsL e.z2.1 ++ [32] ++ bitsL e.z2.2 ++ ([32] ++ bitsL e.z3.1 ++ [32] ++ bitsL e.z3.2)))
def lineE (e : Evt) : List UInt8 :=
  if e.k = 1 then wByte ++ [32] ++ decI e.c ++ [32] ++ decI e.b
  else if e.k = 3 then wPacket ++ [32] ++ hexP e.d
  else wTone ++ [32] ++ decI e.c ++ tones e
theorem sml {a : Nat} (h : a ≤ 1000000) (j : Nat) : (a ≤ j + 9223372036854770000) = True := by simp; omega
structure OkE (e : Evt) : Prop where
  may : mayE e = true
  d : e.d.length ≤ 3000
  z : e.z0.1 < 18446744073709551616 ∧ e.z0.2 < 18446744073709551616 ∧ e.z1.1 < 18446744073709551616 ∧ e.z1.2 < 18446744073709551616 ∧ e.z2.1 < 18446744073709551616 ∧ e.z2.2 < 18446744073709551616 ∧ e.z3.1 < 18446744073709551616 ∧ e.z3.2 < 18446744073709551616
theorem bitsL_len (n : Nat) : (bitsL n).length = 16 := hex16_len _
theorem hexP_len (s : List UInt8) : (hexP s).length ≤ 2 * s.length + 1 := by
  unfold hexP
  split
  · simp
  · rw [hexL_len]; omega
theorem decI_len {x : Int} (h : rng x = true) : (decI x).length ≤ 10 := by
  unfold rng at h
  simp at h
  unfold decI
  rw [Lib.decDigits_length]
  have e : (10 : Nat) ^ (9 + 1) = 10000000000 := by decide
  exact nDigits_le 9 _ (by omega)
theorem OkE.kind {e : Evt} (h : OkE e) : (e.k = 1 ∧ rng e.c = true ∧ rng e.b = true) ∨ (e.k = 2 ∧ rng e.c = true) ∨ e.k = 3 := by
  have := h.may
  unfold mayE at this
  by_cases k1 : e.k = 1
  · rw [if_pos k1] at this
    simp at this
    exact .inl ⟨k1, this.1.1.1, this.1.1.2⟩
  · rw [if_neg k1] at this
    by_cases k2 : e.k = 2
    · rw [if_pos k2] at this
      simp at this
      exact .inr (.inl ⟨k2, this.1.1⟩)
    · rw [if_neg k2] at this
      by_cases k3 : e.k = 3
      · exact .inr (.inr k3)
      · rw [if_neg k3] at this; cases this
end Go.PS
namespace Go.Proofs.YtnccpffnffioeaaDoor
open Go Go.PS
theorem f35 (n : Nat) (x : Int) (hp : Heap) (h : rng x = true) : evalCall Tryd.prog hints (n + 1) 35 [.int .i64 x] hp = some (.str (decI x), hp, false) := by
  show primCall (5, 0) [.int .i64 x] hp = _
  unfold rng at h
  simp at h
  have h1 : x ≤ 9223372036854775807 := by omega
  simp [primCall, h, h1, decI]
theorem f37 (n : Nat) (xs : List (List UInt8)) (cs : List PV) (k : Nat) (sep : List UInt8) (hp : Heap) (hk : xs.length = k) (hc : strsOf cs = some xs) (h0 : 0 < k) (h1 : k ≤ 1000) (h2 : (Lib.join xs sep).length ≤ 140737488355328) : evalCall Tryd.prog hints (n + 1) 37 [.sl .sh k cs, .str sep] hp = some (.str (Lib.join xs sep), hp, false) := by
  show primCall (4, 0) [.sl .sh k cs, .str sep] hp = _
  have h3 : k ≤ 140737488355328 := by omega
  simp [primCall, hc, hk, h0, h2, h3]
set_option maxHeartbeats 4000000 in
theorem f19 (n : Nat) (e : Evt) (hp : Heap) (h : OkE e) (hn : 5010 < n) : ∃ hp', evalCall Tryd.prog hints (n + 20) 19 [.agg e.cells] hp = some (.str (lineE e ++ [10]), hp', false) := by
  obtain ⟨m, rfl⟩ : ∃ m, n = m + 10 := ⟨n - 10, by omega⟩
  obtain ⟨h17, e17⟩ := f17 (m + 28) e.d hp h.d (by omega)
  have e35 := fun x h => f35 (m + 28) x hp h
  have e36 := fun a h => f36 (m + 27) a hp h (by omega)
  have e37 := fun xs cs k h1 h2 h3 h4 h5 => f37 (m + 28) xs cs k [32] hp h1 h2 h3 h4 h5
  have hkind := h.kind
  have hz := h.z
  have hd := h.d
  have ld := hexP_len e.d
  rw [evalCall_at _ _ _ hh19 rfl Tryd.func19 rfl (Nat.le_of_ble_eq_true rfl) rfl]
  obtain ⟨k, c, b, z0, z1, z2, z3, d⟩ := e
  unfold lineE Evt.cells
  simp only at e17 hkind hz hd ld ⊢
  clear h
  rcases hkind with ⟨rfl, hc, hb⟩ | ⟨rfl, hc⟩ | rfl
  · have lc := decI_len hc
    have lb := decI_len hb
    have ec := e35 c hc
    have eb := e35 b hb
    generalize decI c = dc at *
    generalize decI b = db at *
    have hj : Lib.join [wByte, dc, db] [32] = wByte ++ [32] ++ dc ++ [32] ++ db := by simp [Lib.join_cons, Lib.joinTail]
    have ej := e37 [wByte, dc, db] [.str wByte, .str dc, .str db] 3 rfl rfl (by omega) (by omega) (by rw [hj]; simp [wByte]; omega)
    rw [hj] at ej
    simp only [wByte, List.append_assoc, List.cons_append, List.nil_append] at ej
    have l1 : dc.length + (db.length + 1) ≤ 9223372036854775801 := by omega
    simp [ec, eb, ej, wByte, l1]
  · have lc := decI_len hc
    have ec := e35 c hc
    obtain ⟨q1, q2, q3, q4, q5, q6, q7, q8⟩ := hz
    have b1 := e36 z0.1 q1
    have b2 := e36 z0.2 q2
    have b3 := e36 z1.1 q3
    have b4 := e36 z1.2 q4
    have b5 := e36 z2.1 q5
    have b6 := e36 z2.2 q6
    have b7 := e36 z3.1 q7
    have b8 := e36 z3.2 q8
    have r1 := bitsL_len z0.1
    have r2 := bitsL_len z0.2
    have r3 := bitsL_len z1.1
    have r4 := bitsL_len z1.2
    have r5 := bitsL_len z2.1
    have r6 := bitsL_len z2.2
    have r7 := bitsL_len z3.1
    have r8 := bitsL_len z3.2
    unfold tones
    generalize decI c = dc at *
    generalize bitsL z0.1 = y1 at *
    generalize bitsL z0.2 = y2 at *
    generalize bitsL z1.1 = y3 at *
    generalize bitsL z1.2 = y4 at *
    generalize bitsL z2.1 = y5 at *
    generalize bitsL z2.2 = y6 at *
    generalize bitsL z3.1 = y7 at *
    generalize bitsL z3.2 = y8 at *
    have hj : Lib.join [wTone, dc, y1, y2, y3, y4, y5, y6, y7, y8] [32] = wTone ++ [32] ++ dc ++ ([32] ++ y1 ++ [32] ++ y2 ++ ([32] ++ y3 ++ [32] ++ y4 ++ ([32] ++ y5 ++ [32] ++ y6 ++ ([32] ++ y7 ++ [32] ++ y8)))) := by simp [Lib.join_cons, Lib.joinTail]
    have ej := e37 [wTone, dc, y1, y2, y3, y4, y5, y6, y7, y8] [.str wTone, .str dc, .str y1, .str y2, .str y3, .str y4, .str y5, .str y6, .str y7, .str y8] 10 rfl rfl (by omega) (by omega) (by rw [hj]; simp [wTone]; omega)
    rw [hj] at ej
    simp only [wTone, List.append_assoc, List.cons_append, List.nil_append] at ej
    have w0 := wrap_id (x := (1 : Int)) (by omega)
    have w1 := wrap_id (x := (2 : Int)) (by omega)
    have w2 := wrap_id (x := (3 : Int)) (by omega)
    have w3 := wrap_id (x := (4 : Int)) (by omega)
    have l1 : dc.length + (y1.length + (y2.length + (y3.length + (y4.length + (y5.length + (y6.length + (y7.length + (y8.length + 1) + 1) + 1) + 1) + 1) + 1) + 1) + 1) ≤ 9223372036854775801 := by omega
    simp [iter_one, ec, ej, wTone, b1, b2, b3, b4, b5, b6, b7, b8, w0, w1, w2, w3, l1]
  · generalize hexP d = dd at *
    have hj : Lib.join [wPacket, dd] [32] = wPacket ++ [32] ++ dd := by simp [Lib.join_cons, Lib.joinTail]
    have ej := e37 [wPacket, dd] [.str wPacket, .str dd] 2 rfl rfl (by omega) (by omega) (by rw [hj]; simp [wPacket]; omega)
    rw [hj] at ej
    simp only [wPacket, List.append_assoc, List.cons_append, List.nil_append] at ej
    have l1 : dd.length ≤ 9223372036854775799 := by omega
    simp [e17, ej, wPacket, l1]
set_option maxHeartbeats 4000000 in
theorem f29 (n : Nat) (e : Evt) (hp : Heap) (h : OkE e) (hn : 5010 < n) : evalCall Tryd.prog hints (n + 20) 29 [.agg e.cells] hp = some (.str (lineE e), hp, false) := by
  obtain ⟨m, rfl⟩ : ∃ m, n = m + 10 := ⟨n - 10, by omega⟩
  have e25 := f25 (m + 27) e.d hp h.d (by omega)
  have e49 := fun (x : Int) (h : rng x = true) => f49 (m + 28) x.toNat hp (by unfold rng at h; simp at h; omega) (by omega)
  have e50 := fun a h => f50 (m + 27) a hp h (by omega)
  have hkind := h.kind
  have hz := h.z
  have hd := h.d
  have ld := hexP_len e.d
  rw [evalCall_at _ _ _ hh29 rfl Tryd.func29 rfl (Nat.le_of_ble_eq_true rfl) rfl]
  obtain ⟨k, c, b, z0, z1, z2, z3, d⟩ := e
  unfold lineE Evt.cells
  simp only at e25 hkind hz hd ld ⊢
  clear h
  have nn : ∀ x : Int, rng x = true → (x.toNat : Int) = x := fun x h => by unfold rng at h; simp at h; omega
  rcases hkind with ⟨rfl, hc, hb⟩ | ⟨rfl, hc⟩ | rfl
  · have lc := decI_len hc
    have lb := decI_len hb
    have ec := e49 c hc
    have eb := e49 b hb
    rw [nn c hc] at ec
    rw [nn b hb] at eb
    unfold decI at lc lb ⊢
    generalize Lib.decDigits c.toNat = dc at *
    generalize Lib.decDigits b.toNat = db at *
    have l1 : 5 + dc.length ≤ 9223372036854775807 := by omega
    have l2 := sml (a := dc.length) (by omega)
    have l3 : dc.length + 1 + 1 + 1 + 1 + 1 + 1 + db.length ≤ 9223372036854775807 := by omega
    simp [ec, eb, wByte, l1, l2, l3]
  · have lc := decI_len hc
    have ec := e49 c hc
    rw [nn c hc] at ec
    obtain ⟨q1, q2, q3, q4, q5, q6, q7, q8⟩ := hz
    have b1 := e50 z0.1 q1
    have b2 := e50 z0.2 q2
    have b3 := e50 z1.1 q3
    have b4 := e50 z1.2 q4
    have b5 := e50 z2.1 q5
    have b6 := e50 z2.2 q6
    have b7 := e50 z3.1 q7
    have b8 := e50 z3.2 q8
    have r1 := bitsL_len z0.1
    have r2 := bitsL_len z0.2
    have r3 := bitsL_len z1.1
    have r4 := bitsL_len z1.2
    have r5 := bitsL_len z2.1
    have r6 := bitsL_len z2.2
    have r7 := bitsL_len z3.1
    have r8 := bitsL_len z3.2
    unfold tones
    unfold decI at lc ⊢
    generalize Lib.decDigits c.toNat = dc at *
    generalize bitsL z0.1 = y1 at *
    generalize bitsL z0.2 = y2 at *
    generalize bitsL z1.1 = y3 at *
    generalize bitsL z1.2 = y4 at *
    generalize bitsL z2.1 = y5 at *
    generalize bitsL z2.2 = y6 at *
    generalize bitsL z3.1 = y7 at *
    generalize bitsL z3.2 = y8 at *
    have w0 := wrap_id (x := (1 : Int)) (by omega)
    have w1 := wrap_id (x := (2 : Int)) (by omega)
    have w2 := wrap_id (x := (3 : Int)) (by omega)
    have w3 := wrap_id (x := (4 : Int)) (by omega)
    have l1 : 5 + dc.length ≤ 9223372036854775807 := by omega
    have l2 := sml (a := dc.length) (by omega)
    simp [iter_one, ec, wTone, l1, l2, r1, r2, r3, r4, r5, r6, r7, r8, b1, b2, b3, b4, b5, b6, b7, b8, w0, w1, w2, w3]
  · generalize hexP d = dd at *
    have l1 : 7 + dd.length ≤ 9223372036854775807 := by omega
    simp [e25, wPacket, l1]
end Go.Proofs.YtnccpffnffioeaaDoor
end

section
namespace Go.PS
def preW (w : List UInt8) : List (List UInt8) → List (List UInt8)
  | [] => [w]
  | x :: r => (w ++ x) :: r
theorem splitL_ne (c : UInt8) (l : List UInt8) : splitL c l ≠ [] := by
  cases l with
  | nil => simp [splitL]
  | cons b r =>
    unfold splitL
    split
    · simp
    · split <;> simp
theorem preW_cut (c : UInt8) (w : List UInt8) (r : List UInt8) : preW w (splitL c (c :: r)) = w :: splitL c r := by
  rw [splitL]; simp [preW]
theorem preW_on (c b : UInt8) (h : b ≠ c) (w r : List UInt8) : preW w (splitL c (b :: r)) = preW (w ++ [b]) (splitL c r) := by
  have hb : (b == c) = false := by simpa using h
  have hn := splitL_ne c r
  rw [splitL, hb]
  simp only [Bool.false_eq_true, if_false]
  cases h2 : splitL c r with
  | nil => exact (hn h2).elim
  | cons x y => simp [preW]
theorem preW_nil (l : List (List UInt8)) (h : l ≠ []) : preW [] l = l := by
  cases l with
  | nil => exact (h rfl).elim
  | cons x y => rfl
theorem splitL_len (c : UInt8) (l : List UInt8) : (splitL c l).length ≤ l.length + 1 := by
  induction l with
  | nil => simp [splitL]
  | cons b r ih =>
    unfold splitL
    split
    · simp; omega
    · split
      · simp
      · rename_i h; rw [h] at ih; simp at ih ⊢; omega
theorem splitL_mem (c : UInt8) (l w : List UInt8) (h : w ∈ splitL c l) : w.length ≤ l.length := by
  induction l generalizing w with
  | nil => simp [splitL] at h; simp [h]
  | cons b r ih =>
    unfold splitL at h
    split at h
    · simp at h
      rcases h with rfl | h
      · simp
      · have := ih w h; simp; omega
    · split at h
      · simp at h; simp [h]
      · rename_i x y hxy
        rw [hxy] at ih
        simp at h
        rcases h with rfl | h
        · have := ih x (by simp); simp; omega
        · have := ih w (by simp [h]); simp; omega
structure RdS where
  i : Nat
  l : List UInt8
  ws : List (List UInt8)
  w : List UInt8
end Go.PS
namespace Go.Proofs.YtnccpffnffioeaaDoor
open Go Go.PS
theorem f9 (n : Nat) (s : List UInt8) (c : UInt8) (hp : Heap) (hs : s.length ≤ 3000) : evalCall Tryd.prog hints (n + 1) 9 [.str s, .str [c]] hp = some (.sl (.mu 1) (splitL c s).length ((splitL c s).map .str), hp, false) := by
  show primCall (3, 0) [.str s, .str [c]] hp = _
  have h : s.length ≤ 4000000000 := by omega
  simp [primCall, h]
set_option maxHeartbeats 2000000 in
theorem f11 (n : Nat) (s : List UInt8) (c : UInt8) (hp : Heap) (hs : s.length ≤ 3000) (hn : 5000 < n) : evalCall Tryd.prog hints (n + 1) 11 [.str s, .int .u8 c.toNat] hp = some (.sl (.mu 1) (splitL c s).length ((splitL c s).map .str), hp, false) := by
  rw [evalCall_at _ _ _ hh11 rfl Tryd.func11 rfl (Nat.le_of_ble_eq_true rfl) rfl]
  simp
  generalize hit : iter _ _ _ = r
  refine iter_elim hit (fun x : RdS => { fr := [(0, .str s), (1, .int .u8 c.toNat), (5, .sl (.mu 1) x.ws.length (x.ws.map .str)), (6, .str x.w), (7, .int .i64 x.i)], hp := hp, base := hp.length, dirty := false })
    (fun x => s.drop x.i = x.l ∧ x.ws.length ≤ x.i ∧ x.w.length ≤ x.i ∧ x.i ≤ s.length ∧ splitL c s = x.ws ++ preW x.w (splitL c x.l)) (fun x => x.l.length)
    (fun x : RdS => (.exit 0, { fr := [(0, .str s), (1, .int .u8 c.toNat), (5, .sl (.mu 1) x.ws.length (x.ws.map .str)), (6, .str x.w), (7, .int .i64 s.length), (12, .bool false)], hp := hp, base := hp.length, dirty := false }))
    (fun x => splitL c s = x.ws ++ [x.w] ∧ x.ws.length ≤ s.length) ⟨0, s, [], []⟩ rfl ⟨rfl, Nat.le_refl 0, Nat.zero_le _, Nat.zero_le _, (preW_nil _ (splitL_ne c s)).symm⟩ (by show s.length < _; omega) ?_ ?_
  · rintro ⟨i, l, ws, w⟩ ⟨j1, j2, j3, j4, j5⟩
    simp only at j1 j2 j3 j4 j5
    have hll := congrArg List.length j1
    rw [List.length_drop] at hll
    cases l with
    | nil =>
      right
      have hi : i = s.length := by simp at hll; omega
      subst hi
      refine ⟨⟨s.length, [], ws, w⟩, ?_, by simp, ?_, by show ws.length ≤ _; omega⟩
      · simp
      · rw [j5]; simp [splitL, preW]
    | cons b r =>
      obtain ⟨gb, lb, d2⟩ := str_drop_cons j1
      have lb' : (i : Int) < s.length := by omega
      have w2 := wrap_id (x := (i : Int) + 1) (by omega)
      left
      by_cases hb : b = c
      · subst hb
        have lf : ws.length + 1 ≤ 8796093022208 := by omega
        refine ⟨⟨i + 1, r, ws ++ [w], []⟩, ?_, ⟨d2, ?_, Nat.zero_le _, by show i + 1 ≤ _; omega, ?_⟩, ?_⟩
        · have ls : (ws.length + 1) * 16 ≤ 140737488355328 := by omega
          simp [-getElem?_pos, lb, lb', gb, w2, ls]
        · show (ws ++ [w]).length ≤ i + 1
          rw [List.length_append]; simp only [List.length_cons, List.length_nil]; omega
        · show splitL b s = (ws ++ [w]) ++ preW [] (splitL b r)
          rw [j5, preW_cut, preW_nil _ (splitL_ne b r)]; simp
        · show r.length < (b :: r).length
          simp
      · have hb' : ((b.toNat : Int) == c.toNat) = false := by
          simp; intro h; exact hb (UInt8.toNat_inj.1 (by omega))
        refine ⟨⟨i + 1, r, ws, w ++ [b]⟩, ?_, ⟨d2, by show ws.length ≤ i + 1; omega, ?_, by show i + 1 ≤ _; omega, ?_⟩, ?_⟩
        · have n1 : (0 : Int) ≤ (i : Int) + 1 := by omega
          have n2 : ((i : Int) + 1).toNat = i + 1 := by omega
          have n3 : (i : Int) + 1 ≤ s.length := by omega
          have n4 : (i : Int) ≤ (i : Int) + 1 := by omega
          have lw : w.length + 1 ≤ 9223372036854775807 := by omega
          have tk : (s.drop i).take (i + 1 - i) = [b] := by rw [j1]; simp
          have tk2 : (s.drop i).take 1 = [b] := by rw [j1]; simp
          simp [-getElem?_pos, lb, lb', gb, w2, hb', n1, n2, n3, n4, tk, tk2, lw]
        · show (w ++ [b]).length ≤ i + 1
          rw [List.length_append]; simp only [List.length_cons, List.length_nil]; omega
        · show splitL c s = ws ++ preW (w ++ [b]) (splitL c r)
          rw [j5, preW_on c b hb]
        · show r.length < (b :: r).length
          simp
  · rintro ⟨i, l, ws, w⟩ hr ⟨h1, h2⟩
    simp only at h1 h2
    subst hr
    rw [h1]
    have ls : (ws.length + 1) * 16 ≤ 140737488355328 := by omega
    simp [ls]
end Go.Proofs.YtnccpffnffioeaaDoor
end

section
namespace Go.PS
/-- The document's words with bytes. -/
def blobW (ws : List (List UInt8)) (s word : List UInt8) : List UInt8 × Bool := match ws with
  | [a, b] => if a = word then (dataL b, word ++ [32] ++ hexP (dataL b) == s) else ([], false)
  | _ => ([], false)
def blobR (s word : List UInt8) : List UInt8 × Bool := blobW (splitL 32 s) s word
theorem blobW_ne {ws : List (List UInt8)} {s word : List UInt8} (h : ws.length ≠ 2) : blobW ws s word = ([], false) := by
  match ws, h with
  | [], _ => rfl
  | [_], _ => rfl
  | [_, _], h => exact (h rfl).elim
  | _ :: _ :: _ :: _, _ => rfl
theorem dataL_len : ∀ l : List UInt8, (dataL l).length ≤ l.length
  | [] => by simp [dataL]
  | [_] => by simp [dataL]
  | a :: b :: r => by have := dataL_len r; simp [dataL]; omega
def nth (ws : List (List UInt8)) (i : Nat) : List UInt8 := ws.getD i []
def E0 : Evt := ⟨0, 0, 0, (0, 0), (0, 0), (0, 0), (0, 0), []⟩
/-- The document's event. -/
def rdE (ws : List (List UInt8)) : Evt :=
  if nth ws 0 = wByte ∧ ws.length = 3 then ⟨1, numR (nth ws 1), numR (nth ws 2), (0, 0), (0, 0), (0, 0), (0, 0), []⟩
  else if nth ws 0 = wPacket ∧ ws.length = 2 then ⟨3, 0, 0, (0, 0), (0, 0), (0, 0), (0, 0), dataL (nth ws 1)⟩
  else if nth ws 0 = wTone ∧ ws.length = 10 then ⟨2, numR (nth ws 1), 0, (fltR (nth ws 2), fltR (nth ws 3)), (fltR (nth ws 4), fltR (nth ws 5)), (fltR (nth ws 6), fltR (nth ws 7)), (fltR (nth ws 8), fltR (nth ws 9)), []⟩
  else E0
def readR (s : List UInt8) : Evt × Bool := (rdE (splitL 32 s), mayE (rdE (splitL 32 s)) && (lineE (rdE (splitL 32 s)) == s))
theorem hexW_lt : ∀ (l : List UInt8) (a k : Nat), a < 16 ^ k → hexW a l < 16 ^ (k + l.length)
  | [], a, k, h => h
  | c :: r, a, k, h => by
    have hd := digV_lt c
    have := hexW_lt r (16 * a + digV c) (k + 1) (by rw [Nat.pow_succ]; omega)
    rw [List.length_cons, show k + (r.length + 1) = k + 1 + r.length by omega]
    exact this
theorem fltR_lt (s : List UInt8) : fltR s < 18446744073709551616 := by
  have h := hexW_lt (s.take 16) 0 0 (by decide)
  have h2 : (16 : Nat) ^ (0 + (s.take 16).length) ≤ 16 ^ 16 := Nat.pow_le_pow_right (by omega) (by rw [List.length_take]; omega)
  have e : (16 : Nat) ^ 16 = 18446744073709551616 := by decide
  unfold fltR
  omega
end Go.PS
namespace Go.Proofs.YtnccpffnffioeaaDoor
open Go Go.PS
set_option maxHeartbeats 2000000 in
theorem f12 (n : Nat) (s word : List UInt8) (hp : Heap) (hs : s.length ≤ 3000) (hw : word.length ≤ 100) (hn : 5000 < n) : evalCall Tryd.prog hints (n + 10) 12 [.str s, .str word] hp = some (.tup [.str (blobR s word).1, .bool (blobR s word).2], hp, false) := by
  have e11 := f11 (n + 8) s 32 hp hs (by omega)
  rw [evalCall_at _ _ _ hh12 rfl Tryd.func12 rfl (Nat.le_of_ble_eq_true rfl) rfl]
  have hm : ∀ w, w ∈ splitL 32 s → w.length ≤ 3000 := fun w h => Nat.le_trans (splitL_mem 32 s w h) hs
  unfold blobR
  rw [show (UInt8.toNat 32 : Int) = 32 from rfl] at e11
  generalize splitL 32 s = ws at *
  by_cases h2 : ws.length = 2
  · obtain ⟨a, b, rfl⟩ : ∃ a b, ws = [a, b] := by
      match ws, h2 with
      | [a, b], _ => exact ⟨a, b, rfl⟩
    simp only [List.map_cons, List.map_nil, List.length_cons, List.length_nil] at e11
    by_cases ha : a = word
    · have ha' : (a == word) = true := by simpa using ha
      have lb := hm b (by simp)
      have e24 := f24 (n + 6) b hp lb (by omega)
      have e25 := f25 (n + 7) (dataL b) hp (by have := dataL_len b; omega) (by omega)
      have lh := hexP_len (dataL b)
      have ld := dataL_len b
      simp only [blobW, if_pos ha]
      subst ha
      generalize hexP (dataL b) = hx at *
      generalize dataL b = db at *
      have l1 : a.length + 1 ≤ 9223372036854775807 := by omega
      have l2 : a.length + 1 + hx.length ≤ 9223372036854775807 := by omega
      simp [e11, e24, e25, l1, l2]
    · have ha' : (a == word) = false := by simpa using ha
      simp only [blobW, if_neg ha]
      simp [e11, ha']
  · have h2' : ((ws.length : Int) != 2) = true := by simp; omega
    rw [blobW_ne h2]
    simp [e11, h2']
end Go.Proofs.YtnccpffnffioeaaDoor
end
