/-
  What functions of this program compute, as equations about the evaluator. No condition but those stated.
-/
import Derived.Test.YtaiiboplopljoaaGreatEqsI
import Derived.Test.YtaiiboplopljoaaGreatEqsU
import Derived.Test.YtaiiboplopljoaaGreatEqsP

set_option linter.all false
section
namespace Go.Proofs.YtaiiboplopljoaaGreat
open Go Go.PS
/-- A number's two bytes. -/
def b2 (n : Int) : List UInt8 := [UInt8.ofNat (n.toNat % 256), UInt8.ofNat (n.toNat / 256 % 256)]
/-- Numbers as bytes, one or two each. -/
def bytesN (l : List F2) : List UInt8 := l.flatMap fun x => (b2 x.r).take x.k.toNat
def okF (x : F2) : Bool := decide (0 ≤ x.r ∧ (x.k = 1 → x.r ≤ 255) ∧ x.r ≤ 65535)
theorem bytesN_append (a b : List F2) : bytesN (a ++ b) = bytesN a ++ bytesN b := by unfold bytesN; rw [List.flatMap_append]
end Go.Proofs.YtaiiboplopljoaaGreat
end

section
namespace Go.Proofs.YtaiiboplopljoaaGreat
open Go Go.PS
/-- Heaps that have a writer at j, and are alike but for it. -/
structure WrH (j : Nat) (HW : Nat → List UInt8 → Heap) : Prop where
  get : ∀ t l, (HW t l)[j]? = some (.cells [.int .i64 0, .sl (.mu t) l.length (ofBytes l)])
  set : ∀ t l l', (HW t l).set j (.cells [.int .i64 0, .sl (.mu 1) l'.length (ofBytes l')]) = HW 1 l'
theorem WrH.lt {j : Nat} {HW : Nat → List UInt8 → Heap} (h : WrH j HW) (t : Nat) (l : List UInt8) : j < (HW t l).length := by
  rcases Nat.lt_or_ge j (HW t l).length with c | c
  · exact c
  · have := h.get t l
    rw [List.getElem?_eq_none c] at this; cases this
theorem ofBytes_len (l : List UInt8) : (ofBytes l).length = l.length := by unfold ofBytes; simp
theorem ofBytes_app (a b : List UInt8) : ofBytes (a ++ b) = ofBytes a ++ ofBytes b := by unfold ofBytes; simp
theorem ofBytes_st (l : List UInt8) : (ofBytes l).all storable = true := by unfold ofBytes; simp
theorem ofBytes_out (l : List UInt8) : (ofBytes l).map outCell = ofBytes l := by unfold ofBytes; simp
theorem bytesOf_of : ∀ l : List UInt8, bytesOf (ofBytes l) = some l
  | [] => rfl
  | a :: l => by
    have := bytesOf_of l
    unfold ofBytes at *
    rw [List.map_cons, bytesOf, this]
    simp
set_option maxHeartbeats 1000000 in
theorem f61 (n j t : Nat) (l bs : List UInt8) (HW : Nat → List UInt8 → Heap) (h : WrH j HW) (ht : t = 1 ∨ t = 0 ∧ l = []) (hl : l.length ≤ 100000) (hb : bs.length ≤ 100) : evalCall Tryz.prog hints (n + 1) 61 [.ptr (.heap j) none 0, .bool true, .sl .sh bs.length (ofBytes bs)] (HW t l) = some (.tup [], HW 1 (l ++ bs), true) := by
  rw [evalCall_at _ _ _ hh61 rfl Tryz.func61 rfl (Nat.le_of_ble_eq_true rfl) rfl]
  have g := h.get t l
  have st := h.set t l (l ++ bs)
  have lt := h.lt t l
  rw [ofBytes_app, List.length_append] at st
  have l1 := ofBytes_len l
  have l2 := ofBytes_len bs
  have s2 := ofBytes_st bs
  have o2 := ofBytes_out bs
  have s1 := ofBytes_st l
  have tt : t = 1 ∨ t = 0 ∧ l.length = 0 := by
    rcases ht with h | ⟨h1, h2⟩
    · exact .inl h
    · exact .inr ⟨h1, by rw [h2]; rfl⟩
  have m1 : (l.length + bs.length) ≤ 140737488355328 := by omega
  generalize ofBytes l = X at *
  generalize ofBytes bs = Y at *
  generalize l.length = L at *
  generalize bs.length = B at *
  generalize HW 1 (l ++ bs) = H' at *
  generalize HW t l = H at *
  simp [-getElem?_pos, List.getElem?_cons_zero, List.getElem?_cons_succ, -List.all_eq_true, g, st, lt, l1, l2, s1, s2, o2, tt, m1]
end Go.Proofs.YtaiiboplopljoaaGreat
end

section
namespace Go.Proofs.YtaiiboplopljoaaGreat
open Go Go.PS
def b1 (n : Int) : List UInt8 := [UInt8.ofNat (n.toNat % 256)]
theorem b1_of (n : Int) (h0 : 0 ≤ n) (h : n ≤ 255) : ofBytes (b1 n) = [.int .u8 (n % 256)] := by
  unfold b1 ofBytes
  simp
  omega
theorem b2_of (n : Int) (h0 : 0 ≤ n) (h : n ≤ 65535) : ofBytes (b2 n) = [.int .u8 (n % 256), .int .u8 (n / 256 % 256)] := by
  unfold b2 ofBytes
  simp
  omega
def inR (n m : Int) : Prop := 0 ≤ n ∧ n ≤ m
set_option maxHeartbeats 1000000 in
theorem f31 (n j t : Nat) (l : List UInt8) (x : Int) (HW : Nat → List UInt8 → Heap) (h : WrH j HW) (ht : t = 1 ∨ t = 0 ∧ l = []) (hl : l.length ≤ 100000) (hx : inR x 255) : evalCall Tryz.prog hints (n + 2) 31 [.ptr (.heap j) none 0, .int .i64 x] (HW t l) = some (.tup [], HW 1 (l ++ b1 x), true) := by
  have e := f61 n j t l (b1 x) HW h ht hl (by simp [b1])
  obtain ⟨h0, h1⟩ := hx
  rw [b1_of x h0 h1] at e
  have hlen : (b1 x).length = 1 := rfl
  rw [hlen] at e
  rw [evalCall_at _ _ _ hh31 rfl Tryz.func31 rfl (Nat.le_of_ble_eq_true rfl) rfl]
  generalize HW 1 (l ++ b1 x) = H' at *
  generalize HW t l = H at *
  simp [-getElem?_pos, List.getElem?_cons_zero, List.getElem?_cons_succ, h0, h1, e]
set_option maxHeartbeats 1000000 in
theorem f32 (n j t : Nat) (l : List UInt8) (x : Int) (HW : Nat → List UInt8 → Heap) (h : WrH j HW) (ht : t = 1 ∨ t = 0 ∧ l = []) (hl : l.length ≤ 100000) (hx : inR x 65535) : evalCall Tryz.prog hints (n + 2) 32 [.ptr (.heap j) none 0, .int .i64 x] (HW t l) = some (.tup [], HW 1 (l ++ b2 x), true) := by
  have e := f61 n j t l (b2 x) HW h ht hl (by simp [b2])
  obtain ⟨h0, h1⟩ := hx
  rw [b2_of x h0 h1] at e
  have hlen : (b2 x).length = 2 := rfl
  rw [hlen] at e
  have q := fd (a := x) (b := 256) (by omega)
  rw [evalCall_at _ _ _ hh32 rfl Tryz.func32 rfl (Nat.le_of_ble_eq_true rfl) rfl]
  generalize HW 1 (l ++ b2 x) = H' at *
  generalize HW t l = H at *
  simp [-getElem?_pos, List.getElem?_cons_zero, List.getElem?_cons_succ, h0, h1, q, e]
def rowB (r : R3) : List UInt8 := b1 r.o ++ b2 r.a ++ b2 r.b
def clBy (c : Cl) : List UInt8 := b2 c.base ++ b2 c.size ++ b1 c.q ++ b2 c.at_ ++ b1 c.n ++ b1 c.pr ++ b1 c.id ++ b1 c.irq ++ b2 c.hb ++ b1 c.hn
def okRow (r : R3) : Prop := inR r.o 255 ∧ inR r.a 65535 ∧ inR r.b 65535
def okCl (c : Cl) : Prop := inR c.base 65535 ∧ inR c.size 65535 ∧ inR c.q 255 ∧ inR c.at_ 65535 ∧ inR c.n 255 ∧ inR c.pr 255 ∧ inR c.id 255 ∧ inR c.irq 255 ∧ inR c.hb 65535 ∧ inR c.hn 255
theorem f33 (n j : Nat) (l : List UInt8) (r : R3) (HW : Nat → List UInt8 → Heap) (h : WrH j HW) (hl : l.length ≤ 90000) (hx : okRow r) : evalCall Tryz.prog hints (n + 3) 33 [.ptr (.heap j) none 0, .int .i64 r.o, .int .i64 r.a, .int .i64 r.b] (HW 1 l) = some (.tup [], HW 1 (l ++ rowB r), true) := by
  obtain ⟨x1, x2, x3⟩ := hx
  have e1 := f31 n j 1 l r.o HW h (.inl rfl) (by omega) x1
  have e2 := f32 n j 1 (l ++ b1 r.o) r.a HW h (.inl rfl) (by simp [b1]; omega) x2
  have e3 := f32 n j 1 (l ++ b1 r.o ++ b2 r.a) r.b HW h (.inl rfl) (by simp [b1, b2]; omega) x3
  have hr : l ++ rowB r = l ++ b1 r.o ++ b2 r.a ++ b2 r.b := by unfold rowB; simp
  rw [hr]
  rw [evalCall_at _ _ _ hh33 rfl Tryz.func33 rfl (Nat.le_of_ble_eq_true rfl) rfl]
  generalize HW 1 (l ++ b1 r.o ++ b2 r.a ++ b2 r.b) = H3 at *
  generalize HW 1 (l ++ b1 r.o ++ b2 r.a) = H2 at *
  generalize HW 1 (l ++ b1 r.o) = H1 at *
  generalize HW 1 l = H at *
  simp [-getElem?_pos, e1, e2, e3]
set_option maxHeartbeats 2000000 in
theorem f34 (n j : Nat) (l : List UInt8) (c : Cl) (HW : Nat → List UInt8 → Heap) (h : WrH j HW) (hl : l.length ≤ 90000) (hx : okCl c) : evalCall Tryz.prog hints (n + 3) 34 [.ptr (.heap j) none 0, .agg c.cells] (HW 1 l) = some (.tup [], HW 1 (l ++ clBy c), true) := by
  obtain ⟨x1, x2, x3, x4, x5, x6, x7, x8, x9, x10⟩ := hx
  have k1 : ∀ x, (b1 x).length = 1 := fun _ => rfl
  have k2 : ∀ x, (b2 x).length = 2 := fun _ => rfl
  obtain ⟨l1, hl1⟩ : ∃ l1, l1 = l ++ b2 c.base := ⟨_, rfl⟩
  obtain ⟨l2, hl2⟩ : ∃ l2, l2 = l1 ++ b2 c.size := ⟨_, rfl⟩
  obtain ⟨l3, hl3⟩ : ∃ l3, l3 = l2 ++ b1 c.q := ⟨_, rfl⟩
  obtain ⟨l4, hl4⟩ : ∃ l4, l4 = l3 ++ b2 c.at_ := ⟨_, rfl⟩
  obtain ⟨l5, hl5⟩ : ∃ l5, l5 = l4 ++ b1 c.n := ⟨_, rfl⟩
  obtain ⟨l6, hl6⟩ : ∃ l6, l6 = l5 ++ b1 c.pr := ⟨_, rfl⟩
  obtain ⟨l7, hl7⟩ : ∃ l7, l7 = l6 ++ b1 c.id := ⟨_, rfl⟩
  obtain ⟨l8, hl8⟩ : ∃ l8, l8 = l7 ++ b1 c.irq := ⟨_, rfl⟩
  obtain ⟨l9, hl9⟩ : ∃ l9, l9 = l8 ++ b2 c.hb := ⟨_, rfl⟩
  obtain ⟨l10, hl10⟩ : ∃ l10, l10 = l9 ++ b1 c.hn := ⟨_, rfl⟩
  have q1 : l1.length = l.length + 2 := by rw [hl1, List.length_append, k2]
  have q2 : l2.length = l.length + 4 := by rw [hl2, List.length_append, k2]; omega
  have q3 : l3.length = l.length + 5 := by rw [hl3, List.length_append, k1]; omega
  have q4 : l4.length = l.length + 7 := by rw [hl4, List.length_append, k2]; omega
  have q5 : l5.length = l.length + 8 := by rw [hl5, List.length_append, k1]; omega
  have q6 : l6.length = l.length + 9 := by rw [hl6, List.length_append, k1]; omega
  have q7 : l7.length = l.length + 10 := by rw [hl7, List.length_append, k1]; omega
  have q8 : l8.length = l.length + 11 := by rw [hl8, List.length_append, k1]; omega
  have q9 : l9.length = l.length + 13 := by rw [hl9, List.length_append, k2]; omega
  have e1 := f32 n j 1 l c.base HW h (.inl rfl) (by omega) x1
  have e2 := f32 n j 1 l1 c.size HW h (.inl rfl) (by omega) x2
  have e3 := f31 n j 1 l2 c.q HW h (.inl rfl) (by omega) x3
  have e4 := f32 n j 1 l3 c.at_ HW h (.inl rfl) (by omega) x4
  have e5 := f31 n j 1 l4 c.n HW h (.inl rfl) (by omega) x5
  have e6 := f31 n j 1 l5 c.pr HW h (.inl rfl) (by omega) x6
  have e7 := f31 n j 1 l6 c.id HW h (.inl rfl) (by omega) x7
  have e8 := f31 n j 1 l7 c.irq HW h (.inl rfl) (by omega) x8
  have e9 := f32 n j 1 l8 c.hb HW h (.inl rfl) (by omega) x9
  have e10 := f31 n j 1 l9 c.hn HW h (.inl rfl) (by omega) x10
  have hr : l ++ clBy c = l10 := by
    rw [hl10, hl9, hl8, hl7, hl6, hl5, hl4, hl3, hl2, hl1]; unfold clBy; simp
  rw [hr]
  rw [← hl1] at e1
  rw [← hl2] at e2
  rw [← hl3] at e3
  rw [← hl4] at e4
  rw [← hl5] at e5
  rw [← hl6] at e6
  rw [← hl7] at e7
  rw [← hl8] at e8
  rw [← hl9] at e9
  rw [← hl10] at e10
  rw [evalCall_at _ _ _ hh34 rfl Tryz.func34 rfl (Nat.le_of_ble_eq_true rfl) rfl]
  generalize HW 1 l10 = H10 at *
  generalize HW 1 l9 = H9 at *
  generalize HW 1 l8 = H8 at *
  generalize HW 1 l7 = H7 at *
  generalize HW 1 l6 = H6 at *
  generalize HW 1 l5 = H5 at *
  generalize HW 1 l4 = H4 at *
  generalize HW 1 l3 = H3 at *
  generalize HW 1 l2 = H2 at *
  generalize HW 1 l1 = H1 at *
  generalize HW 1 l = H at *
  obtain ⟨c1, c2, c3, c4, c5, c6, c7, c8, c9, c10⟩ := c
  simp only [Cl.cells] at *
  simp [-getElem?_pos, List.getElem?_cons_zero, List.getElem?_cons_succ, e1, e2, e3, e4, e5, e6, e7, e8, e9, e10]
theorem f35 (n j t : Nat) (l : List UInt8) (HW : Nat → List UInt8 → Heap) (h : WrH j HW) : evalCall Tryz.prog hints (n + 1) 35 [.ptr (.heap j) none 0] (HW t l) = some (.int .i64 0, HW t l, false) := by
  have g := h.get t l
  rw [evalCall_at _ _ _ hh35 rfl Tryz.func35 rfl (Nat.le_of_ble_eq_true rfl) rfl]
  simp [-getElem?_pos, List.getElem?_cons_zero, g]
theorem f37 (n j t : Nat) (l : List UInt8) (HW : Nat → List UInt8 → Heap) (h : WrH j HW) : evalCall Tryz.prog hints (n + 1) 37 [.ptr (.heap j) none 0] (HW t l) = some (.str l, HW t l, false) := by
  have g := h.get t l
  have l1 := ofBytes_len l
  have b := bytesOf_of l
  rw [evalCall_at _ _ _ hh37 rfl Tryz.func37 rfl (Nat.le_of_ble_eq_true rfl) rfl]
  generalize ofBytes l = X at *
  simp [-getElem?_pos, List.getElem?_cons_zero, List.getElem?_cons_succ, g, l1, b]
end Go.Proofs.YtaiiboplopljoaaGreat
end

section
namespace Go.Proofs.YtaiiboplopljoaaGreat
open Go Go.PS
theorem wrH_new (hp : Heap) : WrH hp.length fun t l => hp ++ [.cells [.int .i64 0, .sl (.mu t) l.length (ofBytes l)]] :=
  ⟨fun t l => by simp, fun t l l' => by simp⟩
structure OkT (t : Tab) : Prop where
  f : inR t.f 65535
  W : ∀ w ∈ t.W, okRow w
  S : ∀ w ∈ t.S, okRow w
  C : ∀ c ∈ t.C, okCl c
  lW : t.W.length ≤ 255
  lS : t.S.length ≤ 255
  lC : t.C.length ≤ 255
def headB (t : Tab) : List UInt8 := b1 67 ++ b1 1 ++ b2 t.f ++ b1 t.W.length
def bytesT (t : Tab) : List UInt8 := headB t ++ t.W.flatMap rowB ++ b1 t.S.length ++ t.S.flatMap rowB ++ b1 t.C.length ++ t.C.flatMap clBy
theorem rowB_len (l : List R3) : (l.flatMap rowB).length = l.length * 5 := by
  induction l with
  | nil => rfl
  | cons a l ih => rw [List.flatMap_cons, List.length_append, ih, List.length_cons]; simp [rowB, b1, b2]; omega
theorem clBy_len (l : List Cl) : (l.flatMap clBy).length = l.length * 14 := by
  induction l with
  | nil => rfl
  | cons a l ih => rw [List.flatMap_cons, List.length_append, ih, List.length_cons]; simp [clBy, b1, b2]; omega
theorem flat_snocB {α : Type} (f : α → List UInt8) (l : List α) (k : Nat) (h : k < l.length) : (l.take (k + 1)).flatMap f = (l.take k).flatMap f ++ f l[k] := by
  rw [List.take_succ_eq_append_getElem h, List.flatMap_append]; simp
set_option maxHeartbeats 8000000 in
theorem f14 (n : Nat) (t : Tab) (o : OkT t) (hp : Heap) : ∃ H d, evalCall Tryz.prog hints (n + 20000) 14 [.agg t.cells] hp = some (.tup [.str (crcSeal (bytesT t)), .int .i64 0], H, d) := by
  obtain ⟨HW, hHW⟩ : ∃ HW : Nat → List UInt8 → Heap, HW = fun t l => hp ++ [.cells [.int .i64 0, .sl (.mu t) l.length (ofBytes l)]] := ⟨_, rfl⟩
  have h : WrH hp.length HW := by rw [hHW]; exact wrH_new hp
  have h0 : hp ++ [PS.Node.cells [.int .i64 0, .sl (.mu 0) 0 []]] = HW 0 [] := by rw [hHW]; rfl
  clear hHW
  obtain ⟨oF, oW, oS, oC, lW, lS, lC⟩ := o
  have lenH : (headB t).length = 5 := rfl
  -- the head
  have a1 := f31 (n + 19997) hp.length 0 [] 67 HW h (.inr ⟨rfl, rfl⟩) (by simp) ⟨by omega, by omega⟩
  have a2 := f31 (n + 19997) hp.length 1 ([] ++ b1 67) 1 HW h (.inl rfl) (by simp [b1]) ⟨by omega, by omega⟩
  have a3 := f32 (n + 19997) hp.length 1 ([] ++ b1 67 ++ b1 1) t.f HW h (.inl rfl) (by simp [b1]) oF
  have a4 := f31 (n + 19997) hp.length 1 ([] ++ b1 67 ++ b1 1 ++ b2 t.f) t.W.length HW h (.inl rfl) (by simp [b1, b2]) ⟨by omega, by omega⟩
  have hhead : [] ++ b1 67 ++ b1 1 ++ b2 t.f ++ b1 t.W.length = headB t := rfl
  rw [hhead] at a4
  -- the windows
  obtain ⟨A, hA⟩ : ∃ A : Nat → List UInt8, A = fun k => headB t ++ (t.W.take k).flatMap rowB := ⟨_, rfl⟩
  have A0 : headB t = A 0 := by rw [hA]; simp
  have AS : ∀ k (h : k < t.W.length), A (k + 1) = A k ++ rowB t.W[k] := fun k h => by rw [hA]; simp only; rw [flat_snocB _ _ _ h, List.append_assoc]
  have Al : ∀ k, (A k).length ≤ 5 + 255 * 5 := fun k => by
    rw [hA]; simp only; rw [List.length_append, rowB_len, lenH, List.length_take]; omega
  have wRow := fun k (hk : k < t.W.length) => f33 (n + 19996) hp.length (A k) t.W[k] HW h (by have := Al k; omega) (oW _ (List.getElem_mem hk))
  -- the slots
  obtain ⟨B, hB⟩ : ∃ B : Nat → List UInt8, B = fun k => A t.W.length ++ b1 t.S.length ++ (t.S.take k).flatMap rowB := ⟨_, rfl⟩
  have B0 : A t.W.length ++ b1 t.S.length = B 0 := by rw [hB]; simp
  have BS : ∀ k (h : k < t.S.length), B (k + 1) = B k ++ rowB t.S[k] := fun k h => by rw [hB]; simp only; rw [flat_snocB _ _ _ h]; simp only [List.append_assoc]
  have Bl : ∀ k, (B k).length ≤ 6 + 510 * 5 := fun k => by
    have := Al t.W.length
    rw [hB]; simp only; rw [List.length_append, List.length_append, rowB_len, List.length_take]
    have : (b1 (t.S.length : Int)).length = 1 := rfl
    omega
  have a5 := f31 (n + 19997) hp.length 1 (A t.W.length) t.S.length HW h (.inl rfl) (by have := Al t.W.length; omega) ⟨by omega, by omega⟩
  rw [B0] at a5
  have sRow := fun k (hk : k < t.S.length) => f33 (n + 19996) hp.length (B k) t.S[k] HW h (by have := Bl k; omega) (oS _ (List.getElem_mem hk))
  -- the clients
  obtain ⟨D, hD⟩ : ∃ D : Nat → List UInt8, D = fun k => B t.S.length ++ b1 t.C.length ++ (t.C.take k).flatMap clBy := ⟨_, rfl⟩
  have D0 : B t.S.length ++ b1 t.C.length = D 0 := by rw [hD]; simp
  have DS : ∀ k (h : k < t.C.length), D (k + 1) = D k ++ clBy t.C[k] := fun k h => by rw [hD]; simp only; rw [flat_snocB _ _ _ h]; simp only [List.append_assoc]
  have Dl : ∀ k, (D k).length ≤ 7 + 510 * 5 + 255 * 14 := fun k => by
    have := Bl t.S.length
    rw [hD]; simp only; rw [List.length_append, List.length_append, clBy_len, List.length_take]
    have : (b1 (t.C.length : Int)).length = 1 := rfl
    omega
  have a6 := f31 (n + 19997) hp.length 1 (B t.S.length) t.C.length HW h (.inl rfl) (by have := Bl t.S.length; omega) ⟨by omega, by omega⟩
  rw [D0] at a6
  have cRow := fun k (hk : k < t.C.length) => f34 (n + 19996) hp.length (D k) t.C[k] HW h (by have := Dl k; omega) (oC _ (List.getElem_mem hk))
  have hT : bytesT t = D t.C.length := by
    rw [hD]; simp only
    rw [hB]; simp only
    rw [hA]; simp only
    rw [List.take_length, List.take_length, List.take_length]; rfl
  rw [hT]
  have z1 := f35 (n + 19998) hp.length 1 (D t.C.length) HW h
  have z2 := f37 (n + 19998) hp.length 1 (D t.C.length) HW h
  have z3 := fun hp => f36 (n + 19996) (D t.C.length) hp (by have := Dl t.C.length; omega) (by omega) (by have := Dl t.C.length; omega)
  clear hA hB hD hT Al Bl Dl h oW oS oC oF
  rw [A0] at a4
  clear A0 B0 D0 hhead lenH
  have kW := flat_len R3.len t.W
  have kS := flat_len R3.len t.S
  have kC := flat_len Cl.len t.C
  have rW := fun k h => flat_row R3.len t.W k h
  have rS := fun k h => flat_row R3.len t.S k h
  have rC := fun k h => flat_row Cl.len t.C k h
  rw [evalCall_at _ _ _ hh14 rfl Tryz.func14 rfl (Nat.le_of_ble_eq_true rfl) rfl]
  simp only [Tab.cells]
  generalize t.W.flatMap R3.cells = X at *
  generalize t.S.flatMap R3.cells = Y at *
  generalize t.C.flatMap Cl.cells = Z at *
  obtain ⟨HA, hHA⟩ : ∃ HA : Nat → Heap, HA = fun k => HW 1 (A k) := ⟨_, rfl⟩
  obtain ⟨HB, hHB⟩ : ∃ HB : Nat → Heap, HB = fun k => HW 1 (B k) := ⟨_, rfl⟩
  obtain ⟨HD, hHD⟩ : ∃ HD : Nat → Heap, HD = fun k => HW 1 (D k) := ⟨_, rfl⟩
  have eA : ∀ k, HW 1 (A k) = HA k := fun k => by rw [hHA]
  have eB : ∀ k, HW 1 (B k) = HB k := fun k => by rw [hHB]
  have eD : ∀ k, HW 1 (D k) = HD k := fun k => by rw [hHD]
  have wRow : ∀ k (hk : k < t.W.length), evalCall Tryz.prog hints (n + 19999) 33 [.ptr (.heap hp.length) none 0, .int .i64 t.W[k].o, .int .i64 t.W[k].a, .int .i64 t.W[k].b] (HA k) = some (.tup [], HA (k + 1), true) := fun k hk => by
    have := wRow k hk; rw [← AS k hk, eA, eA] at this; exact this
  have sRow : ∀ k (hk : k < t.S.length), evalCall Tryz.prog hints (n + 19999) 33 [.ptr (.heap hp.length) none 0, .int .i64 t.S[k].o, .int .i64 t.S[k].a, .int .i64 t.S[k].b] (HB k) = some (.tup [], HB (k + 1), true) := fun k hk => by
    have := sRow k hk; rw [← BS k hk, eB, eB] at this; exact this
  have cRow : ∀ k (hk : k < t.C.length), evalCall Tryz.prog hints (n + 19999) 34 [.ptr (.heap hp.length) none 0, .agg t.C[k].cells] (HD k) = some (.tup [], HD (k + 1), true) := fun k hk => by
    have := cRow k hk; rw [← DS k hk, eD, eD] at this; exact this
  rw [eA] at a4
  rw [eA, eB] at a5
  rw [eB, eD] at a6
  rw [eD] at z1 z2
  clear AS BS DS hHA hHB hHD eA eB eD
  generalize HW 0 [] = H0 at *
  generalize HW 1 ([] ++ b1 67) = H1 at *
  generalize HW 1 ([] ++ b1 67 ++ b1 1) = H2 at *
  generalize HW 1 ([] ++ b1 67 ++ b1 1 ++ b2 t.f) = H3 at *
  generalize crcSeal (D t.C.length) = R at *
  generalize D t.C.length = DD at *
  have mx : ¬ ((255 : Int) < if (if t.W.length < t.S.length then (t.S.length : Int) else (t.W.length : Int)) < (t.C.length : Int) then (t.C.length : Int) else if t.W.length < t.S.length then (t.S.length : Int) else (t.W.length : Int)) := by
    split <;> (try split) <;> omega
  refine ⟨HD t.C.length, true, ?_⟩
  generalize hj : hp.length = j at *
  simp [-getElem?_pos, List.getElem?_cons_zero, List.getElem?_cons_succ, h0, a1, a2, a3, a4, mx, hj]
  rw [iter_count (fun k => { fr := [(1, .box [.int .i64 t.f, .sl .sh t.W.length X, .sl .sh t.S.length Y, .sl .sh t.C.length Z]), (4, .ptr (.heap j) none 0), (39, .sl .sh t.W.length X), (40, .int .i64 t.W.length), (41, .int .i64 k)], hp := HA k, base := j, dirty := true })
    (.exit 0, { fr := [(1, .box [.int .i64 t.f, .sl .sh t.W.length X, .sl .sh t.S.length Y, .sl .sh t.C.length Z]), (4, .ptr (.heap j) none 0), (39, .sl .sh t.W.length X), (40, .int .i64 t.W.length), (41, .int .i64 t.W.length), (42, .bool false)], hp := HA t.W.length, base := j, dirty := true }) t.W.length]
  rotate_left
  · simp
  · omega
  · intro k hk
    have wRow := wRow k hk
    have rW := rW k hk
    have z : k * 3 + 3 ≤ t.W.length * 3 := by omega
    have w := wrap_id (x := (k : Int) + 1) (by omega)
    generalize t.W[k] = x at *
    obtain ⟨x1, x2, x3⟩ := x
    simp only [R3.cells] at *
    simp [-getElem?_pos, List.getElem?_cons_zero, List.getElem?_cons_succ, hk, kW, rW, z, w, wRow]
  · simp
  · simp
  simp [-getElem?_pos, List.getElem?_cons_zero, List.getElem?_cons_succ, a5]
  rw [iter_count (fun k => { fr := [(1, .box [.int .i64 t.f, .sl .sh t.W.length X, .sl .sh t.S.length Y, .sl .sh t.C.length Z]), (4, .ptr (.heap j) none 0), (60, .sl .sh t.S.length Y), (61, .int .i64 t.S.length), (62, .int .i64 k)], hp := HB k, base := j, dirty := true })
    (.exit 2, { fr := [(1, .box [.int .i64 t.f, .sl .sh t.W.length X, .sl .sh t.S.length Y, .sl .sh t.C.length Z]), (4, .ptr (.heap j) none 0), (60, .sl .sh t.S.length Y), (61, .int .i64 t.S.length), (62, .int .i64 t.S.length), (63, .bool false)], hp := HB t.S.length, base := j, dirty := true }) t.S.length]
  rotate_left
  · simp
  · omega
  · intro k hk
    have sRow := sRow k hk
    have rS := rS k hk
    have z : k * 3 + 3 ≤ t.S.length * 3 := by omega
    have w := wrap_id (x := (k : Int) + 1) (by omega)
    generalize t.S[k] = x at *
    obtain ⟨x1, x2, x3⟩ := x
    simp only [R3.cells] at *
    simp [-getElem?_pos, List.getElem?_cons_zero, List.getElem?_cons_succ, hk, kS, rS, z, w, sRow]
  · simp
  · simp
  simp [-getElem?_pos, List.getElem?_cons_zero, List.getElem?_cons_succ, a6]
  rw [iter_count (fun k => { fr := [(4, .ptr (.heap j) none 0), (81, .sl .sh t.C.length Z), (82, .int .i64 t.C.length), (83, .int .i64 k)], hp := HD k, base := j, dirty := true })
    (.exit 4, { fr := [(4, .ptr (.heap j) none 0), (81, .sl .sh t.C.length Z), (82, .int .i64 t.C.length), (83, .int .i64 t.C.length), (84, .bool false)], hp := HD t.C.length, base := j, dirty := true }) t.C.length]
  rotate_left
  · simp
  · omega
  · intro k hk
    have cRow := cRow k hk
    have rC := rC k hk
    have z : k * 10 + 10 ≤ t.C.length * 10 := by omega
    have w := wrap_id (x := (k : Int) + 1) (by omega)
    generalize t.C[k] = x at *
    obtain ⟨x1, x2, x3, x4, x5, x6, x7, x8, x9, x10⟩ := x
    simp only [Cl.cells] at *
    simp [-getElem?_pos, List.getElem?_cons_zero, List.getElem?_cons_succ, hk, kC, rC, z, w, cRow]
  · simp
  · simp
  simp [-getElem?_pos, List.getElem?_cons_zero, List.getElem?_cons_succ, z1, z2, z3]
end Go.Proofs.YtaiiboplopljoaaGreat
end
