/-
  What functions of this program compute, as equations about the evaluator. No condition but those stated.
-/
import Derived.Test.YtaiiboplopljoaaGreatEqsI
import Derived.Test.YtaiiboplopljoaaGreatEqsM

set_option linter.all false
section
namespace Go.Proofs.YtaiiboplopljoaaGreat
open Go Go.PS
def R3.nums (w : R3) : List F2 := [⟨w.o, 1⟩, ⟨w.a, 2⟩, ⟨w.b, 2⟩]
def Cl.nums (c : Cl) : List F2 := [⟨c.base, 2⟩, ⟨c.size, 2⟩, ⟨c.q, 1⟩, ⟨c.at_, 2⟩, ⟨c.n, 1⟩, ⟨c.pr, 1⟩, ⟨c.id, 1⟩, ⟨c.irq, 1⟩, ⟨c.hb, 2⟩, ⟨c.hn, 1⟩]
def headN (t : Tab) : List F2 := [⟨67, 1⟩, ⟨1, 1⟩, ⟨t.f, 2⟩, ⟨t.W.length, 1⟩]
def nums (t : Tab) : List F2 := headN t ++ t.W.flatMap R3.nums ++ [⟨t.S.length, 1⟩] ++ t.S.flatMap R3.nums ++ [⟨t.C.length, 1⟩] ++ t.C.flatMap Cl.nums
theorem f41 (n : Nat) (a b c : Int) (hp : Heap) : evalCall Tryz.prog hints (n + 1) 41 [.int .i64 a, .int .i64 b, .int .i64 c] hp = some (.sl (.mu 2) 3 ((R3.nums ⟨a, b, c⟩).flatMap F2.cells), hp, false) := by
  rw [evalCall_at _ _ _ hh41 rfl Tryz.func41 rfl (Nat.le_of_ble_eq_true rfl) rfl]
  simp [R3.nums, F2.cells]
theorem flat_snoc {α β : Type} (f : α → List β) (l : List α) (k : Nat) (h : k < l.length) : (l.take (k + 1)).flatMap f = (l.take k).flatMap f ++ f l[k] := by
  rw [List.take_succ_eq_append_getElem h, List.flatMap_append]; simp
theorem R3.numsLen (c : R3) : (R3.nums c).length = 3 := rfl
theorem Cl.numsLen (c : Cl) : (Cl.nums c).length = 10 := rfl
theorem nlen {α : Type} {f : α → List F2} {k : Nat} (hk : ∀ x, (f x).length = k) : ∀ l : List α, (l.flatMap f).length = l.length * k
  | [] => by simp
  | a :: l => by rw [List.flatMap_cons, List.length_append, hk, nlen hk l, List.length_cons]; rw [Nat.succ_mul]; omega
theorem bigW {a c : Nat} (ha : a ≤ 20000) (hc : c ≤ 10) : (a + c) * 16 ≤ 140737488355328 := by omega
set_option maxHeartbeats 4000000 in
theorem f20 (n : Nat) (t : Tab) (hp : Heap) (hW : t.W.length ≤ 1000) (hS : t.S.length ≤ 1000) (hC : t.C.length ≤ 1000) (hn : 2000 < n) :
    evalCall Tryz.prog hints (n + 2) 20 [.agg t.cells] hp = some (.sl (.mu 2) (nums t).length ((nums t).flatMap F2.cells), hp, false) := by
  have e95 := fun a b c => f41 n a b c hp
  rw [evalCall_at _ _ _ hh20 rfl Tryz.func20 rfl (Nat.le_of_ble_eq_true rfl) rfl]
  have lW := flat_len R3.len t.W
  have lS := flat_len R3.len t.S
  have lC := flat_len Cl.len t.C
  have w0 := fun k h => flat_get R3.len t.W k h 0 (by omega)
  have w1 := fun k h => flat_get R3.len t.W k h 1 (by omega)
  have w2 := fun k h => flat_get R3.len t.W k h 2 (by omega)
  have s0 := fun k h => flat_get R3.len t.S k h 0 (by omega)
  have s1 := fun k h => flat_get R3.len t.S k h 1 (by omega)
  have s2 := fun k h => flat_get R3.len t.S k h 2 (by omega)
  have rC := fun k h => flat_row Cl.len t.C k h
  have hR : nums t = headN t ++ t.W.flatMap R3.nums ++ [⟨t.S.length, 1⟩] ++ t.S.flatMap R3.nums ++ [⟨t.C.length, 1⟩] ++ t.C.flatMap Cl.nums := rfl
  generalize nums t = R at *
  simp only [Tab.cells]
  generalize t.S.flatMap R3.cells = Y at *
  generalize t.W.flatMap R3.cells = X at *
  generalize t.C.flatMap Cl.cells = Z at *
  obtain ⟨A, hA⟩ : ∃ A, A = headN t := ⟨_, rfl⟩
  have lA : A.length = 4 := by rw [hA]; rfl
  rw [← hA] at hR
  generalize hRf : R.flatMap F2.cells = RF
  simp
  rw [iter_count (fun k => { fr := [(1, .box [.int .i64 t.f, .sl .sh t.W.length X, .sl .sh t.S.length Y, .sl .sh t.C.length Z]), (3, .sl (.mu 2) (A ++ (t.W.take k).flatMap R3.nums).length ((A ++ (t.W.take k).flatMap R3.nums).flatMap F2.cells)), (4, .int .i64 k)], hp := hp, base := hp.length, dirty := false })
    (.exit 0, { fr := [(1, .box [.int .i64 t.f, .sl .sh t.W.length X, .sl .sh t.S.length Y, .sl .sh t.C.length Z]), (3, .sl (.mu 2) (A ++ t.W.flatMap R3.nums).length ((A ++ t.W.flatMap R3.nums).flatMap F2.cells)), (4, .int .i64 t.W.length), (22, .bool false)], hp := hp, base := hp.length, dirty := false }) t.W.length]
  rotate_left
  · rw [hA]; simp [headN, F2.cells]
  · omega
  · intro k hk
    have w0 := w0 k hk
    have w1 := w1 k hk
    have w2 := w2 k hk
    have z : k * 3 + 3 ≤ t.W.length * 3 := by omega
    have hT : (t.W.take k).length = k := by rw [List.length_take]; omega
    have lD := nlen R3.numsLen (t.W.take k)
    rw [flat_snoc _ _ _ hk]
    obtain ⟨D, hD⟩ : ∃ D, D = A ++ (t.W.take k).flatMap R3.nums := ⟨_, rfl⟩
    have lD2 : D.length = A.length + k * 3 := by rw [hD, List.length_append]; omega
    rw [← List.append_assoc, ← hD]
    have lDf := flat_len F2.len D
    have wk := wrap_id (x := (k : Int) + 1) (by omega)
    have m := bigW (a := D.length) (c := 3) (by omega) (by omega)
    have a3 : D.length * 2 + 6 = (D.length + 3) * 2 := by omega
    generalize t.W[k] = x at *
    obtain ⟨o, a, b⟩ := x
    have e := e95 o a b
    have eV : (R3.nums ⟨o, a, b⟩).flatMap F2.cells = [.int .i64 o, .int .i64 1, .int .i64 a, .int .i64 2, .int .i64 b, .int .i64 2] := rfl
    rw [List.flatMap_append, List.length_append, R3.numsLen, eV]
    rw [eV] at e
    clear hD eV
    generalize D.flatMap F2.cells = Q at *
    generalize D.length = d at *
    simp only [R3.cells, Nat.add_zero, List.getElem?_cons_zero, List.getElem?_cons_succ] at *
    simp [-getElem?_pos, List.getElem?_cons_zero, hk, lW, w0, w1, w2, z, e, wk, m, lDf, a3]
  · simp
  · simp
  have l2 := nlen R3.numsLen t.W
  obtain ⟨B, hB⟩ : ∃ B, B = A ++ t.W.flatMap R3.nums := ⟨_, rfl⟩
  have lB : B.length = A.length + t.W.length * 3 := by rw [hB, List.length_append]; omega
  rw [← hB]
  have lBf := flat_len F2.len B
  obtain ⟨B', hB'⟩ : ∃ D : List F2, D = B ++ [⟨t.S.length, 1⟩] := ⟨_, rfl⟩
  have lB' : B'.length = B.length + 1 := by rw [hB']; simp
  have fB' : B'.flatMap F2.cells = B.flatMap F2.cells ++ [.int .i64 t.S.length, .int .i64 1] := by rw [hB', List.flatMap_append]; rfl
  have m := bigW (a := B.length) (c := 1) (by omega) (by omega)
  have a3 : B.length * 2 + 2 = (B.length + 1) * 2 := by omega
  have hB'2 : B' = A ++ t.W.flatMap R3.nums ++ [⟨t.S.length, 1⟩] := by rw [hB', hB]
  clear hB hB'
  generalize B.flatMap F2.cells = Q at *
  simp [lBf, m, a3]
  rw [← lB', ← fB']
  rw [iter_count (fun k => { fr := [(1, .box [.int .i64 t.f, .sl .sh t.W.length X, .sl .sh t.S.length Y, .sl .sh t.C.length Z]), (3, .sl (.mu 2) (B' ++ (t.S.take k).flatMap R3.nums).length ((B' ++ (t.S.take k).flatMap R3.nums).flatMap F2.cells)), (5, .int .i64 k)], hp := hp, base := hp.length, dirty := false })
    (.exit 2, { fr := [(1, .box [.int .i64 t.f, .sl .sh t.W.length X, .sl .sh t.S.length Y, .sl .sh t.C.length Z]), (3, .sl (.mu 2) (B' ++ t.S.flatMap R3.nums).length ((B' ++ t.S.flatMap R3.nums).flatMap F2.cells)), (5, .int .i64 t.S.length), (57, .bool false)], hp := hp, base := hp.length, dirty := false }) t.S.length]
  rotate_left
  · simp
  · omega
  · intro k hk
    have w0 := s0 k hk
    have w1 := s1 k hk
    have w2 := s2 k hk
    have z : k * 3 + 3 ≤ t.S.length * 3 := by omega
    have hT : (t.S.take k).length = k := by rw [List.length_take]; omega
    have lD := nlen R3.numsLen (t.S.take k)
    rw [flat_snoc _ _ _ hk]
    obtain ⟨D, hD⟩ : ∃ D, D = B' ++ (t.S.take k).flatMap R3.nums := ⟨_, rfl⟩
    have lD2 : D.length = B'.length + k * 3 := by rw [hD, List.length_append]; omega
    rw [← List.append_assoc, ← hD]
    have lDf := flat_len F2.len D
    have wk := wrap_id (x := (k : Int) + 1) (by omega)
    have m := bigW (a := D.length) (c := 3) (by omega) (by omega)
    have a3 : D.length * 2 + 6 = (D.length + 3) * 2 := by omega
    generalize t.S[k] = x at *
    obtain ⟨o, a, b⟩ := x
    have e := e95 o a b
    have eV : (R3.nums ⟨o, a, b⟩).flatMap F2.cells = [.int .i64 o, .int .i64 1, .int .i64 a, .int .i64 2, .int .i64 b, .int .i64 2] := rfl
    rw [List.flatMap_append, List.length_append, R3.numsLen, eV]
    rw [eV] at e
    clear hD eV
    generalize D.flatMap F2.cells = Q at *
    generalize D.length = d at *
    simp only [R3.cells, Nat.add_zero, List.getElem?_cons_zero, List.getElem?_cons_succ] at *
    simp [-getElem?_pos, List.getElem?_cons_zero, hk, lS, w0, w1, w2, z, e, wk, m, lDf, a3]
  · simp
  · simp
  rw [← hB'2] at hR
  clear hB'2 fB' lBf m a3
  have l2 := nlen R3.numsLen t.S
  obtain ⟨B, hB2⟩ : ∃ B, B = B' ++ t.S.flatMap R3.nums := ⟨_, rfl⟩
  have lB2 : B.length = B'.length + t.S.length * 3 := by rw [hB2, List.length_append]; omega
  rw [← hB2]
  have lBg := flat_len F2.len B
  obtain ⟨C', hC'⟩ : ∃ D : List F2, D = B ++ [⟨t.C.length, 1⟩] := ⟨_, rfl⟩
  have lC' : C'.length = B.length + 1 := by rw [hC']; simp
  have fC' : C'.flatMap F2.cells = B.flatMap F2.cells ++ [.int .i64 t.C.length, .int .i64 1] := by rw [hC', List.flatMap_append]; rfl
  have m := bigW (a := B.length) (c := 1) (by omega) (by omega)
  have a3 : B.length * 2 + 2 = (B.length + 1) * 2 := by omega
  have hC'2 : C' = B' ++ t.S.flatMap R3.nums ++ [⟨t.C.length, 1⟩] := by rw [hC', hB2]
  clear hB2 hC'
  generalize B.flatMap F2.cells = Q at *
  simp [lBg, m, a3]
  rw [← lC', ← fC']
  rw [iter_count (fun k => { fr := [(1, .box [.int .i64 t.f, .sl .sh t.W.length X, .sl .sh t.S.length Y, .sl .sh t.C.length Z]), (3, .sl (.mu 2) (C' ++ (t.C.take k).flatMap Cl.nums).length ((C' ++ (t.C.take k).flatMap Cl.nums).flatMap F2.cells)), (6, .int .i64 k)], hp := hp, base := hp.length, dirty := false })
    (.exit 4, { fr := [(1, .box [.int .i64 t.f, .sl .sh t.W.length X, .sl .sh t.S.length Y, .sl .sh t.C.length Z]), (3, .sl (.mu 2) (C' ++ t.C.flatMap Cl.nums).length ((C' ++ t.C.flatMap Cl.nums).flatMap F2.cells)), (6, .int .i64 t.C.length), (92, .bool false)], hp := hp, base := hp.length, dirty := false }) t.C.length]
  rotate_left
  · simp
  · omega
  · intro k hk
    have rC := rC k hk
    have z : k * 10 + 10 ≤ t.C.length * 10 := by omega
    have hT : (t.C.take k).length = k := by rw [List.length_take]; omega
    have lD := nlen Cl.numsLen (t.C.take k)
    rw [flat_snoc _ _ _ hk]
    obtain ⟨D, hD⟩ : ∃ D, D = C' ++ (t.C.take k).flatMap Cl.nums := ⟨_, rfl⟩
    have lD2 : D.length = C'.length + k * 10 := by rw [hD, List.length_append]; omega
    rw [← List.append_assoc, ← hD]
    have lDf := flat_len F2.len D
    have wk := wrap_id (x := (k : Int) + 1) (by omega)
    have m := bigW (a := D.length) (c := 10) (by omega) (by omega)
    have a3 : D.length * 2 + 20 = (D.length + 10) * 2 := by omega
    generalize t.C[k] = x at *
    obtain ⟨base, size, q, at_, nn, pr, id, irq, hb, hn⟩ := x
    have eV : (Cl.nums ⟨base, size, q, at_, nn, pr, id, irq, hb, hn⟩).flatMap F2.cells = [.int .i64 base, .int .i64 2, .int .i64 size, .int .i64 2, .int .i64 q, .int .i64 1, .int .i64 at_, .int .i64 2, .int .i64 nn, .int .i64 1, .int .i64 pr, .int .i64 1, .int .i64 id, .int .i64 1, .int .i64 irq, .int .i64 1, .int .i64 hb, .int .i64 2, .int .i64 hn, .int .i64 1] := rfl
    rw [List.flatMap_append, List.length_append, Cl.numsLen, eV]
    clear hD eV
    generalize D.flatMap F2.cells = Q at *
    generalize D.length = d at *
    simp only [Cl.cells] at *
    simp [hk, lC, rC, z, wk, m, lDf, a3]
  · simp
  · simp
  rw [← hC'2] at hR
  rw [← hR, hRf]
  simp
end Go.Proofs.YtaiiboplopljoaaGreat
end

section
namespace Go.Proofs.YtaiiboplopljoaaGreat
open Go Go.PS
@[simp] theorem guard57 : Tryz.prog.eqGuardType Tryz.prog.depth 57 = false := by kernel_rfl
def same (t u : Tab) : Bool := decide (nums t = nums u ∧ t.W.length = u.W.length ∧ t.S.length = u.S.length)
end Go.Proofs.YtaiiboplopljoaaGreat
end
