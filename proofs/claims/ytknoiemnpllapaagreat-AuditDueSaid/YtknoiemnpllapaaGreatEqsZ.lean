/-
  What functions of this program compute, as equations about the evaluator. No condition but those stated.
-/
import Derived.Test.YtknoiemnpllapaaGreatFacts
import Derived.Test.YtknoiemnpllapaaGreatEqsJ
import Derived.Test.YtknoiemnpllapaaGreatEqsK
import Derived.Test.YtknoiemnpllapaaGreatEqsL

set_option linter.all false
section
namespace Go.Proofs.YtknoiemnpllapaaGreat
open Go Go.PS
def rgOf (c : Cl) (i : Nat) : R3 := ⟨(i : Int) + 1, c.base, c.size⟩
/-- The clients' memories. -/
def rgsK (l : List Cl) : Nat → List R3
  | 0 => []
  | k + 1 => rgsK l k ++ match l[k]? with
    | some c => [rgOf c k]
    | none => []
theorem rgsK_succ {l : List Cl} {k : Nat} (h : k < l.length) : rgsK l (k + 1) = rgsK l k ++ [rgOf l[k] k] := by
  rw [rgsK, List.getElem?_eq_getElem h]
theorem rgsK_len {l : List Cl} : ∀ {k : Nat}, k ≤ l.length → (rgsK l k).length = k
  | 0, _ => rfl
  | k + 1, h => by rw [rgsK_succ (by omega), List.length_append, rgsK_len (by omega)]; rfl
theorem rgsK_at {l : List Cl} : ∀ {k : Nat}, k ≤ l.length → ∀ i (hi : i < l.length), i < k → (rgsK l k)[i]? = some (rgOf l[i] i)
  | 0, _, i, _, h => absurd h (by omega)
  | k + 1, hk, i, hi, h => by
    rw [rgsK_succ (by omega)]
    have hl := rgsK_len (l := l) (k := k) (by omega)
    by_cases c : i = k
    · subst c
      rw [List.getElem?_append_right (by omega), hl, Nat.sub_self]; rfl
    · rw [List.getElem?_append_left (by omega)]
      exact rgsK_at (by omega) i hi (by omega)
set_option maxHeartbeats 1000000 in
theorem f21 (n : Nat) (t : Tab) (hp : Heap) (hl : t.C.length ≤ 8) (h1 : t.C ≠ []) (hn : 60 < n) : evalCall Tryz.prog hints (n + 1) 21 [.agg t.cells] hp = some (.sl (.mu 3) t.C.length ((rgsK t.C t.C.length).flatMap R3.cells), hp, false) := by
  rw [evalCall_at _ _ _ hh21 rfl Tryz.func21 rfl (Nat.le_of_ble_eq_true rfl) rfl]
  have lX := flat_len Cl.len t.C
  have rr := fun k h => flat_row Cl.len t.C k h
  obtain ⟨G, hG⟩ : ∃ G : Nat → List PV, G = fun k => (rgsK t.C k).flatMap R3.cells := ⟨_, rfl⟩
  rw [show (rgsK t.C t.C.length).flatMap R3.cells = G t.C.length by rw [hG]]
  simp only [Tab.cells_eq]
  generalize t.S.flatMap R3.cells = Y at *
  generalize t.W.flatMap R3.cells = X at *
  generalize t.C.flatMap Cl.cells = Z at *
  simp
  rw [iter_count (fun k => { fr := [(3, .sl (.mu 3) k (G k)), (7, .sl .sh t.C.length Z), (8, .int .i64 t.C.length), (9, .int .i64 k)], hp := hp, base := hp.length, dirty := false }) (.exit 0, { fr := [(3, .sl (.mu 3) t.C.length (G t.C.length)), (7, .sl .sh t.C.length Z), (8, .int .i64 t.C.length), (9, .int .i64 t.C.length), (10, .bool false)], hp := hp, base := hp.length, dirty := false }) t.C.length]
  · simp
  · simp [hG, rgsK]
  · omega
  · intro k hk
    have r := rr k hk
    have z : k * 10 + 10 ≤ t.C.length * 10 := by omega
    have w := wrap_id (x := (k : Int) + 1) (by omega)
    have m1 : (k + 1) * 24 ≤ 140737488355328 := by omega
    have hS : G (k + 1) = G k ++ (rgOf t.C[k] k).cells := by
      rw [hG]; simp only
      rw [rgsK_succ hk, List.flatMap_append]; simp
    have lG : (G k).length = k * 3 := by
      rw [hG]; simp only
      rw [flat_len R3.len, rgsK_len (by omega)]
    have aG : (G k).all storable = true := by rw [hG]; exact flat_all (f := R3.cells) (fun _ => rfl) _
    rw [hS]
    clear hS hG
    generalize G k = g at *
    generalize t.C[k] = x at *
    obtain ⟨x1, x2, x3, x4, x5, x6, x7, x8, x9, x10⟩ := x
    simp only [Cl.cells, rgOf, R3.cells] at *
    simp [-getElem?_pos, List.getElem?_cons_zero, hk, lX, r, z, w, m1, lG, aG]
  · simp
  · simp
end Go.Proofs.YtknoiemnpllapaaGreat
end

section
namespace Go.Proofs.YtknoiemnpllapaaGreat
open Go Go.PS
def wsp (w : R3) : Sp := ⟨w.a, w.b⟩
theorem meets_comm (a b c d : Int) : meets a b c d = meets c d a b := by
  rw [Bool.eq_iff_iff]
  unfold meets holds
  simp only [Bool.and_eq_true, Bool.or_eq_true, decide_eq_true_eq]
  omega
theorem rgs_apart (t : Tab) (g : Good t) : ((rgsK t.C t.C.length).map sp).Pairwise fun y x => meetS y x = false := by
  rw [List.pairwise_map, List.pairwise_iff_getElem]
  intro i j hi hj hij
  have hl := rgsK_len (l := t.C) (Nat.le_refl _)
  have hi' : i < t.C.length := by omega
  have hj' : j < t.C.length := by omega
  have ei := rgsK_at (l := t.C) (Nat.le_refl _) i hi' hi'
  have ej := rgsK_at (l := t.C) (Nat.le_refl _) j hj' hj'
  rw [List.getElem?_eq_getElem hi] at ei
  rw [List.getElem?_eq_getElem hj] at ej
  rw [Option.some.inj ei, Option.some.inj ej]
  have p := List.pairwise_iff_getElem.1 g.cpair i j hi' hj' hij
  have c1 := g.cok t.C[i] (List.getElem_mem hi')
  have c2 := g.cok t.C[j] (List.getElem_mem hj')
  rw [pairC_eq, decide_eq_true c1, decide_eq_true c2, Bool.true_and, Bool.true_and] at p
  unfold shareC at p
  simp only [Bool.or_eq_false_iff] at p
  show meets t.C[i].base (t.C[i].base + t.C[i].size) t.C[j].base (t.C[j].base + t.C[j].size) = false
  rw [meets_comm]; exact p.1.2
end Go.Proofs.YtknoiemnpllapaaGreat
end
