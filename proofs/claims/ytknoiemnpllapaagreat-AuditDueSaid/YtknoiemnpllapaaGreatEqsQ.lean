/-
  What functions of this program compute, as equations about the evaluator. No condition but those stated.
-/
import Derived.Test.YtknoiemnpllapaaGreatEqsN
import Derived.Test.YtknoiemnpllapaaGreatEqsO
import Derived.Test.YtknoiemnpllapaaGreatEqsP
import Derived.Test.YtknoiemnpllapaaGreatEqsM

set_option linter.all false
section
namespace Go.Proofs.YtknoiemnpllapaaGreat
open Go Go.PS
theorem with_holes {E : Option (PV × Heap × Bool)} {r : PV} {A B C : Heap} {n2 : PS.Node} {d : Bool} {n : Nat} (ha : (E.bind fun x => x.2.1[2]?) = some n2) (hb : (E.map fun x => (x.1, x.2.1.take 2, (x.2.1.drop 3).take 8, x.2.1.length, x.2.2)) = some (r, A, B, n, d))
    (hc : (E.map fun x => (x.2.1.drop 12)) = some C) (hn : 12 ≤ n) : E = some (r, A ++ (n2 :: (B ++ (hole E 11 :: C))), d) := by
  cases E with
  | none => cases hb
  | some x =>
    obtain ⟨r', H, d'⟩ := x
    simp only [Option.map_some, Option.bind_some, Option.some.injEq, Prod.mk.injEq] at ha hb hc
    obtain ⟨rfl, h1, h2, h3, rfl⟩ := hb
    have k2 : 2 < H.length := by omega
    have k11 : 11 < H.length := by omega
    have e2 : H[2] = n2 := by rw [List.getElem?_eq_getElem k2] at ha; exact Option.some.inj ha
    have e11 : hole (some (r', H, d')) 11 = H[11] := by
      unfold hole
      simp only [List.getD_eq_getElem?_getD, List.getElem?_eq_getElem k11, Option.getD_some]
    have s3 : H.drop 3 = (H.drop 3).take 8 ++ (H[11] :: H.drop 12) := by
      rw [← List.drop_eq_getElem_cons k11]
      have := List.take_append_drop 8 (H.drop 3)
      rw [List.drop_drop] at this
      exact this.symm
    rw [e11, ← h1, ← h2, ← hc, ← s3, ← e2, ← List.drop_eq_getElem_cons k2, List.take_append_drop]
theorem c38_0 : evalCall Tryz.prog hints0 200 38 [(.str [67, 1, 20, 0, 2, 0, 0, 0, 4, 0, 1, 4, 0, 20, 0, 1, 1, 4, 0, 12, 0, 1, 128, 0, 64, 0, 1, 0, 0, 2, 2, 0, 6, 0, 0, 0, 186, 46]), (.sl .sh 1 [(.str [1, 1, 60, 0, 8, 1, 1, 0])])] [] = some ((.tup [(.ptr (.heap 1) none 0), (.sl .sh 0 []), (.int Go.IntKind.i64 (0))]), hp13, true) := with_holes c38a c38b c38c (by decide)
end Go.Proofs.YtknoiemnpllapaaGreat
end

section
namespace Go.Proofs.YtknoiemnpllapaaGreat
open Go Go.PS
theorem c44_0 : evalCall Tryz.prog hints0 200 44 [(.ptr (.heap 1) none 0), (.sl .sh 0 [])] hp14 = some ((.int Go.IntKind.i64 (0)), hp15, true) := by kernel_rfl
end Go.Proofs.YtknoiemnpllapaaGreat
end

section
namespace Go.Proofs.YtknoiemnpllapaaGreat
open Go Go.PS
theorem c44_1 : evalCall Tryz.prog hints0 200 44 [(.ptr (.heap 1) none 0), (.sl .sh 0 [])] hp16 = some ((.int Go.IntKind.i64 (0)), hp17, true) := by kernel_rfl
end Go.Proofs.YtknoiemnpllapaaGreat
end

section
namespace Go.Proofs.YtknoiemnpllapaaGreat
open Go Go.PS
theorem c44_2 : evalCall Tryz.prog hints0 200 44 [(.ptr (.heap 1) none 0), (.sl .sh 0 [])] hp18 = some ((.int Go.IntKind.i64 (0)), hp19, true) := by kernel_rfl
end Go.Proofs.YtknoiemnpllapaaGreat
end

section
namespace Go.Proofs.YtknoiemnpllapaaGreat
open Go Go.PS
theorem c44_3 : evalCall Tryz.prog hints0 200 44 [(.ptr (.heap 1) none 0), (.sl .sh 0 [])] hp20 = some ((.int Go.IntKind.i64 (0)), hp21, true) := by kernel_rfl
end Go.Proofs.YtknoiemnpllapaaGreat
end
