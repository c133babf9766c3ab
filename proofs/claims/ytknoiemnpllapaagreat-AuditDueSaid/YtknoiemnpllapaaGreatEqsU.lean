/-
  What functions of this program compute, as equations about the evaluator. No condition but those stated.
-/
import Derived.Test.YtknoiemnpllapaaGreatEqsM

set_option linter.all false
section
namespace Go.Proofs.YtknoiemnpllapaaGreat
open Go Go.PS
theorem d82_0 : evalCall Tryz.prog hints0 199 82 [.ptr (.heap 17) none 0] hp14 = some (.ptr (.heap 21) none 0, hp14, false) := by kernel_rfl
theorem d83_0 : evalCall Tryz.prog hints0 199 83 [.ptr (.heap 21) none 0] hp14 = some (.sl (.mu 3) 1 [.int .i64 1, .int .i64 128, .int .i64 64], hp14, false) := by kernel_rfl
theorem d82_1 : evalCall Tryz.prog hints0 199 82 [.ptr (.heap 17) none 0] hp16 = some (.ptr (.heap 21) none 0, hp16, false) := by kernel_rfl
theorem d83_1 : evalCall Tryz.prog hints0 199 83 [.ptr (.heap 21) none 0] hp16 = some (.sl (.mu 3) 1 [.int .i64 1, .int .i64 128, .int .i64 64], hp16, false) := by kernel_rfl
theorem d82_2 : evalCall Tryz.prog hints0 199 82 [.ptr (.heap 17) none 0] hp18 = some (.ptr (.heap 21) none 0, hp18, false) := by kernel_rfl
theorem d83_2 : evalCall Tryz.prog hints0 199 83 [.ptr (.heap 21) none 0] hp18 = some (.sl (.mu 3) 1 [.int .i64 1, .int .i64 128, .int .i64 64], hp18, false) := by kernel_rfl
theorem d82_3 : evalCall Tryz.prog hints0 199 82 [.ptr (.heap 17) none 0] hp20 = some (.ptr (.heap 21) none 0, hp20, false) := by kernel_rfl
theorem d83_3 : evalCall Tryz.prog hints0 199 83 [.ptr (.heap 21) none 0] hp20 = some (.sl (.mu 3) 1 [.int .i64 1, .int .i64 128, .int .i64 64], hp20, false) := by kernel_rfl
theorem d82_4 : evalCall Tryz.prog hints0 199 82 [.ptr (.heap 17) none 0] hp22 = some (.ptr (.heap 21) none 0, hp22, false) := by kernel_rfl
theorem d83_4 : evalCall Tryz.prog hints0 199 83 [.ptr (.heap 21) none 0] hp22 = some (.sl (.mu 3) 1 [.int .i64 1, .int .i64 128, .int .i64 64], hp22, false) := by kernel_rfl
theorem d82_5 : evalCall Tryz.prog hints0 199 82 [.ptr (.heap 17) none 0] hp24 = some (.ptr (.heap 21) none 0, hp24, false) := by kernel_rfl
theorem d83_5 : evalCall Tryz.prog hints0 199 83 [.ptr (.heap 21) none 0] hp24 = some (.sl (.mu 3) 1 [.int .i64 1, .int .i64 128, .int .i64 64], hp24, false) := by kernel_rfl
theorem d82_6 : evalCall Tryz.prog hints0 199 82 [.ptr (.heap 17) none 0] hp26 = some (.ptr (.heap 21) none 0, hp26, false) := by kernel_rfl
theorem d83_6 : evalCall Tryz.prog hints0 199 83 [.ptr (.heap 21) none 0] hp26 = some (.sl (.mu 3) 1 [.int .i64 1, .int .i64 128, .int .i64 64], hp26, false) := by kernel_rfl
theorem d82_7 : evalCall Tryz.prog hints0 199 82 [.ptr (.heap 17) none 0] hp28 = some (.ptr (.heap 21) none 0, hp28, false) := by kernel_rfl
theorem d83_7 : evalCall Tryz.prog hints0 199 83 [.ptr (.heap 21) none 0] hp28 = some (.sl (.mu 3) 1 [.int .i64 1, .int .i64 128, .int .i64 64], hp28, false) := by kernel_rfl
theorem d82_8 : evalCall Tryz.prog hints0 199 82 [.ptr (.heap 17) none 0] hp30 = some (.ptr (.heap 21) none 0, hp30, false) := by kernel_rfl
theorem d83_8 : evalCall Tryz.prog hints0 199 83 [.ptr (.heap 21) none 0] hp30 = some (.sl (.mu 3) 1 [.int .i64 1, .int .i64 128, .int .i64 64], hp30, false) := by kernel_rfl
theorem d82_9 : evalCall Tryz.prog hints0 199 82 [.ptr (.heap 17) none 0] hp32 = some (.ptr (.heap 21) none 0, hp32, false) := by kernel_rfl
theorem d83_9 : evalCall Tryz.prog hints0 199 83 [.ptr (.heap 21) none 0] hp32 = some (.sl (.mu 3) 1 [.int .i64 1, .int .i64 128, .int .i64 64], hp32, false) := by kernel_rfl
end Go.Proofs.YtknoiemnpllapaaGreat
end

section
namespace Go.Proofs.YtknoiemnpllapaaGreat
open Go Go.PS

def R30 : List UInt8 := [1, 1, 60, 0, 8, 1, 1] ++ List.replicate 57 0
def R49 : List UInt8 := [1, 1, 60, 0, 8, 1, 1] ++ (List.replicate 53 0 ++ ([60] ++ List.replicate 3 0))
def Sof (R : List UInt8) : List UInt8 := List.replicate 128 0 ++ (R ++ List.replicate 16192 0)
theorem len30 : R30.length = 64 := by rfl
theorem len49 : R49.length = 64 := by rfl
theorem lenS {R : List UInt8} (h : R.length = 64) : (Sof R).length = 16384 := by unfold Sof; simp only [List.length_append, List.length_replicate, h]
theorem z0 : PV.int .u8 ((0 : UInt8).toNat : Int) = PV.int .u8 0 := rfl
theorem rep_of {α : Type} (a : α) {k n : Nat} (h : k = n) : List.replicate k a = List.replicate n a := by rw [h]
theorem rep3 : List.replicate 16384 (PV.int .u8 0) = List.replicate 128 (PV.int .u8 0) ++ (List.replicate 8 (PV.int .u8 0) ++ List.replicate 16248 (PV.int .u8 0)) :=
  (rep_of _ (show 16384 = 128 + (8 + 16248) by decide)).trans (by rw [← List.replicate_append_replicate, ← List.replicate_append_replicate])
theorem rep57 : List.replicate 57 (PV.int .u8 0) ++ List.replicate 16192 (PV.int .u8 0) = PV.int .u8 0 :: List.replicate 16248 (PV.int .u8 0) :=
  List.replicate_append_replicate.trans ((rep_of _ (show 57 + 16192 = 16248 + 1 by decide)).trans List.replicate_succ)
theorem mem30a (n k : Nat) (A B C : List PV) (Y : List PV) (hA : A.length = k) (hY : Y.length = B.length) (a : PV) (h : List.replicate n a = A ++ (B ++ C)) : splice (List.flatten (List.replicate n [a])) k Y = A ++ (Y ++ C) := by
  rw [List.flatten_replicate_singleton, h, ← hA, splice_mid A B C Y hY]
theorem of_rep (n : Nat) : ofBytes (List.replicate n 0) = List.replicate n (PV.int .u8 0) := by
  unfold ofBytes; rw [List.map_replicate]; rfl
theorem of_app (a b : List UInt8) : ofBytes (a ++ b) = ofBytes a ++ ofBytes b := by unfold ofBytes; rw [List.map_append]
theorem eight (Z : List PV) : ofBytes [1, 1, 60, 0, 8, 1, 1] ++ (PV.int .u8 0 :: Z) = [(PV.int .u8 1), (PV.int .u8 1), (PV.int .u8 60), (PV.int .u8 0), (PV.int .u8 8), (PV.int .u8 1), (PV.int .u8 1), (PV.int .u8 0)] ++ Z := rfl
theorem mem30b : ofBytes (Sof R30) = List.replicate 128 (PV.int .u8 0) ++ ([(PV.int .u8 1), (PV.int .u8 1), (PV.int .u8 60), (PV.int .u8 0), (PV.int .u8 8), (PV.int .u8 1), (PV.int .u8 1), (PV.int .u8 0)] ++ List.replicate 16248 (PV.int .u8 0)) := by
  unfold Sof R30
  rw [of_app, of_app, of_app, of_rep, of_rep, of_rep, List.append_assoc, rep57, eight]
theorem mem30 : splice (List.flatten (List.replicate 16384 [(PV.int .u8 0)])) 128 [(PV.int .u8 1), (PV.int .u8 1), (PV.int .u8 60), (PV.int .u8 0), (PV.int .u8 8), (PV.int .u8 1), (PV.int .u8 1), (PV.int .u8 0)] = ofBytes (Sof R30) :=
  (mem30a 16384 128 _ (List.replicate 8 (PV.int .u8 0)) _ [(PV.int .u8 1), (PV.int .u8 1), (PV.int .u8 60), (PV.int .u8 0), (PV.int .u8 8), (PV.int .u8 1), (PV.int .u8 1), (PV.int .u8 0)] List.length_replicate rfl _ rep3).trans mem30b.symm
theorem mem49 : splice (splice (List.flatten (List.replicate 16384 [(PV.int .u8 0)])) 128 [(.int .u8 1), (.int .u8 1), (.int .u8 60), (.int .u8 0), (.int .u8 8), (.int .u8 1), (.int .u8 1), (.int .u8 0)]) 188 [(.int .u8 60)] = ofBytes (Sof R49) := by
  rw [mem30]
  have e57 : List.replicate 57 (PV.int .u8 0) = List.replicate 53 (PV.int .u8 0) ++ ([PV.int .u8 0] ++ List.replicate 3 (PV.int .u8 0)) := rfl
  have e : ofBytes (Sof R30) = (List.replicate 128 (PV.int .u8 0) ++ (ofBytes [1, 1, 60, 0, 8, 1, 1] ++ List.replicate 53 (PV.int .u8 0))) ++ ([PV.int .u8 0] ++ (List.replicate 3 (PV.int .u8 0) ++ List.replicate 16192 (PV.int .u8 0))) := by
    unfold Sof R30 ofBytes
    rw [List.map_append, List.map_append, List.map_append, List.map_replicate, List.map_replicate, List.map_replicate, z0, e57]
    generalize List.replicate 16192 (PV.int .u8 0) = Z
    generalize List.replicate 128 (PV.int .u8 0) = A
    simp only [List.append_assoc]
  have hl : (List.replicate 128 (PV.int .u8 0) ++ (ofBytes [1, 1, 60, 0, 8, 1, 1] ++ List.replicate 53 (PV.int .u8 0))).length = 188 := by simp only [List.length_append, List.length_replicate, len_bytes]; rfl
  have h := splice_mid (List.replicate 128 (PV.int .u8 0) ++ (ofBytes [1, 1, 60, 0, 8, 1, 1] ++ List.replicate 53 (PV.int .u8 0))) [PV.int .u8 0] (List.replicate 3 (PV.int .u8 0) ++ List.replicate 16192 (PV.int .u8 0)) [PV.int .u8 60] rfl
  rw [hl] at h
  rw [e, h]
  unfold Sof R49 ofBytes
  rw [List.map_append, List.map_append, List.map_append, List.map_append, List.map_append, List.map_replicate, List.map_replicate, List.map_replicate, List.map_replicate, z0]
  generalize List.replicate 16192 (PV.int .u8 0) = Z
  generalize List.replicate 128 (PV.int .u8 0) = A
  generalize List.replicate 53 (PV.int .u8 0) = D
  simp only [List.append_assoc]
  rfl
theorem n30 : nd30 = PS.Node.cells [.sl (.mu 1) 16384 (ofBytes (Sof R30))] := by
  rw [← mem30]; rfl
theorem n49 : nd49 = PS.Node.cells [.sl (.mu 1) 16384 (ofBytes (Sof R49))] := by
  rw [← mem49]; rfl
def look (A : Heap) : Bool := match (A[1]? : Option PS.Node) with | some (PS.Node.cells (PV.ptr (Root.heap 2) none 0 :: _)) => true | _ => false
theorem c41_of {A B : Heap} {R : List UInt8} {k : Nat} {nd : PS.Node} (hR : R.length = 64) (hn : nd = PS.Node.cells [.sl (.mu 1) 16384 (ofBytes (Sof R))]) (h1 : look A = true) (h2 : A[2]? = some nd) (hB : A ++ [nd] = B) (hl : A.length = k) :
    evalCall Tryz.prog hints0 200 41 [.ptr (.heap 1) none 0] A = some (.ptr (.heap k) none 0, B, false) := by
  obtain ⟨r, hr⟩ : ∃ r : List PV, A[1]? = some (PS.Node.cells (PV.ptr (Root.heap 2) none 0 :: r)) := by
    unfold look at h1
    split at h1
    · rename_i r h; exact ⟨r, h⟩
    · cases h1
  have h := e41 197 (Sof R) A r (lenS hR) hr (by rw [h2, hn])
  rw [← hn, hB, hl] at h
  exact h
theorem c40_of {B : Heap} {R : List UInt8} {k j : Nat} {nd : PS.Node} (hR : R.length = 64) (hn : nd = PS.Node.cells [.sl (.mu 1) 16384 (ofBytes (Sof R))]) (h2 : B[k]? = some nd)
    (h82 : evalCall Tryz.prog hints0 199 82 [.ptr (.heap 17) none 0] B = some (.ptr (.heap j) none 0, B, false)) (h83 : evalCall Tryz.prog hints0 199 83 [.ptr (.heap j) none 0] B = some (.sl (.mu 3) 1 [.int .i64 1, .int .i64 128, .int .i64 64], B, false)) :
    evalCall Tryz.prog hints0 200 40 [.ptr (.heap k) none 0, .ptr (.heap 17) none 0] B = some (.str (List.replicate 16384 0), B, false) :=
  e40 197 k j (Sof R) R B rfl hR (by rw [h2, hn]) h82 h83

theorem c41_0 : evalCall Tryz.prog hints0 200 41 [.ptr (.heap 1) none 0] hp13 = some (.ptr (.heap 28) none 0, hp14, false) := c41_of len30 n30 (by kernel_rfl) (nd := nd30) (by kernel_rfl) (by kernel_rfl) (by kernel_rfl)
theorem c40_0 : evalCall Tryz.prog hints0 200 40 [.ptr (.heap 28) none 0, .ptr (.heap 17) none 0] hp14 = some (.str tb0, hp14, false) := c40_of len30 n30 (nd := nd30) (by kernel_rfl) d82_0 d83_0
theorem c41_1 : evalCall Tryz.prog hints0 200 41 [.ptr (.heap 1) none 0] hp15 = some (.ptr (.heap 30) none 0, hp16, false) := c41_of len30 n30 (by kernel_rfl) (nd := nd30) (by kernel_rfl) (by kernel_rfl) (by kernel_rfl)
theorem c40_1 : evalCall Tryz.prog hints0 200 40 [.ptr (.heap 30) none 0, .ptr (.heap 17) none 0] hp16 = some (.str tb0, hp16, false) := c40_of len30 n30 (nd := nd30) (by kernel_rfl) d82_1 d83_1
theorem c41_2 : evalCall Tryz.prog hints0 200 41 [.ptr (.heap 1) none 0] hp17 = some (.ptr (.heap 33) none 0, hp18, false) := c41_of len30 n30 (by kernel_rfl) (nd := nd30) (by kernel_rfl) (by kernel_rfl) (by kernel_rfl)
theorem c40_2 : evalCall Tryz.prog hints0 200 40 [.ptr (.heap 33) none 0, .ptr (.heap 17) none 0] hp18 = some (.str tb0, hp18, false) := c40_of len30 n30 (nd := nd30) (by kernel_rfl) d82_2 d83_2
theorem c41_3 : evalCall Tryz.prog hints0 200 41 [.ptr (.heap 1) none 0] hp19 = some (.ptr (.heap 34) none 0, hp20, false) := c41_of len30 n30 (by kernel_rfl) (nd := nd30) (by kernel_rfl) (by kernel_rfl) (by kernel_rfl)
theorem c40_3 : evalCall Tryz.prog hints0 200 40 [.ptr (.heap 34) none 0, .ptr (.heap 17) none 0] hp20 = some (.str tb0, hp20, false) := c40_of len30 n30 (nd := nd30) (by kernel_rfl) d82_3 d83_3
theorem c41_4 : evalCall Tryz.prog hints0 200 41 [.ptr (.heap 1) none 0] hp21 = some (.ptr (.heap 35) none 0, hp22, false) := c41_of len30 n30 (by kernel_rfl) (nd := nd30) (by kernel_rfl) (by kernel_rfl) (by kernel_rfl)
theorem c40_4 : evalCall Tryz.prog hints0 200 40 [.ptr (.heap 35) none 0, .ptr (.heap 17) none 0] hp22 = some (.str tb0, hp22, false) := c40_of len30 n30 (nd := nd30) (by kernel_rfl) d82_4 d83_4
theorem c41_5 : evalCall Tryz.prog hints0 200 41 [.ptr (.heap 1) none 0] hp23 = some (.ptr (.heap 39) none 0, hp24, false) := c41_of len30 n30 (by kernel_rfl) (nd := nd30) (by kernel_rfl) (by kernel_rfl) (by kernel_rfl)
theorem c40_5 : evalCall Tryz.prog hints0 200 40 [.ptr (.heap 39) none 0, .ptr (.heap 17) none 0] hp24 = some (.str tb0, hp24, false) := c40_of len30 n30 (nd := nd30) (by kernel_rfl) d82_5 d83_5
theorem c41_6 : evalCall Tryz.prog hints0 200 41 [.ptr (.heap 1) none 0] hp25 = some (.ptr (.heap 42) none 0, hp26, false) := c41_of len49 n49 (by kernel_rfl) (nd := nd49) (by kernel_rfl) (by kernel_rfl) (by kernel_rfl)
theorem c40_6 : evalCall Tryz.prog hints0 200 40 [.ptr (.heap 42) none 0, .ptr (.heap 17) none 0] hp26 = some (.str tb0, hp26, false) := c40_of len49 n49 (nd := nd49) (by kernel_rfl) d82_6 d83_6
theorem c41_7 : evalCall Tryz.prog hints0 200 41 [.ptr (.heap 1) none 0] hp27 = some (.ptr (.heap 45) none 0, hp28, false) := c41_of len49 n49 (by kernel_rfl) (nd := nd49) (by kernel_rfl) (by kernel_rfl) (by kernel_rfl)
theorem c40_7 : evalCall Tryz.prog hints0 200 40 [.ptr (.heap 45) none 0, .ptr (.heap 17) none 0] hp28 = some (.str tb0, hp28, false) := c40_of len49 n49 (nd := nd49) (by kernel_rfl) d82_7 d83_7
theorem c41_8 : evalCall Tryz.prog hints0 200 41 [.ptr (.heap 1) none 0] hp29 = some (.ptr (.heap 46) none 0, hp30, false) := c41_of len49 n49 (by kernel_rfl) (nd := nd49) (by kernel_rfl) (by kernel_rfl) (by kernel_rfl)
theorem c40_8 : evalCall Tryz.prog hints0 200 40 [.ptr (.heap 46) none 0, .ptr (.heap 17) none 0] hp30 = some (.str tb0, hp30, false) := c40_of len49 n49 (nd := nd49) (by kernel_rfl) d82_8 d83_8
theorem c41_9 : evalCall Tryz.prog hints0 200 41 [.ptr (.heap 1) none 0] hp31 = some (.ptr (.heap 47) none 0, hp32, false) := c41_of len49 n49 (by kernel_rfl) (nd := nd49) (by kernel_rfl) (by kernel_rfl) (by kernel_rfl)
theorem c40_9 : evalCall Tryz.prog hints0 200 40 [.ptr (.heap 47) none 0, .ptr (.heap 17) none 0] hp32 = some (.str tb0, hp32, false) := c40_of len49 n49 (nd := nd49) (by kernel_rfl) d82_9 d83_9
end Go.Proofs.YtknoiemnpllapaaGreat
end

section
namespace Go.Proofs.YtknoiemnpllapaaGreat
open Go Go.PS
theorem k16 : hints0 16 = hint16 := (hz0 16 (by decide)).trans hh16
def loops : Code → List Code
  | .seq a b => loops a ++ loops b
  | .block _ (.loop c) => [c]
  | _ => []
def allLoops : Code → List Code
  | .seq a b => allLoops a ++ allLoops b
  | .block _ (.loop c) => c :: allLoops c
  | .block _ c => allLoops c
  | .cond _ a b => allLoops a ++ allLoops b
  | _ => []
theorem iter_step {body : St → Option (Ex × St)} {n : Nat} {st st1 : St} (h : body st = some (.normal, st1)) : iter body (n + 1) st = iter body n st1 := by rw [iter, h]
end Go.Proofs.YtknoiemnpllapaaGreat
end

section
namespace Go.Proofs.YtknoiemnpllapaaGreat
open Go Go.PS
def imgB : List UInt8 := [67, 1, 20, 0, 2, 0, 0, 0, 4, 0, 1, 4, 0, 20, 0, 1, 1, 4, 0, 12, 0, 1, 128, 0, 64, 0, 1, 0, 0, 2, 2, 0, 6, 0, 0, 0, 186, 46]
def prgB : List UInt8 := [1, 1, 60, 0, 8, 1, 1, 0]
def withTail : Nat → Code → Code → Code
  | 0, _, X => X
  | k + 1, .seq a b, X => .seq a (withTail k b X)
  | _, c, _ => c
def dropC : Nat → Code → Code
  | 0, c => c
  | k + 1, .seq _ b => dropC k b
  | _, c => c
theorem tail_drop : ∀ (k : Nat) (c : Code), withTail k c (dropC k c) = c
  | 0, c => by cases c <;> rfl
  | k + 1, .seq a b => by rw [withTail, dropC, tail_drop k b]
  | k + 1, .skip | k + 1, .region .. | k + 1, .cond .. | k + 1, .block .. | k + 1, .loop .. | k + 1, .exit .. | k + 1, .ret | k + 1, .goto .. | k + 1, .label .. | k + 1, .scope .. => rfl
  | k + 1, .rangeFunc .. => rfl
  | k + 1, .refuse .. => rfl
end Go.Proofs.YtknoiemnpllapaaGreat
end
