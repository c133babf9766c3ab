/-
  What the evaluator asks of the types of this program and of the hints, as rules. No condition.
-/
import Derived.Test.YtnccpffnffioeaaDoorHints
import Derived.Test.YtnccpffnffioeaaDoorPsD

set_option linter.all false
section
namespace Go.Proofs.YtnccpffnffioeaaDoor
open Go Go.PS
attribute [simp] Tryd.underlying1
@[simp] theorem sz1 : sizeT Tryd.prog 1 = 1 := by kernel_rfl
@[simp] theorem ag1 : isAggT Tryd.prog 1 = false := by kernel_rfl
@[simp] theorem in1 : (Tryd.prog.info? 1).isSome = true := by kernel_rfl
@[simp] theorem ze1 : zeroT Tryd.prog 1 = some [.raw .nilFunc] := by kernel_rfl
@[simp] theorem fi1 (m : Nat) : fits Tryd.prog 1 m = decide (m * 8 ≤ 140737488355328) := fits_at ze1 (by kernel_rfl) m
@[simp] theorem an1 (n : Int) : (Tryd.prog.info? 1).any (fun i => decide ((i.bytes : Int) * n ≤ 140737488355328)) = decide (8 * n ≤ 140737488355328) := any_at (by kernel_rfl) n
attribute [simp] Tryd.underlying2
@[simp] theorem sz2 : sizeT Tryd.prog 2 = 1 := by kernel_rfl
@[simp] theorem ag2 : isAggT Tryd.prog 2 = false := by kernel_rfl
@[simp] theorem in2 : (Tryd.prog.info? 2).isSome = true := by kernel_rfl
@[simp] theorem ze2 : zeroT Tryd.prog 2 = some [.int .i64 0] := by kernel_rfl
@[simp] theorem fi2 (m : Nat) : fits Tryd.prog 2 m = decide (m * 8 ≤ 140737488355328) := fits_at ze2 (by kernel_rfl) m
@[simp] theorem an2 (n : Int) : (Tryd.prog.info? 2).any (fun i => decide ((i.bytes : Int) * n ≤ 140737488355328)) = decide (8 * n ≤ 140737488355328) := any_at (by kernel_rfl) n
attribute [simp] Tryd.underlying3
@[simp] theorem sz3 : sizeT Tryd.prog 3 = 1 := by kernel_rfl
@[simp] theorem ag3 : isAggT Tryd.prog 3 = false := by kernel_rfl
@[simp] theorem in3 : (Tryd.prog.info? 3).isSome = true := by kernel_rfl
@[simp] theorem ze3 : zeroT Tryd.prog 3 = some [.int .i64 0] := by kernel_rfl
@[simp] theorem fi3 (m : Nat) : fits Tryd.prog 3 m = decide (m * 8 ≤ 140737488355328) := fits_at ze3 (by kernel_rfl) m
@[simp] theorem an3 (n : Int) : (Tryd.prog.info? 3).any (fun i => decide ((i.bytes : Int) * n ≤ 140737488355328)) = decide (8 * n ≤ 140737488355328) := any_at (by kernel_rfl) n
attribute [simp] Tryd.underlying4
@[simp] theorem sz4 : sizeT Tryd.prog 4 = 1 := by kernel_rfl
@[simp] theorem ag4 : isAggT Tryd.prog 4 = false := by kernel_rfl
@[simp] theorem in4 : (Tryd.prog.info? 4).isSome = true := by kernel_rfl
@[simp] theorem ze4 : zeroT Tryd.prog 4 = some [.bool false] := by kernel_rfl
@[simp] theorem fi4 (m : Nat) : fits Tryd.prog 4 m = decide (m * 1 ≤ 140737488355328) := fits_at ze4 (by kernel_rfl) m
@[simp] theorem an4 (n : Int) : (Tryd.prog.info? 4).any (fun i => decide ((i.bytes : Int) * n ≤ 140737488355328)) = decide (1 * n ≤ 140737488355328) := any_at (by kernel_rfl) n
attribute [simp] Tryd.underlying5
@[simp] theorem sz5 : sizeT Tryd.prog 5 = 1 := by kernel_rfl
@[simp] theorem ag5 : isAggT Tryd.prog 5 = false := by kernel_rfl
@[simp] theorem in5 : (Tryd.prog.info? 5).isSome = true := by kernel_rfl
@[simp] theorem ze5 : zeroT Tryd.prog 5 = some [.int .u8 0] := by kernel_rfl
@[simp] theorem fi5 (m : Nat) : fits Tryd.prog 5 m = decide (m * 1 ≤ 140737488355328) := fits_at ze5 (by kernel_rfl) m
@[simp] theorem an5 (n : Int) : (Tryd.prog.info? 5).any (fun i => decide ((i.bytes : Int) * n ≤ 140737488355328)) = decide (1 * n ≤ 140737488355328) := any_at (by kernel_rfl) n
attribute [simp] Tryd.underlying6
@[simp] theorem sz6 : sizeT Tryd.prog 6 = 1 := by kernel_rfl
@[simp] theorem ag6 : isAggT Tryd.prog 6 = false := by kernel_rfl
@[simp] theorem in6 : (Tryd.prog.info? 6).isSome = true := by kernel_rfl
@[simp] theorem ze6 : zeroT Tryd.prog 6 = some [.int .u8 0] := by kernel_rfl
@[simp] theorem fi6 (m : Nat) : fits Tryd.prog 6 m = decide (m * 1 ≤ 140737488355328) := fits_at ze6 (by kernel_rfl) m
@[simp] theorem an6 (n : Int) : (Tryd.prog.info? 6).any (fun i => decide ((i.bytes : Int) * n ≤ 140737488355328)) = decide (1 * n ≤ 140737488355328) := any_at (by kernel_rfl) n
attribute [simp] Tryd.underlying7
@[simp] theorem sz7 : sizeT Tryd.prog 7 = 4 := by kernel_rfl
@[simp] theorem ag7 : isAggT Tryd.prog 7 = true := by kernel_rfl
@[simp] theorem in7 : (Tryd.prog.info? 7).isSome = true := by kernel_rfl
@[simp] theorem ze7 : zeroT Tryd.prog 7 = some [.int .i64 0, .int .i64 0, .bool false, .int .u8 0] := by kernel_rfl
@[simp] theorem fi7 (m : Nat) : fits Tryd.prog 7 m = decide (m * 24 ≤ 140737488355328) := fits_at ze7 (by kernel_rfl) m
@[simp] theorem an7 (n : Int) : (Tryd.prog.info? 7).any (fun i => decide ((i.bytes : Int) * n ≤ 140737488355328)) = decide (24 * n ≤ 140737488355328) := any_at (by kernel_rfl) n
attribute [simp] Tryd.underlying8
@[simp] theorem sz8 : sizeT Tryd.prog 8 = 4 := by kernel_rfl
@[simp] theorem ag8 : isAggT Tryd.prog 8 = true := by kernel_rfl
@[simp] theorem in8 : (Tryd.prog.info? 8).isSome = true := by kernel_rfl
@[simp] theorem ze8 : zeroT Tryd.prog 8 = some [.int .i64 0, .int .i64 0, .bool false, .int .u8 0] := by kernel_rfl
@[simp] theorem fi8 (m : Nat) : fits Tryd.prog 8 m = decide (m * 24 ≤ 140737488355328) := fits_at ze8 (by kernel_rfl) m
@[simp] theorem an8 (n : Int) : (Tryd.prog.info? 8).any (fun i => decide ((i.bytes : Int) * n ≤ 140737488355328)) = decide (24 * n ≤ 140737488355328) := any_at (by kernel_rfl) n
attribute [simp] Tryd.underlying9
@[simp] theorem sz9 : sizeT Tryd.prog 9 = 1 := by kernel_rfl
@[simp] theorem ag9 : isAggT Tryd.prog 9 = false := by kernel_rfl
@[simp] theorem in9 : (Tryd.prog.info? 9).isSome = true := by kernel_rfl
@[simp] theorem ze9 : zeroT Tryd.prog 9 = some [.str []] := by kernel_rfl
@[simp] theorem fi9 (m : Nat) : fits Tryd.prog 9 m = decide (m * 16 ≤ 140737488355328) := fits_at ze9 (by kernel_rfl) m
@[simp] theorem an9 (n : Int) : (Tryd.prog.info? 9).any (fun i => decide ((i.bytes : Int) * n ≤ 140737488355328)) = decide (16 * n ≤ 140737488355328) := any_at (by kernel_rfl) n
attribute [simp] Tryd.underlying10
@[simp] theorem sz10 : sizeT Tryd.prog 10 = 1 := by kernel_rfl
@[simp] theorem ag10 : isAggT Tryd.prog 10 = false := by kernel_rfl
@[simp] theorem in10 : (Tryd.prog.info? 10).isSome = true := by kernel_rfl
@[simp] theorem ze10 : zeroT Tryd.prog 10 = some [.str []] := by kernel_rfl
@[simp] theorem fi10 (m : Nat) : fits Tryd.prog 10 m = decide (m * 16 ≤ 140737488355328) := fits_at ze10 (by kernel_rfl) m
@[simp] theorem an10 (n : Int) : (Tryd.prog.info? 10).any (fun i => decide ((i.bytes : Int) * n ≤ 140737488355328)) = decide (16 * n ≤ 140737488355328) := any_at (by kernel_rfl) n
attribute [simp] Tryd.underlying11
@[simp] theorem sz11 : sizeT Tryd.prog 11 = 1 := by kernel_rfl
@[simp] theorem ag11 : isAggT Tryd.prog 11 = false := by kernel_rfl
@[simp] theorem in11 : (Tryd.prog.info? 11).isSome = true := by kernel_rfl
@[simp] theorem ze11 : zeroT Tryd.prog 11 = some [.str []] := by kernel_rfl
@[simp] theorem fi11 (m : Nat) : fits Tryd.prog 11 m = decide (m * 16 ≤ 140737488355328) := fits_at ze11 (by kernel_rfl) m
@[simp] theorem an11 (n : Int) : (Tryd.prog.info? 11).any (fun i => decide ((i.bytes : Int) * n ≤ 140737488355328)) = decide (16 * n ≤ 140737488355328) := any_at (by kernel_rfl) n
attribute [simp] Tryd.underlying12
@[simp] theorem sz12 : sizeT Tryd.prog 12 = 1 := by kernel_rfl
@[simp] theorem ag12 : isAggT Tryd.prog 12 = false := by kernel_rfl
@[simp] theorem in12 : (Tryd.prog.info? 12).isSome = true := by kernel_rfl
@[simp] theorem ze12 : zeroT Tryd.prog 12 = some [.int .u64 0] := by kernel_rfl
@[simp] theorem fi12 (m : Nat) : fits Tryd.prog 12 m = decide (m * 8 ≤ 140737488355328) := fits_at ze12 (by kernel_rfl) m
@[simp] theorem an12 (n : Int) : (Tryd.prog.info? 12).any (fun i => decide ((i.bytes : Int) * n ≤ 140737488355328)) = decide (8 * n ≤ 140737488355328) := any_at (by kernel_rfl) n
attribute [simp] Tryd.underlying13
@[simp] theorem sz13 : sizeT Tryd.prog 13 = 2 := by kernel_rfl
@[simp] theorem ag13 : isAggT Tryd.prog 13 = true := by kernel_rfl
@[simp] theorem in13 : (Tryd.prog.info? 13).isSome = true := by kernel_rfl
@[simp] theorem ze13 : zeroT Tryd.prog 13 = some [.str [], .int .u64 0] := by kernel_rfl
@[simp] theorem fi13 (m : Nat) : fits Tryd.prog 13 m = decide (m * 24 ≤ 140737488355328) := fits_at ze13 (by kernel_rfl) m
@[simp] theorem an13 (n : Int) : (Tryd.prog.info? 13).any (fun i => decide ((i.bytes : Int) * n ≤ 140737488355328)) = decide (24 * n ≤ 140737488355328) := any_at (by kernel_rfl) n
attribute [simp] Tryd.underlying14
@[simp] theorem sz14 : sizeT Tryd.prog 14 = 2 := by kernel_rfl
@[simp] theorem ag14 : isAggT Tryd.prog 14 = true := by kernel_rfl
@[simp] theorem in14 : (Tryd.prog.info? 14).isSome = true := by kernel_rfl
@[simp] theorem ze14 : zeroT Tryd.prog 14 = some [.str [], .int .u64 0] := by kernel_rfl
@[simp] theorem fi14 (m : Nat) : fits Tryd.prog 14 m = decide (m * 24 ≤ 140737488355328) := fits_at ze14 (by kernel_rfl) m
@[simp] theorem an14 (n : Int) : (Tryd.prog.info? 14).any (fun i => decide ((i.bytes : Int) * n ≤ 140737488355328)) = decide (24 * n ≤ 140737488355328) := any_at (by kernel_rfl) n
attribute [simp] Tryd.underlying15
@[simp] theorem sz15 : sizeT Tryd.prog 15 = 1 := by kernel_rfl
@[simp] theorem ag15 : isAggT Tryd.prog 15 = false := by kernel_rfl
@[simp] theorem in15 : (Tryd.prog.info? 15).isSome = true := by kernel_rfl
@[simp] theorem ze15 : zeroT Tryd.prog 15 = some [.nilp] := by kernel_rfl
@[simp] theorem fi15 (m : Nat) : fits Tryd.prog 15 m = decide (m * 8 ≤ 140737488355328) := fits_at ze15 (by kernel_rfl) m
@[simp] theorem an15 (n : Int) : (Tryd.prog.info? 15).any (fun i => decide ((i.bytes : Int) * n ≤ 140737488355328)) = decide (8 * n ≤ 140737488355328) := any_at (by kernel_rfl) n
attribute [simp] Tryd.underlying16
@[simp] theorem sz16 : sizeT Tryd.prog 16 = 1 := by kernel_rfl
@[simp] theorem ag16 : isAggT Tryd.prog 16 = false := by kernel_rfl
@[simp] theorem in16 : (Tryd.prog.info? 16).isSome = true := by kernel_rfl
@[simp] theorem ze16 : zeroT Tryd.prog 16 = some [.nilp] := by kernel_rfl
@[simp] theorem fi16 (m : Nat) : fits Tryd.prog 16 m = decide (m * 8 ≤ 140737488355328) := fits_at ze16 (by kernel_rfl) m
@[simp] theorem an16 (n : Int) : (Tryd.prog.info? 16).any (fun i => decide ((i.bytes : Int) * n ≤ 140737488355328)) = decide (8 * n ≤ 140737488355328) := any_at (by kernel_rfl) n
attribute [simp] Tryd.underlying17
@[simp] theorem sz17 : sizeT Tryd.prog 17 = 1 := by kernel_rfl
@[simp] theorem ag17 : isAggT Tryd.prog 17 = false := by kernel_rfl
@[simp] theorem in17 : (Tryd.prog.info? 17).isSome = true := by kernel_rfl
@[simp] theorem ze17 : zeroT Tryd.prog 17 = some [.nilp] := by kernel_rfl
@[simp] theorem fi17 (m : Nat) : fits Tryd.prog 17 m = decide (m * 8 ≤ 140737488355328) := fits_at ze17 (by kernel_rfl) m
@[simp] theorem an17 (n : Int) : (Tryd.prog.info? 17).any (fun i => decide ((i.bytes : Int) * n ≤ 140737488355328)) = decide (8 * n ≤ 140737488355328) := any_at (by kernel_rfl) n
attribute [simp] Tryd.underlying18
@[simp] theorem sz18 : sizeT Tryd.prog 18 = 1 := by kernel_rfl
@[simp] theorem ag18 : isAggT Tryd.prog 18 = true := by kernel_rfl
@[simp] theorem in18 : (Tryd.prog.info? 18).isSome = true := by kernel_rfl
@[simp] theorem ze18 : zeroT Tryd.prog 18 = some [.nilp] := by kernel_rfl
@[simp] theorem fi18 (m : Nat) : fits Tryd.prog 18 m = decide (m * 8 ≤ 140737488355328) := fits_at ze18 (by kernel_rfl) m
@[simp] theorem an18 (n : Int) : (Tryd.prog.info? 18).any (fun i => decide ((i.bytes : Int) * n ≤ 140737488355328)) = decide (8 * n ≤ 140737488355328) := any_at (by kernel_rfl) n
attribute [simp] Tryd.underlying19
@[simp] theorem sz19 : sizeT Tryd.prog 19 = 1 := by kernel_rfl
@[simp] theorem ag19 : isAggT Tryd.prog 19 = true := by kernel_rfl
@[simp] theorem in19 : (Tryd.prog.info? 19).isSome = true := by kernel_rfl
@[simp] theorem ze19 : zeroT Tryd.prog 19 = some [.nilp] := by kernel_rfl
@[simp] theorem fi19 (m : Nat) : fits Tryd.prog 19 m = decide (m * 8 ≤ 140737488355328) := fits_at ze19 (by kernel_rfl) m
@[simp] theorem an19 (n : Int) : (Tryd.prog.info? 19).any (fun i => decide ((i.bytes : Int) * n ≤ 140737488355328)) = decide (8 * n ≤ 140737488355328) := any_at (by kernel_rfl) n
attribute [simp] Tryd.underlying20
@[simp] theorem sz20 : sizeT Tryd.prog 20 = 1 := by kernel_rfl
@[simp] theorem ag20 : isAggT Tryd.prog 20 = false := by kernel_rfl
@[simp] theorem in20 : (Tryd.prog.info? 20).isSome = true := by kernel_rfl
@[simp] theorem ze20 : zeroT Tryd.prog 20 = some [.raw .nilIface] := by kernel_rfl
@[simp] theorem fi20 (m : Nat) : fits Tryd.prog 20 m = decide (m * 16 ≤ 140737488355328) := fits_at ze20 (by kernel_rfl) m
@[simp] theorem an20 (n : Int) : (Tryd.prog.info? 20).any (fun i => decide ((i.bytes : Int) * n ≤ 140737488355328)) = decide (16 * n ≤ 140737488355328) := any_at (by kernel_rfl) n
attribute [simp] Tryd.underlying21
@[simp] theorem sz21 : sizeT Tryd.prog 21 = 1 := by kernel_rfl
@[simp] theorem ag21 : isAggT Tryd.prog 21 = false := by kernel_rfl
@[simp] theorem in21 : (Tryd.prog.info? 21).isSome = true := by kernel_rfl
@[simp] theorem ze21 : zeroT Tryd.prog 21 = some [.int .i32 0] := by kernel_rfl
@[simp] theorem fi21 (m : Nat) : fits Tryd.prog 21 m = decide (m * 4 ≤ 140737488355328) := fits_at ze21 (by kernel_rfl) m
@[simp] theorem an21 (n : Int) : (Tryd.prog.info? 21).any (fun i => decide ((i.bytes : Int) * n ≤ 140737488355328)) = decide (4 * n ≤ 140737488355328) := any_at (by kernel_rfl) n
attribute [simp] Tryd.underlying22
@[simp] theorem sz22 : sizeT Tryd.prog 22 = 1 := by kernel_rfl
@[simp] theorem ag22 : isAggT Tryd.prog 22 = false := by kernel_rfl
@[simp] theorem in22 : (Tryd.prog.info? 22).isSome = true := by kernel_rfl
@[simp] theorem ze22 : zeroT Tryd.prog 22 = some [.raw .nilFunc] := by kernel_rfl
@[simp] theorem fi22 (m : Nat) : fits Tryd.prog 22 m = decide (m * 8 ≤ 140737488355328) := fits_at ze22 (by kernel_rfl) m
@[simp] theorem an22 (n : Int) : (Tryd.prog.info? 22).any (fun i => decide ((i.bytes : Int) * n ≤ 140737488355328)) = decide (8 * n ≤ 140737488355328) := any_at (by kernel_rfl) n
attribute [simp] Tryd.underlying23
@[simp] theorem sz23 : sizeT Tryd.prog 23 = 1 := by kernel_rfl
@[simp] theorem ag23 : isAggT Tryd.prog 23 = false := by kernel_rfl
@[simp] theorem in23 : (Tryd.prog.info? 23).isSome = true := by kernel_rfl
@[simp] theorem el23 : elemT Tryd.prog 23 = some 9 := by kernel_rfl
@[simp] theorem ze23 : zeroT Tryd.prog 23 = some [.sl (.mu 0) 0 []] := by kernel_rfl
@[simp] theorem fi23 (m : Nat) : fits Tryd.prog 23 m = decide (m * 24 ≤ 140737488355328) := fits_at ze23 (by kernel_rfl) m
@[simp] theorem an23 (n : Int) : (Tryd.prog.info? 23).any (fun i => decide ((i.bytes : Int) * n ≤ 140737488355328)) = decide (24 * n ≤ 140737488355328) := any_at (by kernel_rfl) n
attribute [simp] Tryd.underlying24
@[simp] theorem sz24 : sizeT Tryd.prog 24 = 1 := by kernel_rfl
@[simp] theorem ag24 : isAggT Tryd.prog 24 = false := by kernel_rfl
@[simp] theorem in24 : (Tryd.prog.info? 24).isSome = true := by kernel_rfl
@[simp] theorem el24 : elemT Tryd.prog 24 = some 49 := by kernel_rfl
@[simp] theorem ze24 : zeroT Tryd.prog 24 = some [.sl (.mu 0) 0 []] := by kernel_rfl
@[simp] theorem fi24 (m : Nat) : fits Tryd.prog 24 m = decide (m * 24 ≤ 140737488355328) := fits_at ze24 (by kernel_rfl) m
@[simp] theorem an24 (n : Int) : (Tryd.prog.info? 24).any (fun i => decide ((i.bytes : Int) * n ≤ 140737488355328)) = decide (24 * n ≤ 140737488355328) := any_at (by kernel_rfl) n
attribute [simp] Tryd.underlying25
@[simp] theorem sz25 : sizeT Tryd.prog 25 = 3 := by kernel_rfl
@[simp] theorem ag25 : isAggT Tryd.prog 25 = true := by kernel_rfl
@[simp] theorem in25 : (Tryd.prog.info? 25).isSome = true := by kernel_rfl
@[simp] theorem ze25 : zeroT Tryd.prog 25 = some [.str [], .sl (.mu 0) 0 [], .sl (.mu 0) 0 []] := by kernel_rfl
@[simp] theorem fi25 (m : Nat) : fits Tryd.prog 25 m = decide (m * 64 ≤ 140737488355328) := fits_at ze25 (by kernel_rfl) m
@[simp] theorem an25 (n : Int) : (Tryd.prog.info? 25).any (fun i => decide ((i.bytes : Int) * n ≤ 140737488355328)) = decide (64 * n ≤ 140737488355328) := any_at (by kernel_rfl) n
attribute [simp] Tryd.underlying26
@[simp] theorem sz26 : sizeT Tryd.prog 26 = 3 := by kernel_rfl
@[simp] theorem ag26 : isAggT Tryd.prog 26 = true := by kernel_rfl
@[simp] theorem in26 : (Tryd.prog.info? 26).isSome = true := by kernel_rfl
@[simp] theorem ze26 : zeroT Tryd.prog 26 = some [.str [], .sl (.mu 0) 0 [], .sl (.mu 0) 0 []] := by kernel_rfl
@[simp] theorem fi26 (m : Nat) : fits Tryd.prog 26 m = decide (m * 64 ≤ 140737488355328) := fits_at ze26 (by kernel_rfl) m
@[simp] theorem an26 (n : Int) : (Tryd.prog.info? 26).any (fun i => decide ((i.bytes : Int) * n ≤ 140737488355328)) = decide (64 * n ≤ 140737488355328) := any_at (by kernel_rfl) n
attribute [simp] Tryd.underlying27
@[simp] theorem sz27 : sizeT Tryd.prog 27 = 1 := by kernel_rfl
@[simp] theorem ag27 : isAggT Tryd.prog 27 = false := by kernel_rfl
@[simp] theorem in27 : (Tryd.prog.info? 27).isSome = true := by kernel_rfl
@[simp] theorem ze27 : zeroT Tryd.prog 27 = some [.int .i64 0] := by kernel_rfl
@[simp] theorem fi27 (m : Nat) : fits Tryd.prog 27 m = decide (m * 8 ≤ 140737488355328) := fits_at ze27 (by kernel_rfl) m
@[simp] theorem an27 (n : Int) : (Tryd.prog.info? 27).any (fun i => decide ((i.bytes : Int) * n ≤ 140737488355328)) = decide (8 * n ≤ 140737488355328) := any_at (by kernel_rfl) n
attribute [simp] Tryd.underlying29
@[simp] theorem sz29 : sizeT Tryd.prog 29 = 1 := by kernel_rfl
@[simp] theorem ag29 : isAggT Tryd.prog 29 = false := by kernel_rfl
@[simp] theorem in29 : (Tryd.prog.info? 29).isSome = true := by kernel_rfl
@[simp] theorem ze29 : zeroT Tryd.prog 29 = some [.raw .nilFunc] := by kernel_rfl
@[simp] theorem fi29 (m : Nat) : fits Tryd.prog 29 m = decide (m * 8 ≤ 140737488355328) := fits_at ze29 (by kernel_rfl) m
@[simp] theorem an29 (n : Int) : (Tryd.prog.info? 29).any (fun i => decide ((i.bytes : Int) * n ≤ 140737488355328)) = decide (8 * n ≤ 140737488355328) := any_at (by kernel_rfl) n
attribute [simp] Tryd.underlying30
@[simp] theorem sz30 : sizeT Tryd.prog 30 = 1 := by kernel_rfl
@[simp] theorem ag30 : isAggT Tryd.prog 30 = false := by kernel_rfl
@[simp] theorem in30 : (Tryd.prog.info? 30).isSome = true := by kernel_rfl
@[simp] theorem ze30 : zeroT Tryd.prog 30 = some [.raw .nilFunc] := by kernel_rfl
@[simp] theorem fi30 (m : Nat) : fits Tryd.prog 30 m = decide (m * 8 ≤ 140737488355328) := fits_at ze30 (by kernel_rfl) m
@[simp] theorem an30 (n : Int) : (Tryd.prog.info? 30).any (fun i => decide ((i.bytes : Int) * n ≤ 140737488355328)) = decide (8 * n ≤ 140737488355328) := any_at (by kernel_rfl) n
attribute [simp] Tryd.underlying32
@[simp] theorem sz32 : sizeT Tryd.prog 32 = 1 := by kernel_rfl
@[simp] theorem ag32 : isAggT Tryd.prog 32 = false := by kernel_rfl
@[simp] theorem in32 : (Tryd.prog.info? 32).isSome = true := by kernel_rfl
@[simp] theorem ze32 : zeroT Tryd.prog 32 = some [.raw .nilFunc] := by kernel_rfl
@[simp] theorem fi32 (m : Nat) : fits Tryd.prog 32 m = decide (m * 8 ≤ 140737488355328) := fits_at ze32 (by kernel_rfl) m
@[simp] theorem an32 (n : Int) : (Tryd.prog.info? 32).any (fun i => decide ((i.bytes : Int) * n ≤ 140737488355328)) = decide (8 * n ≤ 140737488355328) := any_at (by kernel_rfl) n
attribute [simp] Tryd.underlying33
@[simp] theorem sz33 : sizeT Tryd.prog 33 = 1 := by kernel_rfl
@[simp] theorem ag33 : isAggT Tryd.prog 33 = false := by kernel_rfl
@[simp] theorem in33 : (Tryd.prog.info? 33).isSome = true := by kernel_rfl
@[simp] theorem ze33 : zeroT Tryd.prog 33 = some [.raw .nilFunc] := by kernel_rfl
@[simp] theorem fi33 (m : Nat) : fits Tryd.prog 33 m = decide (m * 8 ≤ 140737488355328) := fits_at ze33 (by kernel_rfl) m
@[simp] theorem an33 (n : Int) : (Tryd.prog.info? 33).any (fun i => decide ((i.bytes : Int) * n ≤ 140737488355328)) = decide (8 * n ≤ 140737488355328) := any_at (by kernel_rfl) n
attribute [simp] Tryd.underlying34
@[simp] theorem sz34 : sizeT Tryd.prog 34 = 1 := by kernel_rfl
@[simp] theorem ag34 : isAggT Tryd.prog 34 = false := by kernel_rfl
@[simp] theorem in34 : (Tryd.prog.info? 34).isSome = true := by kernel_rfl
@[simp] theorem ze34 : zeroT Tryd.prog 34 = some [.nilp] := by kernel_rfl
@[simp] theorem fi34 (m : Nat) : fits Tryd.prog 34 m = decide (m * 8 ≤ 140737488355328) := fits_at ze34 (by kernel_rfl) m
@[simp] theorem an34 (n : Int) : (Tryd.prog.info? 34).any (fun i => decide ((i.bytes : Int) * n ≤ 140737488355328)) = decide (8 * n ≤ 140737488355328) := any_at (by kernel_rfl) n
attribute [simp] Tryd.underlying35
@[simp] theorem sz35 : sizeT Tryd.prog 35 = 5 := by kernel_rfl
@[simp] theorem ag35 : isAggT Tryd.prog 35 = true := by kernel_rfl
@[simp] theorem in35 : (Tryd.prog.info? 35).isSome = true := by kernel_rfl
@[simp] theorem ze35 : zeroT Tryd.prog 35 = some [.str [], .sl (.mu 0) 0 [], .sl (.mu 0) 0 [], .int .i64 0, .int .i64 0] := by kernel_rfl
@[simp] theorem fi35 (m : Nat) : fits Tryd.prog 35 m = decide (m * 80 ≤ 140737488355328) := fits_at ze35 (by kernel_rfl) m
@[simp] theorem an35 (n : Int) : (Tryd.prog.info? 35).any (fun i => decide ((i.bytes : Int) * n ≤ 140737488355328)) = decide (80 * n ≤ 140737488355328) := any_at (by kernel_rfl) n
attribute [simp] Tryd.underlying36
@[simp] theorem sz36 : sizeT Tryd.prog 36 = 5 := by kernel_rfl
@[simp] theorem ag36 : isAggT Tryd.prog 36 = true := by kernel_rfl
@[simp] theorem in36 : (Tryd.prog.info? 36).isSome = true := by kernel_rfl
@[simp] theorem ze36 : zeroT Tryd.prog 36 = some [.str [], .sl (.mu 0) 0 [], .sl (.mu 0) 0 [], .int .i64 0, .int .i64 0] := by kernel_rfl
@[simp] theorem fi36 (m : Nat) : fits Tryd.prog 36 m = decide (m * 80 ≤ 140737488355328) := fits_at ze36 (by kernel_rfl) m
@[simp] theorem an36 (n : Int) : (Tryd.prog.info? 36).any (fun i => decide ((i.bytes : Int) * n ≤ 140737488355328)) = decide (80 * n ≤ 140737488355328) := any_at (by kernel_rfl) n
attribute [simp] Tryd.underlying37
@[simp] theorem sz37 : sizeT Tryd.prog 37 = 1 := by kernel_rfl
@[simp] theorem ag37 : isAggT Tryd.prog 37 = false := by kernel_rfl
@[simp] theorem in37 : (Tryd.prog.info? 37).isSome = true := by kernel_rfl
@[simp] theorem ze37 : zeroT Tryd.prog 37 = some [.raw .nilFunc] := by kernel_rfl
@[simp] theorem fi37 (m : Nat) : fits Tryd.prog 37 m = decide (m * 8 ≤ 140737488355328) := fits_at ze37 (by kernel_rfl) m
@[simp] theorem an37 (n : Int) : (Tryd.prog.info? 37).any (fun i => decide ((i.bytes : Int) * n ≤ 140737488355328)) = decide (8 * n ≤ 140737488355328) := any_at (by kernel_rfl) n
attribute [simp] Tryd.underlying38
@[simp] theorem sz38 : sizeT Tryd.prog 38 = 1 := by kernel_rfl
@[simp] theorem ag38 : isAggT Tryd.prog 38 = false := by kernel_rfl
@[simp] theorem in38 : (Tryd.prog.info? 38).isSome = true := by kernel_rfl
@[simp] theorem ze38 : zeroT Tryd.prog 38 = some [.raw .nilFunc] := by kernel_rfl
@[simp] theorem fi38 (m : Nat) : fits Tryd.prog 38 m = decide (m * 8 ≤ 140737488355328) := fits_at ze38 (by kernel_rfl) m
@[simp] theorem an38 (n : Int) : (Tryd.prog.info? 38).any (fun i => decide ((i.bytes : Int) * n ≤ 140737488355328)) = decide (8 * n ≤ 140737488355328) := any_at (by kernel_rfl) n
attribute [simp] Tryd.underlying39
@[simp] theorem sz39 : sizeT Tryd.prog 39 = 1 := by kernel_rfl
@[simp] theorem ag39 : isAggT Tryd.prog 39 = false := by kernel_rfl
@[simp] theorem in39 : (Tryd.prog.info? 39).isSome = true := by kernel_rfl
@[simp] theorem ze39 : zeroT Tryd.prog 39 = some [.raw .nilFunc] := by kernel_rfl
@[simp] theorem fi39 (m : Nat) : fits Tryd.prog 39 m = decide (m * 8 ≤ 140737488355328) := fits_at ze39 (by kernel_rfl) m
@[simp] theorem an39 (n : Int) : (Tryd.prog.info? 39).any (fun i => decide ((i.bytes : Int) * n ≤ 140737488355328)) = decide (8 * n ≤ 140737488355328) := any_at (by kernel_rfl) n
attribute [simp] Tryd.underlying41
@[simp] theorem sz41 : sizeT Tryd.prog 41 = 1 := by kernel_rfl
@[simp] theorem ag41 : isAggT Tryd.prog 41 = false := by kernel_rfl
@[simp] theorem in41 : (Tryd.prog.info? 41).isSome = true := by kernel_rfl
@[simp] theorem ze41 : zeroT Tryd.prog 41 = some [.raw .nilFunc] := by kernel_rfl
@[simp] theorem fi41 (m : Nat) : fits Tryd.prog 41 m = decide (m * 8 ≤ 140737488355328) := fits_at ze41 (by kernel_rfl) m
@[simp] theorem an41 (n : Int) : (Tryd.prog.info? 41).any (fun i => decide ((i.bytes : Int) * n ≤ 140737488355328)) = decide (8 * n ≤ 140737488355328) := any_at (by kernel_rfl) n
attribute [simp] Tryd.underlying42
@[simp] theorem sz42 : sizeT Tryd.prog 42 = 1 := by kernel_rfl
@[simp] theorem ag42 : isAggT Tryd.prog 42 = false := by kernel_rfl
@[simp] theorem in42 : (Tryd.prog.info? 42).isSome = true := by kernel_rfl
@[simp] theorem ze42 : zeroT Tryd.prog 42 = some [.int .u8 0] := by kernel_rfl
@[simp] theorem fi42 (m : Nat) : fits Tryd.prog 42 m = decide (m * 1 ≤ 140737488355328) := fits_at ze42 (by kernel_rfl) m
@[simp] theorem an42 (n : Int) : (Tryd.prog.info? 42).any (fun i => decide ((i.bytes : Int) * n ≤ 140737488355328)) = decide (1 * n ≤ 140737488355328) := any_at (by kernel_rfl) n
attribute [simp] Tryd.underlying43
@[simp] theorem sz43 : sizeT Tryd.prog 43 = 1 := by kernel_rfl
@[simp] theorem ag43 : isAggT Tryd.prog 43 = false := by kernel_rfl
@[simp] theorem in43 : (Tryd.prog.info? 43).isSome = true := by kernel_rfl
@[simp] theorem ze43 : zeroT Tryd.prog 43 = some [.raw (.complex .f64 0 0)] := by kernel_rfl
@[simp] theorem fi43 (m : Nat) : fits Tryd.prog 43 m = decide (m * 16 ≤ 140737488355328) := fits_at ze43 (by kernel_rfl) m
@[simp] theorem an43 (n : Int) : (Tryd.prog.info? 43).any (fun i => decide ((i.bytes : Int) * n ≤ 140737488355328)) = decide (16 * n ≤ 140737488355328) := any_at (by kernel_rfl) n
attribute [simp] Tryd.underlying44
@[simp] theorem sz44 : sizeT Tryd.prog 44 = 4 := by kernel_rfl
@[simp] theorem ag44 : isAggT Tryd.prog 44 = true := by kernel_rfl
@[simp] theorem in44 : (Tryd.prog.info? 44).isSome = true := by kernel_rfl
@[simp] theorem ze44 : zeroT Tryd.prog 44 = some [.raw (.complex .f64 0 0), .raw (.complex .f64 0 0), .raw (.complex .f64 0 0), .raw (.complex .f64 0 0)] := by kernel_rfl
@[simp] theorem fi44 (m : Nat) : fits Tryd.prog 44 m = decide (m * 64 ≤ 140737488355328) := fits_at ze44 (by kernel_rfl) m
@[simp] theorem an44 (n : Int) : (Tryd.prog.info? 44).any (fun i => decide ((i.bytes : Int) * n ≤ 140737488355328)) = decide (64 * n ≤ 140737488355328) := any_at (by kernel_rfl) n
attribute [simp] Tryd.underlying45
@[simp] theorem sz45 : sizeT Tryd.prog 45 = 8 := by kernel_rfl
@[simp] theorem ag45 : isAggT Tryd.prog 45 = true := by kernel_rfl
@[simp] theorem in45 : (Tryd.prog.info? 45).isSome = true := by kernel_rfl
@[simp] theorem ze45 : zeroT Tryd.prog 45 = some [.int .u8 0, .int .i64 0, .int .i64 0, .raw (.complex .f64 0 0), .raw (.complex .f64 0 0), .raw (.complex .f64 0 0), .raw (.complex .f64 0 0), .str []] := by kernel_rfl
@[simp] theorem fi45 (m : Nat) : fits Tryd.prog 45 m = decide (m * 104 ≤ 140737488355328) := fits_at ze45 (by kernel_rfl) m
@[simp] theorem an45 (n : Int) : (Tryd.prog.info? 45).any (fun i => decide ((i.bytes : Int) * n ≤ 140737488355328)) = decide (104 * n ≤ 140737488355328) := any_at (by kernel_rfl) n
attribute [simp] Tryd.underlying46
@[simp] theorem sz46 : sizeT Tryd.prog 46 = 8 := by kernel_rfl
@[simp] theorem ag46 : isAggT Tryd.prog 46 = true := by kernel_rfl
@[simp] theorem in46 : (Tryd.prog.info? 46).isSome = true := by kernel_rfl
@[simp] theorem ze46 : zeroT Tryd.prog 46 = some [.int .u8 0, .int .i64 0, .int .i64 0, .raw (.complex .f64 0 0), .raw (.complex .f64 0 0), .raw (.complex .f64 0 0), .raw (.complex .f64 0 0), .str []] := by kernel_rfl
@[simp] theorem fi46 (m : Nat) : fits Tryd.prog 46 m = decide (m * 104 ≤ 140737488355328) := fits_at ze46 (by kernel_rfl) m
@[simp] theorem an46 (n : Int) : (Tryd.prog.info? 46).any (fun i => decide ((i.bytes : Int) * n ≤ 140737488355328)) = decide (104 * n ≤ 140737488355328) := any_at (by kernel_rfl) n
attribute [simp] Tryd.underlying48
@[simp] theorem sz48 : sizeT Tryd.prog 48 = 1 := by kernel_rfl
@[simp] theorem ag48 : isAggT Tryd.prog 48 = false := by kernel_rfl
@[simp] theorem in48 : (Tryd.prog.info? 48).isSome = true := by kernel_rfl
@[simp] theorem ze48 : zeroT Tryd.prog 48 = some [.raw .nilFunc] := by kernel_rfl
@[simp] theorem fi48 (m : Nat) : fits Tryd.prog 48 m = decide (m * 8 ≤ 140737488355328) := fits_at ze48 (by kernel_rfl) m
@[simp] theorem an48 (n : Int) : (Tryd.prog.info? 48).any (fun i => decide ((i.bytes : Int) * n ≤ 140737488355328)) = decide (8 * n ≤ 140737488355328) := any_at (by kernel_rfl) n
attribute [simp] Tryd.underlying49
@[simp] theorem sz49 : sizeT Tryd.prog 49 = 1 := by kernel_rfl
@[simp] theorem ag49 : isAggT Tryd.prog 49 = false := by kernel_rfl
@[simp] theorem in49 : (Tryd.prog.info? 49).isSome = true := by kernel_rfl
@[simp] theorem el49 : elemT Tryd.prog 49 = some 46 := by kernel_rfl
@[simp] theorem ze49 : zeroT Tryd.prog 49 = some [.sl (.mu 0) 0 []] := by kernel_rfl
@[simp] theorem fi49 (m : Nat) : fits Tryd.prog 49 m = decide (m * 24 ≤ 140737488355328) := fits_at ze49 (by kernel_rfl) m
@[simp] theorem an49 (n : Int) : (Tryd.prog.info? 49).any (fun i => decide ((i.bytes : Int) * n ≤ 140737488355328)) = decide (24 * n ≤ 140737488355328) := any_at (by kernel_rfl) n
attribute [simp] Tryd.underlying50
@[simp] theorem sz50 : sizeT Tryd.prog 50 = 1 := by kernel_rfl
@[simp] theorem ag50 : isAggT Tryd.prog 50 = false := by kernel_rfl
@[simp] theorem in50 : (Tryd.prog.info? 50).isSome = true := by kernel_rfl
@[simp] theorem ze50 : zeroT Tryd.prog 50 = some [.raw .nilFunc] := by kernel_rfl
@[simp] theorem fi50 (m : Nat) : fits Tryd.prog 50 m = decide (m * 8 ≤ 140737488355328) := fits_at ze50 (by kernel_rfl) m
@[simp] theorem an50 (n : Int) : (Tryd.prog.info? 50).any (fun i => decide ((i.bytes : Int) * n ≤ 140737488355328)) = decide (8 * n ≤ 140737488355328) := any_at (by kernel_rfl) n
attribute [simp] Tryd.underlying51
@[simp] theorem sz51 : sizeT Tryd.prog 51 = 1 := by kernel_rfl
@[simp] theorem ag51 : isAggT Tryd.prog 51 = false := by kernel_rfl
@[simp] theorem in51 : (Tryd.prog.info? 51).isSome = true := by kernel_rfl
@[simp] theorem ze51 : zeroT Tryd.prog 51 = some [.raw .nilFunc] := by kernel_rfl
@[simp] theorem fi51 (m : Nat) : fits Tryd.prog 51 m = decide (m * 8 ≤ 140737488355328) := fits_at ze51 (by kernel_rfl) m
@[simp] theorem an51 (n : Int) : (Tryd.prog.info? 51).any (fun i => decide ((i.bytes : Int) * n ≤ 140737488355328)) = decide (8 * n ≤ 140737488355328) := any_at (by kernel_rfl) n
attribute [simp] Tryd.underlying52
@[simp] theorem sz52 : sizeT Tryd.prog 52 = 1 := by kernel_rfl
@[simp] theorem ag52 : isAggT Tryd.prog 52 = false := by kernel_rfl
@[simp] theorem in52 : (Tryd.prog.info? 52).isSome = true := by kernel_rfl
@[simp] theorem ze52 : zeroT Tryd.prog 52 = some [.nilp] := by kernel_rfl
@[simp] theorem fi52 (m : Nat) : fits Tryd.prog 52 m = decide (m * 8 ≤ 140737488355328) := fits_at ze52 (by kernel_rfl) m
@[simp] theorem an52 (n : Int) : (Tryd.prog.info? 52).any (fun i => decide ((i.bytes : Int) * n ≤ 140737488355328)) = decide (8 * n ≤ 140737488355328) := any_at (by kernel_rfl) n
attribute [simp] Tryd.underlying53
@[simp] theorem sz53 : sizeT Tryd.prog 53 = 1 := by kernel_rfl
@[simp] theorem ag53 : isAggT Tryd.prog 53 = false := by kernel_rfl
@[simp] theorem in53 : (Tryd.prog.info? 53).isSome = true := by kernel_rfl
@[simp] theorem el53 : elemT Tryd.prog 53 = some 5 := by kernel_rfl
@[simp] theorem ze53 : zeroT Tryd.prog 53 = some [.sl (.mu 0) 0 []] := by kernel_rfl
@[simp] theorem fi53 (m : Nat) : fits Tryd.prog 53 m = decide (m * 24 ≤ 140737488355328) := fits_at ze53 (by kernel_rfl) m
@[simp] theorem an53 (n : Int) : (Tryd.prog.info? 53).any (fun i => decide ((i.bytes : Int) * n ≤ 140737488355328)) = decide (24 * n ≤ 140737488355328) := any_at (by kernel_rfl) n
attribute [simp] Tryd.underlying54
@[simp] theorem sz54 : sizeT Tryd.prog 54 = 2 := by kernel_rfl
@[simp] theorem ag54 : isAggT Tryd.prog 54 = true := by kernel_rfl
@[simp] theorem in54 : (Tryd.prog.info? 54).isSome = true := by kernel_rfl
@[simp] theorem ze54 : zeroT Tryd.prog 54 = some [.nilp, .sl (.mu 0) 0 []] := by kernel_rfl
@[simp] theorem fi54 (m : Nat) : fits Tryd.prog 54 m = decide (m * 32 ≤ 140737488355328) := fits_at ze54 (by kernel_rfl) m
@[simp] theorem an54 (n : Int) : (Tryd.prog.info? 54).any (fun i => decide ((i.bytes : Int) * n ≤ 140737488355328)) = decide (32 * n ≤ 140737488355328) := any_at (by kernel_rfl) n
attribute [simp] Tryd.underlying55
@[simp] theorem sz55 : sizeT Tryd.prog 55 = 2 := by kernel_rfl
@[simp] theorem ag55 : isAggT Tryd.prog 55 = true := by kernel_rfl
@[simp] theorem in55 : (Tryd.prog.info? 55).isSome = true := by kernel_rfl
@[simp] theorem ze55 : zeroT Tryd.prog 55 = some [.nilp, .sl (.mu 0) 0 []] := by kernel_rfl
@[simp] theorem fi55 (m : Nat) : fits Tryd.prog 55 m = decide (m * 32 ≤ 140737488355328) := fits_at ze55 (by kernel_rfl) m
@[simp] theorem an55 (n : Int) : (Tryd.prog.info? 55).any (fun i => decide ((i.bytes : Int) * n ≤ 140737488355328)) = decide (32 * n ≤ 140737488355328) := any_at (by kernel_rfl) n
attribute [simp] Tryd.underlying56
@[simp] theorem sz56 : sizeT Tryd.prog 56 = 1 := by kernel_rfl
@[simp] theorem ag56 : isAggT Tryd.prog 56 = false := by kernel_rfl
@[simp] theorem in56 : (Tryd.prog.info? 56).isSome = true := by kernel_rfl
@[simp] theorem ze56 : zeroT Tryd.prog 56 = some [.raw .nilIface] := by kernel_rfl
@[simp] theorem fi56 (m : Nat) : fits Tryd.prog 56 m = decide (m * 16 ≤ 140737488355328) := fits_at ze56 (by kernel_rfl) m
@[simp] theorem an56 (n : Int) : (Tryd.prog.info? 56).any (fun i => decide ((i.bytes : Int) * n ≤ 140737488355328)) = decide (16 * n ≤ 140737488355328) := any_at (by kernel_rfl) n
attribute [simp] Tryd.underlying57
@[simp] theorem sz57 : sizeT Tryd.prog 57 = 1 := by kernel_rfl
@[simp] theorem ag57 : isAggT Tryd.prog 57 = false := by kernel_rfl
@[simp] theorem in57 : (Tryd.prog.info? 57).isSome = true := by kernel_rfl
@[simp] theorem ze57 : zeroT Tryd.prog 57 = some [.raw .nilIface] := by kernel_rfl
@[simp] theorem fi57 (m : Nat) : fits Tryd.prog 57 m = decide (m * 16 ≤ 140737488355328) := fits_at ze57 (by kernel_rfl) m
@[simp] theorem an57 (n : Int) : (Tryd.prog.info? 57).any (fun i => decide ((i.bytes : Int) * n ≤ 140737488355328)) = decide (16 * n ≤ 140737488355328) := any_at (by kernel_rfl) n
attribute [simp] Tryd.underlying59
@[simp] theorem sz59 : sizeT Tryd.prog 59 = 1 := by kernel_rfl
@[simp] theorem ag59 : isAggT Tryd.prog 59 = false := by kernel_rfl
@[simp] theorem in59 : (Tryd.prog.info? 59).isSome = true := by kernel_rfl
@[simp] theorem ze59 : zeroT Tryd.prog 59 = some [.raw .nilFunc] := by kernel_rfl
@[simp] theorem fi59 (m : Nat) : fits Tryd.prog 59 m = decide (m * 8 ≤ 140737488355328) := fits_at ze59 (by kernel_rfl) m
@[simp] theorem an59 (n : Int) : (Tryd.prog.info? 59).any (fun i => decide ((i.bytes : Int) * n ≤ 140737488355328)) = decide (8 * n ≤ 140737488355328) := any_at (by kernel_rfl) n
attribute [simp] Tryd.underlying60
@[simp] theorem sz60 : sizeT Tryd.prog 60 = 1 := by kernel_rfl
@[simp] theorem ag60 : isAggT Tryd.prog 60 = false := by kernel_rfl
@[simp] theorem in60 : (Tryd.prog.info? 60).isSome = true := by kernel_rfl
@[simp] theorem ze60 : zeroT Tryd.prog 60 = some [.raw .nilFunc] := by kernel_rfl
@[simp] theorem fi60 (m : Nat) : fits Tryd.prog 60 m = decide (m * 8 ≤ 140737488355328) := fits_at ze60 (by kernel_rfl) m
@[simp] theorem an60 (n : Int) : (Tryd.prog.info? 60).any (fun i => decide ((i.bytes : Int) * n ≤ 140737488355328)) = decide (8 * n ≤ 140737488355328) := any_at (by kernel_rfl) n
attribute [simp] Tryd.underlying61
@[simp] theorem sz61 : sizeT Tryd.prog 61 = 1 := by kernel_rfl
@[simp] theorem ag61 : isAggT Tryd.prog 61 = false := by kernel_rfl
@[simp] theorem in61 : (Tryd.prog.info? 61).isSome = true := by kernel_rfl
@[simp] theorem ze61 : zeroT Tryd.prog 61 = some [.raw .nilFunc] := by kernel_rfl
@[simp] theorem fi61 (m : Nat) : fits Tryd.prog 61 m = decide (m * 8 ≤ 140737488355328) := fits_at ze61 (by kernel_rfl) m
@[simp] theorem an61 (n : Int) : (Tryd.prog.info? 61).any (fun i => decide ((i.bytes : Int) * n ≤ 140737488355328)) = decide (8 * n ≤ 140737488355328) := any_at (by kernel_rfl) n
attribute [simp] Tryd.underlying62
@[simp] theorem sz62 : sizeT Tryd.prog 62 = 1 := by kernel_rfl
@[simp] theorem ag62 : isAggT Tryd.prog 62 = false := by kernel_rfl
@[simp] theorem in62 : (Tryd.prog.info? 62).isSome = true := by kernel_rfl
@[simp] theorem ze62 : zeroT Tryd.prog 62 = some [.raw .nilFunc] := by kernel_rfl
@[simp] theorem fi62 (m : Nat) : fits Tryd.prog 62 m = decide (m * 8 ≤ 140737488355328) := fits_at ze62 (by kernel_rfl) m
@[simp] theorem an62 (n : Int) : (Tryd.prog.info? 62).any (fun i => decide ((i.bytes : Int) * n ≤ 140737488355328)) = decide (8 * n ≤ 140737488355328) := any_at (by kernel_rfl) n
attribute [simp] Tryd.underlying63
@[simp] theorem sz63 : sizeT Tryd.prog 63 = 1 := by kernel_rfl
@[simp] theorem ag63 : isAggT Tryd.prog 63 = false := by kernel_rfl
@[simp] theorem in63 : (Tryd.prog.info? 63).isSome = true := by kernel_rfl
@[simp] theorem ze63 : zeroT Tryd.prog 63 = some [.raw .nilFunc] := by kernel_rfl
@[simp] theorem fi63 (m : Nat) : fits Tryd.prog 63 m = decide (m * 8 ≤ 140737488355328) := fits_at ze63 (by kernel_rfl) m
@[simp] theorem an63 (n : Int) : (Tryd.prog.info? 63).any (fun i => decide ((i.bytes : Int) * n ≤ 140737488355328)) = decide (8 * n ≤ 140737488355328) := any_at (by kernel_rfl) n
attribute [simp] Tryd.underlying64
@[simp] theorem sz64 : sizeT Tryd.prog 64 = 1 := by kernel_rfl
@[simp] theorem ag64 : isAggT Tryd.prog 64 = false := by kernel_rfl
@[simp] theorem in64 : (Tryd.prog.info? 64).isSome = true := by kernel_rfl
@[simp] theorem ze64 : zeroT Tryd.prog 64 = some [.raw .nilFunc] := by kernel_rfl
@[simp] theorem fi64 (m : Nat) : fits Tryd.prog 64 m = decide (m * 8 ≤ 140737488355328) := fits_at ze64 (by kernel_rfl) m
@[simp] theorem an64 (n : Int) : (Tryd.prog.info? 64).any (fun i => decide ((i.bytes : Int) * n ≤ 140737488355328)) = decide (8 * n ≤ 140737488355328) := any_at (by kernel_rfl) n
attribute [simp] Tryd.underlying65
@[simp] theorem sz65 : sizeT Tryd.prog 65 = 1 := by kernel_rfl
@[simp] theorem ag65 : isAggT Tryd.prog 65 = false := by kernel_rfl
@[simp] theorem in65 : (Tryd.prog.info? 65).isSome = true := by kernel_rfl
@[simp] theorem ze65 : zeroT Tryd.prog 65 = some [.raw .nilFunc] := by kernel_rfl
@[simp] theorem fi65 (m : Nat) : fits Tryd.prog 65 m = decide (m * 8 ≤ 140737488355328) := fits_at ze65 (by kernel_rfl) m
@[simp] theorem an65 (n : Int) : (Tryd.prog.info? 65).any (fun i => decide ((i.bytes : Int) * n ≤ 140737488355328)) = decide (8 * n ≤ 140737488355328) := any_at (by kernel_rfl) n
attribute [simp] Tryd.underlying66
@[simp] theorem sz66 : sizeT Tryd.prog 66 = 1 := by kernel_rfl
@[simp] theorem ag66 : isAggT Tryd.prog 66 = false := by kernel_rfl
@[simp] theorem in66 : (Tryd.prog.info? 66).isSome = true := by kernel_rfl
@[simp] theorem ze66 : zeroT Tryd.prog 66 = some [.raw .nilFunc] := by kernel_rfl
@[simp] theorem fi66 (m : Nat) : fits Tryd.prog 66 m = decide (m * 8 ≤ 140737488355328) := fits_at ze66 (by kernel_rfl) m
@[simp] theorem an66 (n : Int) : (Tryd.prog.info? 66).any (fun i => decide ((i.bytes : Int) * n ≤ 140737488355328)) = decide (8 * n ≤ 140737488355328) := any_at (by kernel_rfl) n
attribute [simp] Tryd.underlying67
@[simp] theorem sz67 : sizeT Tryd.prog 67 = 1 := by kernel_rfl
@[simp] theorem ag67 : isAggT Tryd.prog 67 = false := by kernel_rfl
@[simp] theorem in67 : (Tryd.prog.info? 67).isSome = true := by kernel_rfl
@[simp] theorem ze67 : zeroT Tryd.prog 67 = some [.raw .nilFunc] := by kernel_rfl
@[simp] theorem fi67 (m : Nat) : fits Tryd.prog 67 m = decide (m * 8 ≤ 140737488355328) := fits_at ze67 (by kernel_rfl) m
@[simp] theorem an67 (n : Int) : (Tryd.prog.info? 67).any (fun i => decide ((i.bytes : Int) * n ≤ 140737488355328)) = decide (8 * n ≤ 140737488355328) := any_at (by kernel_rfl) n
attribute [simp] Tryd.underlying68
@[simp] theorem sz68 : sizeT Tryd.prog 68 = 1 := by kernel_rfl
@[simp] theorem ag68 : isAggT Tryd.prog 68 = false := by kernel_rfl
@[simp] theorem in68 : (Tryd.prog.info? 68).isSome = true := by kernel_rfl
@[simp] theorem ze68 : zeroT Tryd.prog 68 = some [.raw (.float .f64 0)] := by kernel_rfl
@[simp] theorem fi68 (m : Nat) : fits Tryd.prog 68 m = decide (m * 8 ≤ 140737488355328) := fits_at ze68 (by kernel_rfl) m
@[simp] theorem an68 (n : Int) : (Tryd.prog.info? 68).any (fun i => decide ((i.bytes : Int) * n ≤ 140737488355328)) = decide (8 * n ≤ 140737488355328) := any_at (by kernel_rfl) n
attribute [simp] Tryd.underlying69
@[simp] theorem sz69 : sizeT Tryd.prog 69 = 1 := by kernel_rfl
@[simp] theorem ag69 : isAggT Tryd.prog 69 = false := by kernel_rfl
@[simp] theorem in69 : (Tryd.prog.info? 69).isSome = true := by kernel_rfl
@[simp] theorem ze69 : zeroT Tryd.prog 69 = some [.raw .nilFunc] := by kernel_rfl
@[simp] theorem fi69 (m : Nat) : fits Tryd.prog 69 m = decide (m * 8 ≤ 140737488355328) := fits_at ze69 (by kernel_rfl) m
@[simp] theorem an69 (n : Int) : (Tryd.prog.info? 69).any (fun i => decide ((i.bytes : Int) * n ≤ 140737488355328)) = decide (8 * n ≤ 140737488355328) := any_at (by kernel_rfl) n
attribute [simp] Tryd.underlying70
@[simp] theorem sz70 : sizeT Tryd.prog 70 = 1 := by kernel_rfl
@[simp] theorem ag70 : isAggT Tryd.prog 70 = false := by kernel_rfl
@[simp] theorem in70 : (Tryd.prog.info? 70).isSome = true := by kernel_rfl
@[simp] theorem ze70 : zeroT Tryd.prog 70 = some [.raw .nilFunc] := by kernel_rfl
@[simp] theorem fi70 (m : Nat) : fits Tryd.prog 70 m = decide (m * 8 ≤ 140737488355328) := fits_at ze70 (by kernel_rfl) m
@[simp] theorem an70 (n : Int) : (Tryd.prog.info? 70).any (fun i => decide ((i.bytes : Int) * n ≤ 140737488355328)) = decide (8 * n ≤ 140737488355328) := any_at (by kernel_rfl) n
attribute [simp] Tryd.underlying71
@[simp] theorem sz71 : sizeT Tryd.prog 71 = 1 := by kernel_rfl
@[simp] theorem ag71 : isAggT Tryd.prog 71 = false := by kernel_rfl
@[simp] theorem in71 : (Tryd.prog.info? 71).isSome = true := by kernel_rfl
@[simp] theorem ze71 : zeroT Tryd.prog 71 = some [.raw .nilFunc] := by kernel_rfl
@[simp] theorem fi71 (m : Nat) : fits Tryd.prog 71 m = decide (m * 8 ≤ 140737488355328) := fits_at ze71 (by kernel_rfl) m
@[simp] theorem an71 (n : Int) : (Tryd.prog.info? 71).any (fun i => decide ((i.bytes : Int) * n ≤ 140737488355328)) = decide (8 * n ≤ 140737488355328) := any_at (by kernel_rfl) n
attribute [simp] Tryd.underlying72
@[simp] theorem sz72 : sizeT Tryd.prog 72 = 1 := by kernel_rfl
@[simp] theorem ag72 : isAggT Tryd.prog 72 = false := by kernel_rfl
@[simp] theorem in72 : (Tryd.prog.info? 72).isSome = true := by kernel_rfl
@[simp] theorem ze72 : zeroT Tryd.prog 72 = some [.int .u64 0] := by kernel_rfl
@[simp] theorem fi72 (m : Nat) : fits Tryd.prog 72 m = decide (m * 8 ≤ 140737488355328) := fits_at ze72 (by kernel_rfl) m
@[simp] theorem an72 (n : Int) : (Tryd.prog.info? 72).any (fun i => decide ((i.bytes : Int) * n ≤ 140737488355328)) = decide (8 * n ≤ 140737488355328) := any_at (by kernel_rfl) n
attribute [simp] Tryd.underlying73
@[simp] theorem sz73 : sizeT Tryd.prog 73 = 1 := by kernel_rfl
@[simp] theorem ag73 : isAggT Tryd.prog 73 = false := by kernel_rfl
@[simp] theorem in73 : (Tryd.prog.info? 73).isSome = true := by kernel_rfl
@[simp] theorem ze73 : zeroT Tryd.prog 73 = some [.raw .nilFunc] := by kernel_rfl
@[simp] theorem fi73 (m : Nat) : fits Tryd.prog 73 m = decide (m * 8 ≤ 140737488355328) := fits_at ze73 (by kernel_rfl) m
@[simp] theorem an73 (n : Int) : (Tryd.prog.info? 73).any (fun i => decide ((i.bytes : Int) * n ≤ 140737488355328)) = decide (8 * n ≤ 140737488355328) := any_at (by kernel_rfl) n
attribute [simp] Tryd.underlying74
@[simp] theorem sz74 : sizeT Tryd.prog 74 = 1 := by kernel_rfl
@[simp] theorem ag74 : isAggT Tryd.prog 74 = false := by kernel_rfl
@[simp] theorem in74 : (Tryd.prog.info? 74).isSome = true := by kernel_rfl
@[simp] theorem ze74 : zeroT Tryd.prog 74 = some [.raw .nilFunc] := by kernel_rfl
@[simp] theorem fi74 (m : Nat) : fits Tryd.prog 74 m = decide (m * 8 ≤ 140737488355328) := fits_at ze74 (by kernel_rfl) m
@[simp] theorem an74 (n : Int) : (Tryd.prog.info? 74).any (fun i => decide ((i.bytes : Int) * n ≤ 140737488355328)) = decide (8 * n ≤ 140737488355328) := any_at (by kernel_rfl) n
attribute [simp] Tryd.underlying75
@[simp] theorem sz75 : sizeT Tryd.prog 75 = 1 := by kernel_rfl
@[simp] theorem ag75 : isAggT Tryd.prog 75 = false := by kernel_rfl
@[simp] theorem in75 : (Tryd.prog.info? 75).isSome = true := by kernel_rfl
@[simp] theorem ze75 : zeroT Tryd.prog 75 = some [.raw .nilFunc] := by kernel_rfl
@[simp] theorem fi75 (m : Nat) : fits Tryd.prog 75 m = decide (m * 8 ≤ 140737488355328) := fits_at ze75 (by kernel_rfl) m
@[simp] theorem an75 (n : Int) : (Tryd.prog.info? 75).any (fun i => decide ((i.bytes : Int) * n ≤ 140737488355328)) = decide (8 * n ≤ 140737488355328) := any_at (by kernel_rfl) n
attribute [simp] Tryd.underlying76
@[simp] theorem sz76 : sizeT Tryd.prog 76 = 1 := by kernel_rfl
@[simp] theorem ag76 : isAggT Tryd.prog 76 = false := by kernel_rfl
@[simp] theorem in76 : (Tryd.prog.info? 76).isSome = true := by kernel_rfl
@[simp] theorem ze76 : zeroT Tryd.prog 76 = some [.raw .nilFunc] := by kernel_rfl
@[simp] theorem fi76 (m : Nat) : fits Tryd.prog 76 m = decide (m * 8 ≤ 140737488355328) := fits_at ze76 (by kernel_rfl) m
@[simp] theorem an76 (n : Int) : (Tryd.prog.info? 76).any (fun i => decide ((i.bytes : Int) * n ≤ 140737488355328)) = decide (8 * n ≤ 140737488355328) := any_at (by kernel_rfl) n
attribute [simp] Tryd.underlying77
@[simp] theorem sz77 : sizeT Tryd.prog 77 = 1 := by kernel_rfl
@[simp] theorem ag77 : isAggT Tryd.prog 77 = false := by kernel_rfl
@[simp] theorem in77 : (Tryd.prog.info? 77).isSome = true := by kernel_rfl
@[simp] theorem ze77 : zeroT Tryd.prog 77 = some [.raw .nilFunc] := by kernel_rfl
@[simp] theorem fi77 (m : Nat) : fits Tryd.prog 77 m = decide (m * 8 ≤ 140737488355328) := fits_at ze77 (by kernel_rfl) m
@[simp] theorem an77 (n : Int) : (Tryd.prog.info? 77).any (fun i => decide ((i.bytes : Int) * n ≤ 140737488355328)) = decide (8 * n ≤ 140737488355328) := any_at (by kernel_rfl) n
attribute [simp] Tryd.underlying78
@[simp] theorem sz78 : sizeT Tryd.prog 78 = 1 := by kernel_rfl
@[simp] theorem ag78 : isAggT Tryd.prog 78 = false := by kernel_rfl
@[simp] theorem in78 : (Tryd.prog.info? 78).isSome = true := by kernel_rfl
@[simp] theorem ze78 : zeroT Tryd.prog 78 = some [.nilp] := by kernel_rfl
@[simp] theorem fi78 (m : Nat) : fits Tryd.prog 78 m = decide (m * 8 ≤ 140737488355328) := fits_at ze78 (by kernel_rfl) m
@[simp] theorem an78 (n : Int) : (Tryd.prog.info? 78).any (fun i => decide ((i.bytes : Int) * n ≤ 140737488355328)) = decide (8 * n ≤ 140737488355328) := any_at (by kernel_rfl) n
attribute [simp] Tryd.underlying79
@[simp] theorem sz79 : sizeT Tryd.prog 79 = 1 := by kernel_rfl
@[simp] theorem ag79 : isAggT Tryd.prog 79 = false := by kernel_rfl
@[simp] theorem in79 : (Tryd.prog.info? 79).isSome = true := by kernel_rfl
@[simp] theorem ze79 : zeroT Tryd.prog 79 = some [.raw .nilFunc] := by kernel_rfl
@[simp] theorem fi79 (m : Nat) : fits Tryd.prog 79 m = decide (m * 8 ≤ 140737488355328) := fits_at ze79 (by kernel_rfl) m
@[simp] theorem an79 (n : Int) : (Tryd.prog.info? 79).any (fun i => decide ((i.bytes : Int) * n ≤ 140737488355328)) = decide (8 * n ≤ 140737488355328) := any_at (by kernel_rfl) n
attribute [simp] Tryd.underlying80
@[simp] theorem sz80 : sizeT Tryd.prog 80 = 1 := by kernel_rfl
@[simp] theorem ag80 : isAggT Tryd.prog 80 = false := by kernel_rfl
@[simp] theorem in80 : (Tryd.prog.info? 80).isSome = true := by kernel_rfl
@[simp] theorem ze80 : zeroT Tryd.prog 80 = some [.raw .nilFunc] := by kernel_rfl
@[simp] theorem fi80 (m : Nat) : fits Tryd.prog 80 m = decide (m * 8 ≤ 140737488355328) := fits_at ze80 (by kernel_rfl) m
@[simp] theorem an80 (n : Int) : (Tryd.prog.info? 80).any (fun i => decide ((i.bytes : Int) * n ≤ 140737488355328)) = decide (8 * n ≤ 140737488355328) := any_at (by kernel_rfl) n
attribute [simp] Tryd.underlying81
@[simp] theorem sz81 : sizeT Tryd.prog 81 = 1 := by kernel_rfl
@[simp] theorem ag81 : isAggT Tryd.prog 81 = false := by kernel_rfl
@[simp] theorem in81 : (Tryd.prog.info? 81).isSome = true := by kernel_rfl
@[simp] theorem ze81 : zeroT Tryd.prog 81 = some [.raw .nilFunc] := by kernel_rfl
@[simp] theorem fi81 (m : Nat) : fits Tryd.prog 81 m = decide (m * 8 ≤ 140737488355328) := fits_at ze81 (by kernel_rfl) m
@[simp] theorem an81 (n : Int) : (Tryd.prog.info? 81).any (fun i => decide ((i.bytes : Int) * n ≤ 140737488355328)) = decide (8 * n ≤ 140737488355328) := any_at (by kernel_rfl) n
attribute [simp] Tryd.underlying83
@[simp] theorem sz83 : sizeT Tryd.prog 83 = 1 := by kernel_rfl
@[simp] theorem ag83 : isAggT Tryd.prog 83 = false := by kernel_rfl
@[simp] theorem in83 : (Tryd.prog.info? 83).isSome = true := by kernel_rfl
@[simp] theorem ze83 : zeroT Tryd.prog 83 = some [.raw .nilFunc] := by kernel_rfl
@[simp] theorem fi83 (m : Nat) : fits Tryd.prog 83 m = decide (m * 8 ≤ 140737488355328) := fits_at ze83 (by kernel_rfl) m
@[simp] theorem an83 (n : Int) : (Tryd.prog.info? 83).any (fun i => decide ((i.bytes : Int) * n ≤ 140737488355328)) = decide (8 * n ≤ 140737488355328) := any_at (by kernel_rfl) n
attribute [simp] Tryd.underlying85
@[simp] theorem sz85 : sizeT Tryd.prog 85 = 1 := by kernel_rfl
@[simp] theorem ag85 : isAggT Tryd.prog 85 = false := by kernel_rfl
@[simp] theorem in85 : (Tryd.prog.info? 85).isSome = true := by kernel_rfl
@[simp] theorem ze85 : zeroT Tryd.prog 85 = some [.raw .nilFunc] := by kernel_rfl
@[simp] theorem fi85 (m : Nat) : fits Tryd.prog 85 m = decide (m * 8 ≤ 140737488355328) := fits_at ze85 (by kernel_rfl) m
@[simp] theorem an85 (n : Int) : (Tryd.prog.info? 85).any (fun i => decide ((i.bytes : Int) * n ≤ 140737488355328)) = decide (8 * n ≤ 140737488355328) := any_at (by kernel_rfl) n
attribute [simp] Tryd.underlying86
@[simp] theorem sz86 : sizeT Tryd.prog 86 = 1 := by kernel_rfl
@[simp] theorem ag86 : isAggT Tryd.prog 86 = false := by kernel_rfl
@[simp] theorem in86 : (Tryd.prog.info? 86).isSome = true := by kernel_rfl
@[simp] theorem ze86 : zeroT Tryd.prog 86 = some [.int .u64 0] := by kernel_rfl
@[simp] theorem fi86 (m : Nat) : fits Tryd.prog 86 m = decide (m * 8 ≤ 140737488355328) := fits_at ze86 (by kernel_rfl) m
@[simp] theorem an86 (n : Int) : (Tryd.prog.info? 86).any (fun i => decide ((i.bytes : Int) * n ≤ 140737488355328)) = decide (8 * n ≤ 140737488355328) := any_at (by kernel_rfl) n
attribute [simp] Tryd.underlying87
@[simp] theorem sz87 : sizeT Tryd.prog 87 = 1 := by kernel_rfl
@[simp] theorem ag87 : isAggT Tryd.prog 87 = false := by kernel_rfl
@[simp] theorem in87 : (Tryd.prog.info? 87).isSome = true := by kernel_rfl
@[simp] theorem ze87 : zeroT Tryd.prog 87 = some [.raw .nilFunc] := by kernel_rfl
@[simp] theorem fi87 (m : Nat) : fits Tryd.prog 87 m = decide (m * 8 ≤ 140737488355328) := fits_at ze87 (by kernel_rfl) m
@[simp] theorem an87 (n : Int) : (Tryd.prog.info? 87).any (fun i => decide ((i.bytes : Int) * n ≤ 140737488355328)) = decide (8 * n ≤ 140737488355328) := any_at (by kernel_rfl) n
attribute [simp] Tryd.underlying88
@[simp] theorem sz88 : sizeT Tryd.prog 88 = 1 := by kernel_rfl
@[simp] theorem ag88 : isAggT Tryd.prog 88 = false := by kernel_rfl
@[simp] theorem in88 : (Tryd.prog.info? 88).isSome = true := by kernel_rfl
@[simp] theorem ze88 : zeroT Tryd.prog 88 = some [.raw .nilFunc] := by kernel_rfl
@[simp] theorem fi88 (m : Nat) : fits Tryd.prog 88 m = decide (m * 8 ≤ 140737488355328) := fits_at ze88 (by kernel_rfl) m
@[simp] theorem an88 (n : Int) : (Tryd.prog.info? 88).any (fun i => decide ((i.bytes : Int) * n ≤ 140737488355328)) = decide (8 * n ≤ 140737488355328) := any_at (by kernel_rfl) n
attribute [simp] Tryd.underlying90
@[simp] theorem sz90 : sizeT Tryd.prog 90 = 1 := by kernel_rfl
@[simp] theorem ag90 : isAggT Tryd.prog 90 = false := by kernel_rfl
@[simp] theorem in90 : (Tryd.prog.info? 90).isSome = true := by kernel_rfl
@[simp] theorem ze90 : zeroT Tryd.prog 90 = some [.raw .nilFunc] := by kernel_rfl
@[simp] theorem fi90 (m : Nat) : fits Tryd.prog 90 m = decide (m * 8 ≤ 140737488355328) := fits_at ze90 (by kernel_rfl) m
@[simp] theorem an90 (n : Int) : (Tryd.prog.info? 90).any (fun i => decide ((i.bytes : Int) * n ≤ 140737488355328)) = decide (8 * n ≤ 140737488355328) := any_at (by kernel_rfl) n
attribute [simp] Tryd.underlying91
@[simp] theorem sz91 : sizeT Tryd.prog 91 = 1 := by kernel_rfl
@[simp] theorem ag91 : isAggT Tryd.prog 91 = false := by kernel_rfl
@[simp] theorem in91 : (Tryd.prog.info? 91).isSome = true := by kernel_rfl
@[simp] theorem ze91 : zeroT Tryd.prog 91 = some [.raw .nilFunc] := by kernel_rfl
@[simp] theorem fi91 (m : Nat) : fits Tryd.prog 91 m = decide (m * 8 ≤ 140737488355328) := fits_at ze91 (by kernel_rfl) m
@[simp] theorem an91 (n : Int) : (Tryd.prog.info? 91).any (fun i => decide ((i.bytes : Int) * n ≤ 140737488355328)) = decide (8 * n ≤ 140737488355328) := any_at (by kernel_rfl) n
attribute [simp] Tryd.underlying92
@[simp] theorem sz92 : sizeT Tryd.prog 92 = 1 := by kernel_rfl
@[simp] theorem ag92 : isAggT Tryd.prog 92 = false := by kernel_rfl
@[simp] theorem in92 : (Tryd.prog.info? 92).isSome = true := by kernel_rfl
@[simp] theorem el92 : elemT Tryd.prog 92 = some 43 := by kernel_rfl
@[simp] theorem ze92 : zeroT Tryd.prog 92 = some [.sl (.mu 0) 0 []] := by kernel_rfl
@[simp] theorem fi92 (m : Nat) : fits Tryd.prog 92 m = decide (m * 24 ≤ 140737488355328) := fits_at ze92 (by kernel_rfl) m
@[simp] theorem an92 (n : Int) : (Tryd.prog.info? 92).any (fun i => decide ((i.bytes : Int) * n ≤ 140737488355328)) = decide (24 * n ≤ 140737488355328) := any_at (by kernel_rfl) n
attribute [simp] Tryd.underlying93
@[simp] theorem sz93 : sizeT Tryd.prog 93 = 1 := by kernel_rfl
@[simp] theorem ag93 : isAggT Tryd.prog 93 = false := by kernel_rfl
@[simp] theorem in93 : (Tryd.prog.info? 93).isSome = true := by kernel_rfl
@[simp] theorem ze93 : zeroT Tryd.prog 93 = some [.raw .nilFunc] := by kernel_rfl
@[simp] theorem fi93 (m : Nat) : fits Tryd.prog 93 m = decide (m * 8 ≤ 140737488355328) := fits_at ze93 (by kernel_rfl) m
@[simp] theorem an93 (n : Int) : (Tryd.prog.info? 93).any (fun i => decide ((i.bytes : Int) * n ≤ 140737488355328)) = decide (8 * n ≤ 140737488355328) := any_at (by kernel_rfl) n
attribute [simp] Tryd.underlying94
@[simp] theorem sz94 : sizeT Tryd.prog 94 = 1 := by kernel_rfl
@[simp] theorem ag94 : isAggT Tryd.prog 94 = false := by kernel_rfl
@[simp] theorem in94 : (Tryd.prog.info? 94).isSome = true := by kernel_rfl
@[simp] theorem ze94 : zeroT Tryd.prog 94 = some [.raw .nilFunc] := by kernel_rfl
@[simp] theorem fi94 (m : Nat) : fits Tryd.prog 94 m = decide (m * 8 ≤ 140737488355328) := fits_at ze94 (by kernel_rfl) m
@[simp] theorem an94 (n : Int) : (Tryd.prog.info? 94).any (fun i => decide ((i.bytes : Int) * n ≤ 140737488355328)) = decide (8 * n ≤ 140737488355328) := any_at (by kernel_rfl) n
attribute [simp] Tryd.underlying95
@[simp] theorem sz95 : sizeT Tryd.prog 95 = 1 := by kernel_rfl
@[simp] theorem ag95 : isAggT Tryd.prog 95 = false := by kernel_rfl
@[simp] theorem in95 : (Tryd.prog.info? 95).isSome = true := by kernel_rfl
@[simp] theorem ze95 : zeroT Tryd.prog 95 = some [.raw .nilFunc] := by kernel_rfl
@[simp] theorem fi95 (m : Nat) : fits Tryd.prog 95 m = decide (m * 8 ≤ 140737488355328) := fits_at ze95 (by kernel_rfl) m
@[simp] theorem an95 (n : Int) : (Tryd.prog.info? 95).any (fun i => decide ((i.bytes : Int) * n ≤ 140737488355328)) = decide (8 * n ≤ 140737488355328) := any_at (by kernel_rfl) n
attribute [simp] Tryd.underlying96
@[simp] theorem sz96 : sizeT Tryd.prog 96 = 16 := by kernel_rfl
@[simp] theorem ag96 : isAggT Tryd.prog 96 = true := by kernel_rfl
@[simp] theorem in96 : (Tryd.prog.info? 96).isSome = true := by kernel_rfl
@[simp] theorem ze96 : zeroT Tryd.prog 96 = some [.int .u8 0, .int .u8 0, .int .u8 0, .int .u8 0, .int .u8 0, .int .u8 0, .int .u8 0, .int .u8 0, .int .u8 0, .int .u8 0, .int .u8 0, .int .u8 0, .int .u8 0, .int .u8 0, .int .u8 0, .int .u8 0] := by kernel_rfl
@[simp] theorem fi96 (m : Nat) : fits Tryd.prog 96 m = decide (m * 16 ≤ 140737488355328) := fits_at ze96 (by kernel_rfl) m
@[simp] theorem an96 (n : Int) : (Tryd.prog.info? 96).any (fun i => decide ((i.bytes : Int) * n ≤ 140737488355328)) = decide (16 * n ≤ 140737488355328) := any_at (by kernel_rfl) n
attribute [simp] Tryd.underlying97
@[simp] theorem sz97 : sizeT Tryd.prog 97 = 1 := by kernel_rfl
@[simp] theorem ag97 : isAggT Tryd.prog 97 = false := by kernel_rfl
@[simp] theorem in97 : (Tryd.prog.info? 97).isSome = true := by kernel_rfl
@[simp] theorem ze97 : zeroT Tryd.prog 97 = some [.raw .nilFunc] := by kernel_rfl
@[simp] theorem fi97 (m : Nat) : fits Tryd.prog 97 m = decide (m * 8 ≤ 140737488355328) := fits_at ze97 (by kernel_rfl) m
@[simp] theorem an97 (n : Int) : (Tryd.prog.info? 97).any (fun i => decide ((i.bytes : Int) * n ≤ 140737488355328)) = decide (8 * n ≤ 140737488355328) := any_at (by kernel_rfl) n
attribute [simp] Tryd.underlying99
@[simp] theorem sz99 : sizeT Tryd.prog 99 = 1 := by kernel_rfl
@[simp] theorem ag99 : isAggT Tryd.prog 99 = false := by kernel_rfl
@[simp] theorem in99 : (Tryd.prog.info? 99).isSome = true := by kernel_rfl
@[simp] theorem ze99 : zeroT Tryd.prog 99 = some [.raw .nilFunc] := by kernel_rfl
@[simp] theorem fi99 (m : Nat) : fits Tryd.prog 99 m = decide (m * 8 ≤ 140737488355328) := fits_at ze99 (by kernel_rfl) m
@[simp] theorem an99 (n : Int) : (Tryd.prog.info? 99).any (fun i => decide ((i.bytes : Int) * n ≤ 140737488355328)) = decide (8 * n ≤ 140737488355328) := any_at (by kernel_rfl) n
attribute [simp] Tryd.underlying100
@[simp] theorem sz100 : sizeT Tryd.prog 100 = 1 := by kernel_rfl
@[simp] theorem ag100 : isAggT Tryd.prog 100 = false := by kernel_rfl
@[simp] theorem in100 : (Tryd.prog.info? 100).isSome = true := by kernel_rfl
@[simp] theorem ze100 : zeroT Tryd.prog 100 = some [.raw .nilFunc] := by kernel_rfl
@[simp] theorem fi100 (m : Nat) : fits Tryd.prog 100 m = decide (m * 8 ≤ 140737488355328) := fits_at ze100 (by kernel_rfl) m
@[simp] theorem an100 (n : Int) : (Tryd.prog.info? 100).any (fun i => decide ((i.bytes : Int) * n ≤ 140737488355328)) = decide (8 * n ≤ 140737488355328) := any_at (by kernel_rfl) n
attribute [simp] Tryd.underlying101
@[simp] theorem sz101 : sizeT Tryd.prog 101 = 1 := by kernel_rfl
@[simp] theorem ag101 : isAggT Tryd.prog 101 = false := by kernel_rfl
@[simp] theorem in101 : (Tryd.prog.info? 101).isSome = true := by kernel_rfl
@[simp] theorem ze101 : zeroT Tryd.prog 101 = some [.raw .nilFunc] := by kernel_rfl
@[simp] theorem fi101 (m : Nat) : fits Tryd.prog 101 m = decide (m * 8 ≤ 140737488355328) := fits_at ze101 (by kernel_rfl) m
@[simp] theorem an101 (n : Int) : (Tryd.prog.info? 101).any (fun i => decide ((i.bytes : Int) * n ≤ 140737488355328)) = decide (8 * n ≤ 140737488355328) := any_at (by kernel_rfl) n
attribute [simp] Tryd.underlying102
@[simp] theorem sz102 : sizeT Tryd.prog 102 = 1 := by kernel_rfl
@[simp] theorem ag102 : isAggT Tryd.prog 102 = false := by kernel_rfl
@[simp] theorem in102 : (Tryd.prog.info? 102).isSome = true := by kernel_rfl
@[simp] theorem ze102 : zeroT Tryd.prog 102 = some [.raw .nilFunc] := by kernel_rfl
@[simp] theorem fi102 (m : Nat) : fits Tryd.prog 102 m = decide (m * 8 ≤ 140737488355328) := fits_at ze102 (by kernel_rfl) m
@[simp] theorem an102 (n : Int) : (Tryd.prog.info? 102).any (fun i => decide ((i.bytes : Int) * n ≤ 140737488355328)) = decide (8 * n ≤ 140737488355328) := any_at (by kernel_rfl) n
attribute [simp] Tryd.underlying103
@[simp] theorem sz103 : sizeT Tryd.prog 103 = 1 := by kernel_rfl
@[simp] theorem ag103 : isAggT Tryd.prog 103 = false := by kernel_rfl
@[simp] theorem in103 : (Tryd.prog.info? 103).isSome = true := by kernel_rfl
@[simp] theorem ze103 : zeroT Tryd.prog 103 = some [.raw .nilFunc] := by kernel_rfl
@[simp] theorem fi103 (m : Nat) : fits Tryd.prog 103 m = decide (m * 8 ≤ 140737488355328) := fits_at ze103 (by kernel_rfl) m
@[simp] theorem an103 (n : Int) : (Tryd.prog.info? 103).any (fun i => decide ((i.bytes : Int) * n ≤ 140737488355328)) = decide (8 * n ≤ 140737488355328) := any_at (by kernel_rfl) n
attribute [simp] Tryd.underlying104
@[simp] theorem sz104 : sizeT Tryd.prog 104 = 1 := by kernel_rfl
@[simp] theorem ag104 : isAggT Tryd.prog 104 = false := by kernel_rfl
@[simp] theorem in104 : (Tryd.prog.info? 104).isSome = true := by kernel_rfl
@[simp] theorem ze104 : zeroT Tryd.prog 104 = some [.raw .nilFunc] := by kernel_rfl
@[simp] theorem fi104 (m : Nat) : fits Tryd.prog 104 m = decide (m * 8 ≤ 140737488355328) := fits_at ze104 (by kernel_rfl) m
@[simp] theorem an104 (n : Int) : (Tryd.prog.info? 104).any (fun i => decide ((i.bytes : Int) * n ≤ 140737488355328)) = decide (8 * n ≤ 140737488355328) := any_at (by kernel_rfl) n
attribute [simp] Tryd.underlying105
@[simp] theorem sz105 : sizeT Tryd.prog 105 = 24 := by kernel_rfl
@[simp] theorem ag105 : isAggT Tryd.prog 105 = true := by kernel_rfl
@[simp] theorem in105 : (Tryd.prog.info? 105).isSome = true := by kernel_rfl
@[simp] theorem ze105 : zeroT Tryd.prog 105 = some [.int .u8 0, .int .u8 0, .int .u8 0, .int .u8 0, .int .u8 0, .int .u8 0, .int .u8 0, .int .u8 0, .int .u8 0, .int .u8 0, .int .u8 0, .int .u8 0, .int .u8 0, .int .u8 0, .int .u8 0, .int .u8 0, .int .u8 0, .int .u8 0, .int .u8 0, .int .u8 0, .int .u8 0, .int .u8 0, .int .u8 0, .int .u8 0] := by kernel_rfl
@[simp] theorem fi105 (m : Nat) : fits Tryd.prog 105 m = decide (m * 24 ≤ 140737488355328) := fits_at ze105 (by kernel_rfl) m
@[simp] theorem an105 (n : Int) : (Tryd.prog.info? 105).any (fun i => decide ((i.bytes : Int) * n ≤ 140737488355328)) = decide (24 * n ≤ 140737488355328) := any_at (by kernel_rfl) n
attribute [simp] Tryd.underlying106
@[simp] theorem sz106 : sizeT Tryd.prog 106 = 1 := by kernel_rfl
@[simp] theorem ag106 : isAggT Tryd.prog 106 = false := by kernel_rfl
@[simp] theorem in106 : (Tryd.prog.info? 106).isSome = true := by kernel_rfl
@[simp] theorem ze106 : zeroT Tryd.prog 106 = some [.raw .nilFunc] := by kernel_rfl
@[simp] theorem fi106 (m : Nat) : fits Tryd.prog 106 m = decide (m * 8 ≤ 140737488355328) := fits_at ze106 (by kernel_rfl) m
@[simp] theorem an106 (n : Int) : (Tryd.prog.info? 106).any (fun i => decide ((i.bytes : Int) * n ≤ 140737488355328)) = decide (8 * n ≤ 140737488355328) := any_at (by kernel_rfl) n
attribute [simp] Tryd.underlying107
@[simp] theorem sz107 : sizeT Tryd.prog 107 = 1 := by kernel_rfl
@[simp] theorem ag107 : isAggT Tryd.prog 107 = false := by kernel_rfl
@[simp] theorem in107 : (Tryd.prog.info? 107).isSome = true := by kernel_rfl
@[simp] theorem ze107 : zeroT Tryd.prog 107 = some [.raw .nilFunc] := by kernel_rfl
@[simp] theorem fi107 (m : Nat) : fits Tryd.prog 107 m = decide (m * 8 ≤ 140737488355328) := fits_at ze107 (by kernel_rfl) m
@[simp] theorem an107 (n : Int) : (Tryd.prog.info? 107).any (fun i => decide ((i.bytes : Int) * n ≤ 140737488355328)) = decide (8 * n ≤ 140737488355328) := any_at (by kernel_rfl) n
attribute [simp] Tryd.underlying109
@[simp] theorem sz109 : sizeT Tryd.prog 109 = 1 := by kernel_rfl
@[simp] theorem ag109 : isAggT Tryd.prog 109 = false := by kernel_rfl
@[simp] theorem in109 : (Tryd.prog.info? 109).isSome = true := by kernel_rfl
@[simp] theorem ze109 : zeroT Tryd.prog 109 = some [.raw .nilFunc] := by kernel_rfl
@[simp] theorem fi109 (m : Nat) : fits Tryd.prog 109 m = decide (m * 8 ≤ 140737488355328) := fits_at ze109 (by kernel_rfl) m
@[simp] theorem an109 (n : Int) : (Tryd.prog.info? 109).any (fun i => decide ((i.bytes : Int) * n ≤ 140737488355328)) = decide (8 * n ≤ 140737488355328) := any_at (by kernel_rfl) n
attribute [simp] Tryd.underlying110
@[simp] theorem sz110 : sizeT Tryd.prog 110 = 1 := by kernel_rfl
@[simp] theorem ag110 : isAggT Tryd.prog 110 = false := by kernel_rfl
@[simp] theorem in110 : (Tryd.prog.info? 110).isSome = true := by kernel_rfl
@[simp] theorem ze110 : zeroT Tryd.prog 110 = some [.raw .nilFunc] := by kernel_rfl
@[simp] theorem fi110 (m : Nat) : fits Tryd.prog 110 m = decide (m * 8 ≤ 140737488355328) := fits_at ze110 (by kernel_rfl) m
@[simp] theorem an110 (n : Int) : (Tryd.prog.info? 110).any (fun i => decide ((i.bytes : Int) * n ≤ 140737488355328)) = decide (8 * n ≤ 140737488355328) := any_at (by kernel_rfl) n
attribute [simp] Tryd.underlying111
@[simp] theorem sz111 : sizeT Tryd.prog 111 = 256 := by kernel_rfl
@[simp] theorem ag111 : isAggT Tryd.prog 111 = true := by kernel_rfl
@[simp] theorem in111 : (Tryd.prog.info? 111).isSome = true := by kernel_rfl
@[simp] theorem ze111 : zeroT Tryd.prog 111 = some [.int .u8 0, .int .u8 0, .int .u8 0, .int .u8 0, .int .u8 0, .int .u8 0, .int .u8 0, .int .u8 0, .int .u8 0, .int .u8 0, .int .u8 0, .int .u8 0, .int .u8 0, .int .u8 0, .int .u8 0, .int .u8 0, .int .u8 0, .int .u8 0, .int .u8 0, .int .u8 0, .int .u8 0, .int .u8 0, .int .u8 0, .int .u8 0, .int .u8 0, .int .u8 0, .int .u8 0, .int .u8 0, .int .u8 0, .int .u8 0, .int .u8 0, .int .u8 0, .int .u8 0, .int .u8 0, .int .u8 0, .int .u8 0, .int .u8 0, .int .u8 0, .int .u8 0, .int .u8 0, .int .u8 0, .int .u8 0, .int .u8 0, .int .u8 0, .int .u8 0, .int .u8 0, .int .u8 0, .int .u8 0, .int .u8 0, .int .u8 0, .int .u8 0, .int .u8 0, .int .u8 0, .int .u8 0, .int .u8 0, .int .u8 0, .int .u8 0, .int .u8 0, .int .u8 0, .int .u8 0, .int .u8 0, .int .u8 0, .int .u8 0, .int .u8 0, .int .u8 0, .int .u8 0, .int .u8 0, .int .u8 0, .int .u8 0, .int .u8 0, .int .u8 0, .int .u8 0, .int .u8 0, .int .u8 0, .int .u8 0, .int .u8 0, .int .u8 0, .int .u8 0, .int .u8 0, .int .u8 0, .int .u8 0, .int .u8 0, .int .u8 0, .int .u8 0, .int .u8 0, .int .u8 0, .int .u8 0, .int .u8 0, .int .u8 0, .int .u8 0, .int .u8 0, .int .u8 0, .int .u8 0, .int .u8 0, .int .u8 0, .int .u8 0, .int .u8 0, .int .u8 0, .int .u8 0, .int .u8 0, .int .u8 0, .int .u8 0, .int .u8 0, .int .u8 0, .int .u8 0, .int .u8 0, .int .u8 0, .int .u8 0, .int .u8 0, .int .u8 0, .int .u8 0, .int .u8 0, .int .u8 0, .int .u8 0, .int .u8 0, .int .u8 0, .int .u8 0, .int .u8 0, .int .u8 0, .int .u8 0, .int .u8 0, .int .u8 0, .int .u8 0, .int .u8 0, .int .u8 0, .int .u8 0, .int .u8 0, .int .u8 0, .int .u8 0, .int .u8 0, .int .u8 0, .int .u8 0, .int .u8 0, .int .u8 0, .int .u8 0, .int .u8 0, .int .u8 0, .int .u8 0, .int .u8 0, .int .u8 0, .int .u8 0, .int .u8 0, .int .u8 0, .int .u8 0, .int .u8 0, .int .u8 0, .int .u8 0, .int .u8 0, .int .u8 0, .int .u8 0, .int .u8 0, .int .u8 0, .int .u8 0, .int .u8 0, .int .u8 0, .int .u8 0, .int .u8 0, .int .u8 0, .int .u8 0, .int .u8 0, .int .u8 0, .int .u8 0, .int .u8 0, .int .u8 0, .int .u8 0, .int .u8 0, .int .u8 0, .int .u8 0, .int .u8 0, .int .u8 0, .int .u8 0, .int .u8 0, .int .u8 0, .int .u8 0, .int .u8 0, .int .u8 0, .int .u8 0, .int .u8 0, .int .u8 0, .int .u8 0, .int .u8 0, .int .u8 0, .int .u8 0, .int .u8 0, .int .u8 0, .int .u8 0, .int .u8 0, .int .u8 0, .int .u8 0, .int .u8 0, .int .u8 0, .int .u8 0, .int .u8 0, .int .u8 0, .int .u8 0, .int .u8 0, .int .u8 0, .int .u8 0, .int .u8 0, .int .u8 0, .int .u8 0, .int .u8 0, .int .u8 0, .int .u8 0, .int .u8 0, .int .u8 0, .int .u8 0, .int .u8 0, .int .u8 0, .int .u8 0, .int .u8 0, .int .u8 0, .int .u8 0, .int .u8 0, .int .u8 0, .int .u8 0, .int .u8 0, .int .u8 0, .int .u8 0, .int .u8 0, .int .u8 0, .int .u8 0, .int .u8 0, .int .u8 0, .int .u8 0, .int .u8 0, .int .u8 0, .int .u8 0, .int .u8 0, .int .u8 0, .int .u8 0, .int .u8 0, .int .u8 0, .int .u8 0, .int .u8 0, .int .u8 0, .int .u8 0, .int .u8 0, .int .u8 0, .int .u8 0, .int .u8 0, .int .u8 0, .int .u8 0, .int .u8 0, .int .u8 0, .int .u8 0, .int .u8 0, .int .u8 0, .int .u8 0, .int .u8 0, .int .u8 0, .int .u8 0, .int .u8 0, .int .u8 0, .int .u8 0, .int .u8 0] := by kernel_rfl
@[simp] theorem fi111 (m : Nat) : fits Tryd.prog 111 m = decide (m * 256 ≤ 140737488355328) := fits_at ze111 (by kernel_rfl) m
@[simp] theorem an111 (n : Int) : (Tryd.prog.info? 111).any (fun i => decide ((i.bytes : Int) * n ≤ 140737488355328)) = decide (256 * n ≤ 140737488355328) := any_at (by kernel_rfl) n
attribute [simp] Tryd.underlying112
@[simp] theorem sz112 : sizeT Tryd.prog 112 = 2 := by kernel_rfl
@[simp] theorem ag112 : isAggT Tryd.prog 112 = true := by kernel_rfl
@[simp] theorem in112 : (Tryd.prog.info? 112).isSome = true := by kernel_rfl
@[simp] theorem ze112 : zeroT Tryd.prog 112 = some [.int .u8 0, .int .u8 0] := by kernel_rfl
@[simp] theorem fi112 (m : Nat) : fits Tryd.prog 112 m = decide (m * 2 ≤ 140737488355328) := fits_at ze112 (by kernel_rfl) m
@[simp] theorem an112 (n : Int) : (Tryd.prog.info? 112).any (fun i => decide ((i.bytes : Int) * n ≤ 140737488355328)) = decide (2 * n ≤ 140737488355328) := any_at (by kernel_rfl) n
attribute [simp] Tryd.underlying113
@[simp] theorem sz113 : sizeT Tryd.prog 113 = 2 := by kernel_rfl
@[simp] theorem ag113 : isAggT Tryd.prog 113 = true := by kernel_rfl
@[simp] theorem in113 : (Tryd.prog.info? 113).isSome = true := by kernel_rfl
@[simp] theorem ze113 : zeroT Tryd.prog 113 = some [.int .u8 0, .int .u8 0] := by kernel_rfl
@[simp] theorem fi113 (m : Nat) : fits Tryd.prog 113 m = decide (m * 2 ≤ 140737488355328) := fits_at ze113 (by kernel_rfl) m
@[simp] theorem an113 (n : Int) : (Tryd.prog.info? 113).any (fun i => decide ((i.bytes : Int) * n ≤ 140737488355328)) = decide (2 * n ≤ 140737488355328) := any_at (by kernel_rfl) n
attribute [simp] Tryd.underlying114
@[simp] theorem sz114 : sizeT Tryd.prog 114 = 32 := by kernel_rfl
@[simp] theorem ag114 : isAggT Tryd.prog 114 = true := by kernel_rfl
@[simp] theorem in114 : (Tryd.prog.info? 114).isSome = true := by kernel_rfl
@[simp] theorem ze114 : zeroT Tryd.prog 114 = some [.int .u8 0, .int .u8 0, .int .u8 0, .int .u8 0, .int .u8 0, .int .u8 0, .int .u8 0, .int .u8 0, .int .u8 0, .int .u8 0, .int .u8 0, .int .u8 0, .int .u8 0, .int .u8 0, .int .u8 0, .int .u8 0, .int .u8 0, .int .u8 0, .int .u8 0, .int .u8 0, .int .u8 0, .int .u8 0, .int .u8 0, .int .u8 0, .int .u8 0, .int .u8 0, .int .u8 0, .int .u8 0, .int .u8 0, .int .u8 0, .int .u8 0, .int .u8 0] := by kernel_rfl
@[simp] theorem fi114 (m : Nat) : fits Tryd.prog 114 m = decide (m * 32 ≤ 140737488355328) := fits_at ze114 (by kernel_rfl) m
@[simp] theorem an114 (n : Int) : (Tryd.prog.info? 114).any (fun i => decide ((i.bytes : Int) * n ≤ 140737488355328)) = decide (32 * n ≤ 140737488355328) := any_at (by kernel_rfl) n
attribute [simp] Tryd.underlying115
@[simp] theorem sz115 : sizeT Tryd.prog 115 = 1 := by kernel_rfl
@[simp] theorem ag115 : isAggT Tryd.prog 115 = false := by kernel_rfl
@[simp] theorem in115 : (Tryd.prog.info? 115).isSome = true := by kernel_rfl
@[simp] theorem ze115 : zeroT Tryd.prog 115 = some [.int .u32 0] := by kernel_rfl
@[simp] theorem fi115 (m : Nat) : fits Tryd.prog 115 m = decide (m * 4 ≤ 140737488355328) := fits_at ze115 (by kernel_rfl) m
@[simp] theorem an115 (n : Int) : (Tryd.prog.info? 115).any (fun i => decide ((i.bytes : Int) * n ≤ 140737488355328)) = decide (4 * n ≤ 140737488355328) := any_at (by kernel_rfl) n
attribute [simp] Tryd.underlying117
@[simp] theorem sz117 : sizeT Tryd.prog 117 = 1 := by kernel_rfl
@[simp] theorem ag117 : isAggT Tryd.prog 117 = false := by kernel_rfl
@[simp] theorem in117 : (Tryd.prog.info? 117).isSome = true := by kernel_rfl
@[simp] theorem ze117 : zeroT Tryd.prog 117 = some [.raw .nilFunc] := by kernel_rfl
@[simp] theorem fi117 (m : Nat) : fits Tryd.prog 117 m = decide (m * 8 ≤ 140737488355328) := fits_at ze117 (by kernel_rfl) m
@[simp] theorem an117 (n : Int) : (Tryd.prog.info? 117).any (fun i => decide ((i.bytes : Int) * n ≤ 140737488355328)) = decide (8 * n ≤ 140737488355328) := any_at (by kernel_rfl) n
attribute [simp] Tryd.underlying118
@[simp] theorem sz118 : sizeT Tryd.prog 118 = 1 := by kernel_rfl
@[simp] theorem ag118 : isAggT Tryd.prog 118 = false := by kernel_rfl
@[simp] theorem in118 : (Tryd.prog.info? 118).isSome = true := by kernel_rfl
@[simp] theorem ze118 : zeroT Tryd.prog 118 = some [.raw .nilFunc] := by kernel_rfl
@[simp] theorem fi118 (m : Nat) : fits Tryd.prog 118 m = decide (m * 8 ≤ 140737488355328) := fits_at ze118 (by kernel_rfl) m
@[simp] theorem an118 (n : Int) : (Tryd.prog.info? 118).any (fun i => decide ((i.bytes : Int) * n ≤ 140737488355328)) = decide (8 * n ≤ 140737488355328) := any_at (by kernel_rfl) n
attribute [simp] Tryd.underlying119
@[simp] theorem sz119 : sizeT Tryd.prog 119 = 20 := by kernel_rfl
@[simp] theorem ag119 : isAggT Tryd.prog 119 = true := by kernel_rfl
@[simp] theorem in119 : (Tryd.prog.info? 119).isSome = true := by kernel_rfl
@[simp] theorem ze119 : zeroT Tryd.prog 119 = some [.int .u64 0, .int .u64 0, .int .u64 0, .int .u64 0, .int .u64 0, .int .u64 0, .int .u64 0, .int .u64 0, .int .u64 0, .int .u64 0, .int .u64 0, .int .u64 0, .int .u64 0, .int .u64 0, .int .u64 0, .int .u64 0, .int .u64 0, .int .u64 0, .int .u64 0, .int .u64 0] := by kernel_rfl
@[simp] theorem fi119 (m : Nat) : fits Tryd.prog 119 m = decide (m * 160 ≤ 140737488355328) := fits_at ze119 (by kernel_rfl) m
@[simp] theorem an119 (n : Int) : (Tryd.prog.info? 119).any (fun i => decide ((i.bytes : Int) * n ≤ 140737488355328)) = decide (160 * n ≤ 140737488355328) := any_at (by kernel_rfl) n
attribute [simp] Tryd.underlying120
@[simp] theorem sz120 : sizeT Tryd.prog 120 = 65 := by kernel_rfl
@[simp] theorem ag120 : isAggT Tryd.prog 120 = true := by kernel_rfl
@[simp] theorem in120 : (Tryd.prog.info? 120).isSome = true := by kernel_rfl
@[simp] theorem ze120 : zeroT Tryd.prog 120 = some [.int .u8 0, .int .u8 0, .int .u8 0, .int .u8 0, .int .u8 0, .int .u8 0, .int .u8 0, .int .u8 0, .int .u8 0, .int .u8 0, .int .u8 0, .int .u8 0, .int .u8 0, .int .u8 0, .int .u8 0, .int .u8 0, .int .u8 0, .int .u8 0, .int .u8 0, .int .u8 0, .int .u8 0, .int .u8 0, .int .u8 0, .int .u8 0, .int .u8 0, .int .u8 0, .int .u8 0, .int .u8 0, .int .u8 0, .int .u8 0, .int .u8 0, .int .u8 0, .int .u8 0, .int .u8 0, .int .u8 0, .int .u8 0, .int .u8 0, .int .u8 0, .int .u8 0, .int .u8 0, .int .u8 0, .int .u8 0, .int .u8 0, .int .u8 0, .int .u8 0, .int .u8 0, .int .u8 0, .int .u8 0, .int .u8 0, .int .u8 0, .int .u8 0, .int .u8 0, .int .u8 0, .int .u8 0, .int .u8 0, .int .u8 0, .int .u8 0, .int .u8 0, .int .u8 0, .int .u8 0, .int .u8 0, .int .u8 0, .int .u8 0, .int .u8 0, .int .u8 0] := by kernel_rfl
@[simp] theorem fi120 (m : Nat) : fits Tryd.prog 120 m = decide (m * 65 ≤ 140737488355328) := fits_at ze120 (by kernel_rfl) m
@[simp] theorem an120 (n : Int) : (Tryd.prog.info? 120).any (fun i => decide ((i.bytes : Int) * n ≤ 140737488355328)) = decide (65 * n ≤ 140737488355328) := any_at (by kernel_rfl) n
attribute [simp] Tryd.underlying121
@[simp] theorem sz121 : sizeT Tryd.prog 121 = 1 := by kernel_rfl
@[simp] theorem ag121 : isAggT Tryd.prog 121 = false := by kernel_rfl
@[simp] theorem in121 : (Tryd.prog.info? 121).isSome = true := by kernel_rfl
@[simp] theorem ze121 : zeroT Tryd.prog 121 = some [.raw .nilFunc] := by kernel_rfl
@[simp] theorem fi121 (m : Nat) : fits Tryd.prog 121 m = decide (m * 8 ≤ 140737488355328) := fits_at ze121 (by kernel_rfl) m
@[simp] theorem an121 (n : Int) : (Tryd.prog.info? 121).any (fun i => decide ((i.bytes : Int) * n ≤ 140737488355328)) = decide (8 * n ≤ 140737488355328) := any_at (by kernel_rfl) n
attribute [simp] Tryd.underlying122
@[simp] theorem sz122 : sizeT Tryd.prog 122 = 1 := by kernel_rfl
@[simp] theorem ag122 : isAggT Tryd.prog 122 = false := by kernel_rfl
@[simp] theorem in122 : (Tryd.prog.info? 122).isSome = true := by kernel_rfl
@[simp] theorem ze122 : zeroT Tryd.prog 122 = some [.raw .nilFunc] := by kernel_rfl
@[simp] theorem fi122 (m : Nat) : fits Tryd.prog 122 m = decide (m * 8 ≤ 140737488355328) := fits_at ze122 (by kernel_rfl) m
@[simp] theorem an122 (n : Int) : (Tryd.prog.info? 122).any (fun i => decide ((i.bytes : Int) * n ≤ 140737488355328)) = decide (8 * n ≤ 140737488355328) := any_at (by kernel_rfl) n
attribute [simp] Tryd.underlying123
@[simp] theorem sz123 : sizeT Tryd.prog 123 = 32 := by kernel_rfl
@[simp] theorem ag123 : isAggT Tryd.prog 123 = true := by kernel_rfl
@[simp] theorem in123 : (Tryd.prog.info? 123).isSome = true := by kernel_rfl
@[simp] theorem ze123 : zeroT Tryd.prog 123 = some [.int .u8 0, .int .u8 0, .int .u8 0, .int .u8 0, .int .u8 0, .int .u8 0, .int .u8 0, .int .u8 0, .int .u8 0, .int .u8 0, .int .u8 0, .int .u8 0, .int .u8 0, .int .u8 0, .int .u8 0, .int .u8 0, .int .u8 0, .int .u8 0, .int .u8 0, .int .u8 0, .int .u8 0, .int .u8 0, .int .u8 0, .int .u8 0, .int .u8 0, .int .u8 0, .int .u8 0, .int .u8 0, .int .u8 0, .int .u8 0, .int .u8 0, .int .u8 0] := by kernel_rfl
@[simp] theorem fi123 (m : Nat) : fits Tryd.prog 123 m = decide (m * 32 ≤ 140737488355328) := fits_at ze123 (by kernel_rfl) m
@[simp] theorem an123 (n : Int) : (Tryd.prog.info? 123).any (fun i => decide ((i.bytes : Int) * n ≤ 140737488355328)) = decide (32 * n ≤ 140737488355328) := any_at (by kernel_rfl) n
attribute [simp] Tryd.underlying124
@[simp] theorem sz124 : sizeT Tryd.prog 124 = 64 := by kernel_rfl
@[simp] theorem ag124 : isAggT Tryd.prog 124 = true := by kernel_rfl
@[simp] theorem in124 : (Tryd.prog.info? 124).isSome = true := by kernel_rfl
@[simp] theorem ze124 : zeroT Tryd.prog 124 = some [.int .u8 0, .int .u8 0, .int .u8 0, .int .u8 0, .int .u8 0, .int .u8 0, .int .u8 0, .int .u8 0, .int .u8 0, .int .u8 0, .int .u8 0, .int .u8 0, .int .u8 0, .int .u8 0, .int .u8 0, .int .u8 0, .int .u8 0, .int .u8 0, .int .u8 0, .int .u8 0, .int .u8 0, .int .u8 0, .int .u8 0, .int .u8 0, .int .u8 0, .int .u8 0, .int .u8 0, .int .u8 0, .int .u8 0, .int .u8 0, .int .u8 0, .int .u8 0, .int .u8 0, .int .u8 0, .int .u8 0, .int .u8 0, .int .u8 0, .int .u8 0, .int .u8 0, .int .u8 0, .int .u8 0, .int .u8 0, .int .u8 0, .int .u8 0, .int .u8 0, .int .u8 0, .int .u8 0, .int .u8 0, .int .u8 0, .int .u8 0, .int .u8 0, .int .u8 0, .int .u8 0, .int .u8 0, .int .u8 0, .int .u8 0, .int .u8 0, .int .u8 0, .int .u8 0, .int .u8 0, .int .u8 0, .int .u8 0, .int .u8 0, .int .u8 0] := by kernel_rfl
@[simp] theorem fi124 (m : Nat) : fits Tryd.prog 124 m = decide (m * 64 ≤ 140737488355328) := fits_at ze124 (by kernel_rfl) m
@[simp] theorem an124 (n : Int) : (Tryd.prog.info? 124).any (fun i => decide ((i.bytes : Int) * n ≤ 140737488355328)) = decide (64 * n ≤ 140737488355328) := any_at (by kernel_rfl) n
attribute [simp] Tryd.underlying125
@[simp] theorem sz125 : sizeT Tryd.prog 125 = 4 := by kernel_rfl
@[simp] theorem ag125 : isAggT Tryd.prog 125 = true := by kernel_rfl
@[simp] theorem in125 : (Tryd.prog.info? 125).isSome = true := by kernel_rfl
@[simp] theorem ze125 : zeroT Tryd.prog 125 = some [.nilp, .nilp, .nilp, .str []] := by kernel_rfl
@[simp] theorem fi125 (m : Nat) : fits Tryd.prog 125 m = decide (m * 40 ≤ 140737488355328) := fits_at ze125 (by kernel_rfl) m
@[simp] theorem an125 (n : Int) : (Tryd.prog.info? 125).any (fun i => decide ((i.bytes : Int) * n ≤ 140737488355328)) = decide (40 * n ≤ 140737488355328) := any_at (by kernel_rfl) n
attribute [simp] Tryd.underlying126
@[simp] theorem sz126 : sizeT Tryd.prog 126 = 4 := by kernel_rfl
@[simp] theorem ag126 : isAggT Tryd.prog 126 = true := by kernel_rfl
@[simp] theorem in126 : (Tryd.prog.info? 126).isSome = true := by kernel_rfl
@[simp] theorem ze126 : zeroT Tryd.prog 126 = some [.nilp, .nilp, .nilp, .str []] := by kernel_rfl
@[simp] theorem fi126 (m : Nat) : fits Tryd.prog 126 m = decide (m * 40 ≤ 140737488355328) := fits_at ze126 (by kernel_rfl) m
@[simp] theorem an126 (n : Int) : (Tryd.prog.info? 126).any (fun i => decide ((i.bytes : Int) * n ≤ 140737488355328)) = decide (40 * n ≤ 140737488355328) := any_at (by kernel_rfl) n
attribute [simp] Tryd.underlying127
@[simp] theorem sz127 : sizeT Tryd.prog 127 = 0 := by kernel_rfl
@[simp] theorem ag127 : isAggT Tryd.prog 127 = true := by kernel_rfl
@[simp] theorem in127 : (Tryd.prog.info? 127).isSome = true := by kernel_rfl
@[simp] theorem ze127 : zeroT Tryd.prog 127 = some [] := by kernel_rfl
attribute [simp] Tryd.underlying128
@[simp] theorem sz128 : sizeT Tryd.prog 128 = 0 := by kernel_rfl
@[simp] theorem ag128 : isAggT Tryd.prog 128 = true := by kernel_rfl
@[simp] theorem in128 : (Tryd.prog.info? 128).isSome = true := by kernel_rfl
@[simp] theorem ze128 : zeroT Tryd.prog 128 = some [] := by kernel_rfl
attribute [simp] Tryd.underlying129
@[simp] theorem sz129 : sizeT Tryd.prog 129 = 0 := by kernel_rfl
@[simp] theorem ag129 : isAggT Tryd.prog 129 = true := by kernel_rfl
@[simp] theorem in129 : (Tryd.prog.info? 129).isSome = true := by kernel_rfl
@[simp] theorem ze129 : zeroT Tryd.prog 129 = some [] := by kernel_rfl
attribute [simp] Tryd.underlying130
@[simp] theorem sz130 : sizeT Tryd.prog 130 = 1 := by kernel_rfl
@[simp] theorem ag130 : isAggT Tryd.prog 130 = false := by kernel_rfl
@[simp] theorem in130 : (Tryd.prog.info? 130).isSome = true := by kernel_rfl
@[simp] theorem ze130 : zeroT Tryd.prog 130 = some [.raw .nilFunc] := by kernel_rfl
@[simp] theorem fi130 (m : Nat) : fits Tryd.prog 130 m = decide (m * 8 ≤ 140737488355328) := fits_at ze130 (by kernel_rfl) m
@[simp] theorem an130 (n : Int) : (Tryd.prog.info? 130).any (fun i => decide ((i.bytes : Int) * n ≤ 140737488355328)) = decide (8 * n ≤ 140737488355328) := any_at (by kernel_rfl) n
attribute [simp] Tryd.underlying131
@[simp] theorem sz131 : sizeT Tryd.prog 131 = 1 := by kernel_rfl
@[simp] theorem ag131 : isAggT Tryd.prog 131 = false := by kernel_rfl
@[simp] theorem in131 : (Tryd.prog.info? 131).isSome = true := by kernel_rfl
@[simp] theorem ze131 : zeroT Tryd.prog 131 = some [.int .u8 0] := by kernel_rfl
@[simp] theorem fi131 (m : Nat) : fits Tryd.prog 131 m = decide (m * 1 ≤ 140737488355328) := fits_at ze131 (by kernel_rfl) m
@[simp] theorem an131 (n : Int) : (Tryd.prog.info? 131).any (fun i => decide ((i.bytes : Int) * n ≤ 140737488355328)) = decide (1 * n ≤ 140737488355328) := any_at (by kernel_rfl) n
attribute [simp] Tryd.underlying132
@[simp] theorem sz132 : sizeT Tryd.prog 132 = 1 := by kernel_rfl
@[simp] theorem ag132 : isAggT Tryd.prog 132 = false := by kernel_rfl
@[simp] theorem in132 : (Tryd.prog.info? 132).isSome = true := by kernel_rfl
@[simp] theorem ze132 : zeroT Tryd.prog 132 = some [.int .u8 0] := by kernel_rfl
@[simp] theorem fi132 (m : Nat) : fits Tryd.prog 132 m = decide (m * 1 ≤ 140737488355328) := fits_at ze132 (by kernel_rfl) m
@[simp] theorem an132 (n : Int) : (Tryd.prog.info? 132).any (fun i => decide ((i.bytes : Int) * n ≤ 140737488355328)) = decide (1 * n ≤ 140737488355328) := any_at (by kernel_rfl) n
attribute [simp] Tryd.underlying133
@[simp] theorem sz133 : sizeT Tryd.prog 133 = 1 := by kernel_rfl
@[simp] theorem ag133 : isAggT Tryd.prog 133 = false := by kernel_rfl
@[simp] theorem in133 : (Tryd.prog.info? 133).isSome = true := by kernel_rfl
@[simp] theorem ze133 : zeroT Tryd.prog 133 = some [.raw .nilFunc] := by kernel_rfl
@[simp] theorem fi133 (m : Nat) : fits Tryd.prog 133 m = decide (m * 8 ≤ 140737488355328) := fits_at ze133 (by kernel_rfl) m
@[simp] theorem an133 (n : Int) : (Tryd.prog.info? 133).any (fun i => decide ((i.bytes : Int) * n ≤ 140737488355328)) = decide (8 * n ≤ 140737488355328) := any_at (by kernel_rfl) n
attribute [simp] Tryd.underlying134
@[simp] theorem sz134 : sizeT Tryd.prog 134 = 1 := by kernel_rfl
@[simp] theorem ag134 : isAggT Tryd.prog 134 = false := by kernel_rfl
@[simp] theorem in134 : (Tryd.prog.info? 134).isSome = true := by kernel_rfl
@[simp] theorem ze134 : zeroT Tryd.prog 134 = some [.int .i32 0] := by kernel_rfl
@[simp] theorem fi134 (m : Nat) : fits Tryd.prog 134 m = decide (m * 4 ≤ 140737488355328) := fits_at ze134 (by kernel_rfl) m
@[simp] theorem an134 (n : Int) : (Tryd.prog.info? 134).any (fun i => decide ((i.bytes : Int) * n ≤ 140737488355328)) = decide (4 * n ≤ 140737488355328) := any_at (by kernel_rfl) n
attribute [simp] Tryd.underlying135
@[simp] theorem sz135 : sizeT Tryd.prog 135 = 1 := by kernel_rfl
@[simp] theorem ag135 : isAggT Tryd.prog 135 = false := by kernel_rfl
@[simp] theorem in135 : (Tryd.prog.info? 135).isSome = true := by kernel_rfl
@[simp] theorem ze135 : zeroT Tryd.prog 135 = some [.int .i32 0] := by kernel_rfl
@[simp] theorem fi135 (m : Nat) : fits Tryd.prog 135 m = decide (m * 4 ≤ 140737488355328) := fits_at ze135 (by kernel_rfl) m
@[simp] theorem an135 (n : Int) : (Tryd.prog.info? 135).any (fun i => decide ((i.bytes : Int) * n ≤ 140737488355328)) = decide (4 * n ≤ 140737488355328) := any_at (by kernel_rfl) n
attribute [simp] Tryd.underlying136
@[simp] theorem sz136 : sizeT Tryd.prog 136 = 11 := by kernel_rfl
@[simp] theorem ag136 : isAggT Tryd.prog 136 = true := by kernel_rfl
@[simp] theorem in136 : (Tryd.prog.info? 136).isSome = true := by kernel_rfl
@[simp] theorem ze136 : zeroT Tryd.prog 136 = some [.int .u64 0, .int .u64 0, .int .u32 0, .int .u8 0, .int .u8 0, .int .u8 0, .int .u8 0, .raw .nilFunc, .nilp, .int .i32 0, .int .i32 0] := by kernel_rfl
@[simp] theorem fi136 (m : Nat) : fits Tryd.prog 136 m = decide (m * 48 ≤ 140737488355328) := fits_at ze136 (by kernel_rfl) m
@[simp] theorem an136 (n : Int) : (Tryd.prog.info? 136).any (fun i => decide ((i.bytes : Int) * n ≤ 140737488355328)) = decide (48 * n ≤ 140737488355328) := any_at (by kernel_rfl) n
attribute [simp] Tryd.underlying137
@[simp] theorem sz137 : sizeT Tryd.prog 137 = 11 := by kernel_rfl
@[simp] theorem ag137 : isAggT Tryd.prog 137 = true := by kernel_rfl
@[simp] theorem in137 : (Tryd.prog.info? 137).isSome = true := by kernel_rfl
@[simp] theorem ze137 : zeroT Tryd.prog 137 = some [.int .u64 0, .int .u64 0, .int .u32 0, .int .u8 0, .int .u8 0, .int .u8 0, .int .u8 0, .raw .nilFunc, .nilp, .int .i32 0, .int .i32 0] := by kernel_rfl
@[simp] theorem fi137 (m : Nat) : fits Tryd.prog 137 m = decide (m * 48 ≤ 140737488355328) := fits_at ze137 (by kernel_rfl) m
@[simp] theorem an137 (n : Int) : (Tryd.prog.info? 137).any (fun i => decide ((i.bytes : Int) * n ≤ 140737488355328)) = decide (48 * n ≤ 140737488355328) := any_at (by kernel_rfl) n
attribute [simp] keep2 head2
@[simp] theorem hK2 : hint2.keep = keep2 := rfl
@[simp] theorem hH2 : hint2.head = head2 := rfl
@[simp] theorem hB2 (t : Nat) : hint2.box t = ([] : List Nat).contains t := rfl
@[simp] theorem hD2 (t : Nat) : hint2.dies t = ([] : List Nat).contains t := rfl
@[simp] theorem ow2 : (hints 2).own = none := rfl
@[simp] theorem hS2 (t : Nat) : hint2.soft t = [] := rfl
@[simp] theorem hL2 (t : Nat) : hint2.lazy t = none := rfl
@[simp] theorem hN2 (t : Nat) : hint2.nest t = false := rfl
@[simp] theorem hE2 (t : Nat) : hint2.bld t = none := rfl
attribute [simp] keep3 head3
@[simp] theorem hK3 : hint3.keep = keep3 := rfl
@[simp] theorem hH3 : hint3.head = head3 := rfl
@[simp] theorem hB3 (t : Nat) : hint3.box t = ([3, 6] : List Nat).contains t := rfl
@[simp] theorem hD3 (t : Nat) : hint3.dies t = ([15, 21, 31, 32, 33, 36, 37, 41, 44, 50, 51, 52, 55, 56] : List Nat).contains t := rfl
@[simp] theorem ow3 : (hints 3).own = none := rfl
theorem hh3 : hints 3 = hint3 := rfl
@[simp] theorem hS3 (t : Nat) : hint3.soft t = [] := rfl
@[simp] theorem hL3 (t : Nat) : hint3.lazy t = none := rfl
@[simp] theorem hN3 (t : Nat) : hint3.nest t = false := rfl
@[simp] theorem hE3 (t : Nat) : hint3.bld t = none := rfl
attribute [simp] keep4 head4
@[simp] theorem hK4 : hint4.keep = keep4 := rfl
@[simp] theorem hH4 : hint4.head = head4 := rfl
@[simp] theorem hB4 (t : Nat) : hint4.box t = ([3] : List Nat).contains t := rfl
@[simp] theorem hD4 (t : Nat) : hint4.dies t = ([6, 11, 16, 18, 19, 22, 23, 26, 27, 30, 35] : List Nat).contains t := rfl
@[simp] theorem ow4 : (hints 4).own = none := rfl
@[simp] theorem hS4 (t : Nat) : hint4.soft t = [] := rfl
@[simp] theorem hL4 (t : Nat) : hint4.lazy t = none := rfl
@[simp] theorem hN4 (t : Nat) : hint4.nest t = false := rfl
@[simp] theorem hE4 (t : Nat) : hint4.bld t = none := rfl
attribute [simp] keep5 head5
@[simp] theorem hK5 : hint5.keep = keep5 := rfl
@[simp] theorem hH5 : hint5.head = head5 := rfl
@[simp] theorem hB5 (t : Nat) : hint5.box t = ([2] : List Nat).contains t := rfl
@[simp] theorem hD5 (t : Nat) : hint5.dies t = ([13, 22, 28, 33, 35, 38, 42, 50, 52] : List Nat).contains t := rfl
@[simp] theorem ow5 : (hints 5).own = none := rfl
theorem hh5 : hints 5 = hint5 := rfl
@[simp] theorem hS5 (t : Nat) : hint5.soft t = [] := rfl
@[simp] theorem hL5 (t : Nat) : hint5.lazy t = none := rfl
@[simp] theorem hN5 (t : Nat) : hint5.nest t = false := rfl
@[simp] theorem hE5 (t : Nat) : hint5.bld t = none := rfl
attribute [simp] keep6 head6
@[simp] theorem hK6 : hint6.keep = keep6 := rfl
@[simp] theorem hH6 : hint6.head = head6 := rfl
@[simp] theorem hB6 (t : Nat) : hint6.box t = ([2, 9, 14] : List Nat).contains t := rfl
@[simp] theorem hD6 (t : Nat) : hint6.dies t = ([17, 25, 32, 35, 40, 42, 50, 67, 70, 79, 80, 87, 91, 97, 98, 103, 105, 113, 122, 124, 130] : List Nat).contains t := rfl
@[simp] theorem ow6 : (hints 6).own = none := rfl
theorem hh6 : hints 6 = hint6 := rfl
@[simp] theorem hS6 (t : Nat) : hint6.soft t = [] := rfl
@[simp] theorem hL6 (t : Nat) : hint6.lazy t = none := rfl
@[simp] theorem hN6 (t : Nat) : hint6.nest t = false := rfl
@[simp] theorem hE6 (t : Nat) : hint6.bld t = none := rfl
attribute [simp] free6 pairs6
@[simp] theorem hF6 : hint6.free = free6 := rfl
@[simp] theorem hP6 : hint6.pairs = pairs6 := rfl
attribute [simp] keep7 head7
@[simp] theorem hK7 : hint7.keep = keep7 := rfl
@[simp] theorem hH7 : hint7.head = head7 := rfl
@[simp] theorem hB7 (t : Nat) : hint7.box t = ([2, 3] : List Nat).contains t := rfl
@[simp] theorem hD7 (t : Nat) : hint7.dies t = ([12, 21, 35, 53] : List Nat).contains t := rfl
@[simp] theorem ow7 : (hints 7).own = none := rfl
theorem hh7 : hints 7 = hint7 := rfl
@[simp] theorem hS7 (t : Nat) : hint7.soft t = [] := rfl
@[simp] theorem hL7 (t : Nat) : hint7.lazy t = none := rfl
@[simp] theorem hN7 (t : Nat) : hint7.nest t = false := rfl
@[simp] theorem hE7 (t : Nat) : hint7.bld t = none := rfl
attribute [simp] free7 pairs7
@[simp] theorem hF7 : hint7.free = free7 := rfl
@[simp] theorem hP7 : hint7.pairs = pairs7 := rfl
attribute [simp] keep8 head8
@[simp] theorem hK8 : hint8.keep = keep8 := rfl
@[simp] theorem hH8 : hint8.head = head8 := rfl
@[simp] theorem hB8 (t : Nat) : hint8.box t = ([1, 10] : List Nat).contains t := rfl
@[simp] theorem hD8 (t : Nat) : hint8.dies t = ([15, 21, 35, 39, 48, 53, 55] : List Nat).contains t := rfl
@[simp] theorem ow8 : (hints 8).own = none := rfl
theorem hh8 : hints 8 = hint8 := rfl
@[simp] theorem hS8 (t : Nat) : hint8.soft t = [] := rfl
@[simp] theorem hL8 (t : Nat) : hint8.lazy t = none := rfl
@[simp] theorem hN8 (t : Nat) : hint8.nest t = false := rfl
@[simp] theorem hE8 (t : Nat) : hint8.bld t = if ([4] : List Nat).contains t then some 5 else none := rfl
attribute [simp] keep9 head9
@[simp] theorem hK9 : hint9.keep = keep9 := rfl
@[simp] theorem hH9 : hint9.head = head9 := rfl
@[simp] theorem hB9 (t : Nat) : hint9.box t = ([] : List Nat).contains t := rfl
@[simp] theorem hD9 (t : Nat) : hint9.dies t = ([5, 6] : List Nat).contains t := rfl
@[simp] theorem ow9 : (hints 9).own = none := rfl
@[simp] theorem hS9 (t : Nat) : hint9.soft t = [] := rfl
@[simp] theorem hL9 (t : Nat) : hint9.lazy t = none := rfl
@[simp] theorem hN9 (t : Nat) : hint9.nest t = false := rfl
@[simp] theorem hE9 (t : Nat) : hint9.bld t = none := rfl
attribute [simp] keep10 head10
@[simp] theorem hK10 : hint10.keep = keep10 := rfl
@[simp] theorem hH10 : hint10.head = head10 := rfl
@[simp] theorem hB10 (t : Nat) : hint10.box t = ([10] : List Nat).contains t := rfl
@[simp] theorem hD10 (t : Nat) : hint10.dies t = ([21, 27, 32, 33, 39, 42, 43, 55, 61, 66, 67, 74, 85, 90, 102, 103, 115, 133, 134, 139, 167, 172] : List Nat).contains t := rfl
@[simp] theorem ow10 : (hints 10).own = none := rfl
theorem hh10 : hints 10 = hint10 := rfl
@[simp] theorem hS10 (t : Nat) : hint10.soft t = [] := rfl
@[simp] theorem hL10 (t : Nat) : hint10.lazy t = none := rfl
@[simp] theorem hN10 (t : Nat) : hint10.nest t = ([177] : List Nat).contains t := rfl
@[simp] theorem hE10 (t : Nat) : hint10.bld t = none := rfl
attribute [simp] free10 pairs10
@[simp] theorem hF10 : hint10.free = free10 := rfl
@[simp] theorem hP10 : hint10.pairs = pairs10 := rfl
attribute [simp] keep11 head11
@[simp] theorem hK11 : hint11.keep = keep11 := rfl
@[simp] theorem hH11 : hint11.head = head11 := rfl
@[simp] theorem hB11 (t : Nat) : hint11.box t = ([] : List Nat).contains t := rfl
@[simp] theorem hD11 (t : Nat) : hint11.dies t = ([13, 20, 21, 24, 31, 32] : List Nat).contains t := rfl
@[simp] theorem ow11 : (hints 11).own = none := rfl
theorem hh11 : hints 11 = hint11 := rfl
@[simp] theorem hS11 (t : Nat) : hint11.soft t = [] := rfl
@[simp] theorem hL11 (t : Nat) : hint11.lazy t = none := rfl
@[simp] theorem hN11 (t : Nat) : hint11.nest t = false := rfl
@[simp] theorem hE11 (t : Nat) : hint11.bld t = none := rfl
attribute [simp] keep12 head12
@[simp] theorem hK12 : hint12.keep = keep12 := rfl
@[simp] theorem hH12 : hint12.head = head12 := rfl
@[simp] theorem hB12 (t : Nat) : hint12.box t = ([] : List Nat).contains t := rfl
@[simp] theorem hD12 (t : Nat) : hint12.dies t = ([13, 20, 25, 27, 30] : List Nat).contains t := rfl
@[simp] theorem ow12 : (hints 12).own = none := rfl
theorem hh12 : hints 12 = hint12 := rfl
@[simp] theorem hS12 (t : Nat) : hint12.soft t = [] := rfl
@[simp] theorem hL12 (t : Nat) : hint12.lazy t = none := rfl
@[simp] theorem hN12 (t : Nat) : hint12.nest t = false := rfl
@[simp] theorem hE12 (t : Nat) : hint12.bld t = none := rfl
attribute [simp] keep13 head13
@[simp] theorem hK13 : hint13.keep = keep13 := rfl
@[simp] theorem hH13 : hint13.head = head13 := rfl
@[simp] theorem hB13 (t : Nat) : hint13.box t = ([2, 5] : List Nat).contains t := rfl
@[simp] theorem hD13 (t : Nat) : hint13.dies t = ([14, 32, 46, 58, 81, 84] : List Nat).contains t := rfl
@[simp] theorem ow13 : (hints 13).own = none := rfl
theorem hh13 : hints 13 = hint13 := rfl
@[simp] theorem hS13 (t : Nat) : hint13.soft t = [] := rfl
@[simp] theorem hL13 (t : Nat) : hint13.lazy t = none := rfl
@[simp] theorem hN13 (t : Nat) : hint13.nest t = false := rfl
@[simp] theorem hE13 (t : Nat) : hint13.bld t = none := rfl
attribute [simp] free13 pairs13
@[simp] theorem hF13 : hint13.free = free13 := rfl
@[simp] theorem hP13 : hint13.pairs = pairs13 := rfl
attribute [simp] keep14 head14
@[simp] theorem hK14 : hint14.keep = keep14 := rfl
@[simp] theorem hH14 : hint14.head = head14 := rfl
@[simp] theorem hB14 (t : Nat) : hint14.box t = ([] : List Nat).contains t := rfl
@[simp] theorem hD14 (t : Nat) : hint14.dies t = ([15] : List Nat).contains t := rfl
@[simp] theorem ow14 : (hints 14).own = none := rfl
theorem hh14 : hints 14 = hint14 := rfl
@[simp] theorem hS14 (t : Nat) : hint14.soft t = [] := rfl
@[simp] theorem hL14 (t : Nat) : hint14.lazy t = none := rfl
@[simp] theorem hN14 (t : Nat) : hint14.nest t = false := rfl
@[simp] theorem hE14 (t : Nat) : hint14.bld t = none := rfl
attribute [simp] free14 pairs14
@[simp] theorem hF14 : hint14.free = free14 := rfl
@[simp] theorem hP14 : hint14.pairs = pairs14 := rfl
attribute [simp] keep15 head15
@[simp] theorem hK15 : hint15.keep = keep15 := rfl
@[simp] theorem hH15 : hint15.head = head15 := rfl
@[simp] theorem hB15 (t : Nat) : hint15.box t = ([1] : List Nat).contains t := rfl
@[simp] theorem hD15 (t : Nat) : hint15.dies t = ([9, 13, 14, 18] : List Nat).contains t := rfl
@[simp] theorem ow15 : (hints 15).own = none := rfl
theorem hh15 : hints 15 = hint15 := rfl
@[simp] theorem hS15 (t : Nat) : hint15.soft t = [] := rfl
@[simp] theorem hL15 (t : Nat) : hint15.lazy t = none := rfl
@[simp] theorem hN15 (t : Nat) : hint15.nest t = false := rfl
@[simp] theorem hE15 (t : Nat) : hint15.bld t = none := rfl
attribute [simp] keep16 head16
@[simp] theorem hK16 : hint16.keep = keep16 := rfl
@[simp] theorem hH16 : hint16.head = head16 := rfl
@[simp] theorem hB16 (t : Nat) : hint16.box t = ([] : List Nat).contains t := rfl
@[simp] theorem hD16 (t : Nat) : hint16.dies t = ([9, 17] : List Nat).contains t := rfl
@[simp] theorem ow16 : (hints 16).own = some 1000220021 := rfl
@[simp] theorem hS16 (t : Nat) : hint16.soft t = [] := rfl
@[simp] theorem hL16 (t : Nat) : hint16.lazy t = none := rfl
@[simp] theorem hN16 (t : Nat) : hint16.nest t = false := rfl
@[simp] theorem hE16 (t : Nat) : hint16.bld t = none := rfl
@[simp] theorem hM16 : bldOf (some 1000220021) = some (1, 55, 5) := by decide
attribute [simp] keep17 head17
@[simp] theorem hK17 : hint17.keep = keep17 := rfl
@[simp] theorem hH17 : hint17.head = head17 := rfl
@[simp] theorem hB17 (t : Nat) : hint17.box t = ([] : List Nat).contains t := rfl
@[simp] theorem hD17 (t : Nat) : hint17.dies t = ([9, 19] : List Nat).contains t := rfl
@[simp] theorem ow17 : (hints 17).own = none := rfl
theorem hh17 : hints 17 = hint17 := rfl
@[simp] theorem hS17 (t : Nat) : hint17.soft t = [] := rfl
@[simp] theorem hL17 (t : Nat) : hint17.lazy t = none := rfl
@[simp] theorem hN17 (t : Nat) : hint17.nest t = false := rfl
@[simp] theorem hE17 (t : Nat) : hint17.bld t = if ([3] : List Nat).contains t then some 5 else none := rfl
attribute [simp] keep18 head18
@[simp] theorem hK18 : hint18.keep = keep18 := rfl
@[simp] theorem hH18 : hint18.head = head18 := rfl
@[simp] theorem hB18 (t : Nat) : hint18.box t = ([1] : List Nat).contains t := rfl
@[simp] theorem hD18 (t : Nat) : hint18.dies t = ([10, 15, 20, 30, 35, 45, 50] : List Nat).contains t := rfl
@[simp] theorem ow18 : (hints 18).own = none := rfl
theorem hh18 : hints 18 = hint18 := rfl
@[simp] theorem hS18 (t : Nat) : hint18.soft t = [] := rfl
@[simp] theorem hL18 (t : Nat) : hint18.lazy t = none := rfl
@[simp] theorem hN18 (t : Nat) : hint18.nest t = false := rfl
@[simp] theorem hE18 (t : Nat) : hint18.bld t = none := rfl
attribute [simp] keep19 head19
@[simp] theorem hK19 : hint19.keep = keep19 := rfl
@[simp] theorem hH19 : hint19.head = head19 := rfl
@[simp] theorem hB19 (t : Nat) : hint19.box t = ([1] : List Nat).contains t := rfl
@[simp] theorem hD19 (t : Nat) : hint19.dies t = ([29, 32, 36, 42] : List Nat).contains t := rfl
@[simp] theorem ow19 : (hints 19).own = none := rfl
theorem hh19 : hints 19 = hint19 := rfl
@[simp] theorem hS19 (t : Nat) : hint19.soft t = [] := rfl
@[simp] theorem hL19 (t : Nat) : hint19.lazy t = none := rfl
@[simp] theorem hN19 (t : Nat) : hint19.nest t = false := rfl
@[simp] theorem hE19 (t : Nat) : hint19.bld t = none := rfl
attribute [simp] free19 pairs19
@[simp] theorem hF19 : hint19.free = free19 := rfl
@[simp] theorem hP19 : hint19.pairs = pairs19 := rfl
attribute [simp] keep20 head20
@[simp] theorem hK20 : hint20.keep = keep20 := rfl
@[simp] theorem hH20 : hint20.head = head20 := rfl
@[simp] theorem hB20 (t : Nat) : hint20.box t = ([] : List Nat).contains t := rfl
@[simp] theorem hD20 (t : Nat) : hint20.dies t = ([8] : List Nat).contains t := rfl
@[simp] theorem ow20 : (hints 20).own = some 1000220022 := rfl
@[simp] theorem hS20 (t : Nat) : hint20.soft t = [] := rfl
@[simp] theorem hL20 (t : Nat) : hint20.lazy t = none := rfl
@[simp] theorem hN20 (t : Nat) : hint20.nest t = false := rfl
@[simp] theorem hE20 (t : Nat) : hint20.bld t = none := rfl
@[simp] theorem hM20 : bldOf (some 1000220022) = some (2, 55, 5) := by decide
attribute [simp] free20 pairs20
@[simp] theorem hF20 : hint20.free = free20 := rfl
@[simp] theorem hP20 : hint20.pairs = pairs20 := rfl
attribute [simp] keep21 head21
@[simp] theorem hK21 : hint21.keep = keep21 := rfl
@[simp] theorem hH21 : hint21.head = head21 := rfl
@[simp] theorem hB21 (t : Nat) : hint21.box t = ([] : List Nat).contains t := rfl
@[simp] theorem hD21 (t : Nat) : hint21.dies t = ([16, 17, 25, 32, 50, 51, 56, 60, 62, 63] : List Nat).contains t := rfl
@[simp] theorem ow21 : (hints 21).own = none := rfl
@[simp] theorem hS21 (t : Nat) : hint21.soft t = [] := rfl
@[simp] theorem hL21 (t : Nat) : hint21.lazy t = none := rfl
@[simp] theorem hN21 (t : Nat) : hint21.nest t = false := rfl
@[simp] theorem hE21 (t : Nat) : hint21.bld t = none := rfl
attribute [simp] keep22 head22
@[simp] theorem hK22 : hint22.keep = keep22 := rfl
@[simp] theorem hH22 : hint22.head = head22 := rfl
@[simp] theorem hB22 (t : Nat) : hint22.box t = ([] : List Nat).contains t := rfl
@[simp] theorem hD22 (t : Nat) : hint22.dies t = ([14, 24, 37, 41, 42, 44, 49] : List Nat).contains t := rfl
@[simp] theorem ow22 : (hints 22).own = none := rfl
theorem hh22 : hints 22 = hint22 := rfl
@[simp] theorem hS22 (t : Nat) : hint22.soft t = [] := rfl
@[simp] theorem hL22 (t : Nat) : hint22.lazy t = none := rfl
@[simp] theorem hN22 (t : Nat) : hint22.nest t = false := rfl
@[simp] theorem hE22 (t : Nat) : hint22.bld t = none := rfl
attribute [simp] free22 pairs22
@[simp] theorem hF22 : hint22.free = free22 := rfl
@[simp] theorem hP22 : hint22.pairs = pairs22 := rfl
attribute [simp] keep23 head23
@[simp] theorem hK23 : hint23.keep = keep23 := rfl
@[simp] theorem hH23 : hint23.head = head23 := rfl
@[simp] theorem hB23 (t : Nat) : hint23.box t = ([2, 4] : List Nat).contains t := rfl
@[simp] theorem hD23 (t : Nat) : hint23.dies t = ([17, 23, 24, 36, 42, 50, 51, 58, 59, 60, 67, 73, 81, 84, 94, 104, 105, 106, 110, 111, 112, 114, 115, 119] : List Nat).contains t := rfl
@[simp] theorem ow23 : (hints 23).own = none := rfl
theorem hh23 : hints 23 = hint23 := rfl
@[simp] theorem hS23 (t : Nat) : hint23.soft t = [] := rfl
@[simp] theorem hL23 (t : Nat) : hint23.lazy t = none := rfl
@[simp] theorem hN23 (t : Nat) : hint23.nest t = false := rfl
@[simp] theorem hE23 (t : Nat) : hint23.bld t = none := rfl
attribute [simp] keep24 head24
@[simp] theorem hK24 : hint24.keep = keep24 := rfl
@[simp] theorem hH24 : hint24.head = head24 := rfl
@[simp] theorem hB24 (t : Nat) : hint24.box t = ([] : List Nat).contains t := rfl
@[simp] theorem hD24 (t : Nat) : hint24.dies t = ([11, 13, 28] : List Nat).contains t := rfl
@[simp] theorem ow24 : (hints 24).own = none := rfl
theorem hh24 : hints 24 = hint24 := rfl
@[simp] theorem hS24 (t : Nat) : hint24.soft t = [] := rfl
@[simp] theorem hL24 (t : Nat) : hint24.lazy t = none := rfl
@[simp] theorem hN24 (t : Nat) : hint24.nest t = false := rfl
@[simp] theorem hE24 (t : Nat) : hint24.bld t = none := rfl
attribute [simp] free24 pairs24
@[simp] theorem hF24 : hint24.free = free24 := rfl
@[simp] theorem hP24 : hint24.pairs = pairs24 := rfl
attribute [simp] keep25 head25
@[simp] theorem hK25 : hint25.keep = keep25 := rfl
@[simp] theorem hH25 : hint25.head = head25 := rfl
@[simp] theorem hB25 (t : Nat) : hint25.box t = ([] : List Nat).contains t := rfl
@[simp] theorem hD25 (t : Nat) : hint25.dies t = ([9, 11, 26, 28] : List Nat).contains t := rfl
@[simp] theorem ow25 : (hints 25).own = none := rfl
theorem hh25 : hints 25 = hint25 := rfl
@[simp] theorem hS25 (t : Nat) : hint25.soft t = [] := rfl
@[simp] theorem hL25 (t : Nat) : hint25.lazy t = none := rfl
@[simp] theorem hN25 (t : Nat) : hint25.nest t = false := rfl
@[simp] theorem hE25 (t : Nat) : hint25.bld t = none := rfl
attribute [simp] free25 pairs25
@[simp] theorem hF25 : hint25.free = free25 := rfl
@[simp] theorem hP25 : hint25.pairs = pairs25 := rfl
attribute [simp] keep26 head26
@[simp] theorem hK26 : hint26.keep = keep26 := rfl
@[simp] theorem hH26 : hint26.head = head26 := rfl
@[simp] theorem hB26 (t : Nat) : hint26.box t = ([] : List Nat).contains t := rfl
@[simp] theorem hD26 (t : Nat) : hint26.dies t = ([9, 15, 21, 25, 33] : List Nat).contains t := rfl
@[simp] theorem ow26 : (hints 26).own = none := rfl
theorem hh26 : hints 26 = hint26 := rfl
@[simp] theorem hS26 (t : Nat) : hint26.soft t = [] := rfl
@[simp] theorem hL26 (t : Nat) : hint26.lazy t = none := rfl
@[simp] theorem hN26 (t : Nat) : hint26.nest t = false := rfl
@[simp] theorem hE26 (t : Nat) : hint26.bld t = none := rfl
attribute [simp] keep27 head27
@[simp] theorem hK27 : hint27.keep = keep27 := rfl
@[simp] theorem hH27 : hint27.head = head27 := rfl
@[simp] theorem hB27 (t : Nat) : hint27.box t = ([] : List Nat).contains t := rfl
@[simp] theorem hD27 (t : Nat) : hint27.dies t = ([9, 13, 15, 23] : List Nat).contains t := rfl
@[simp] theorem ow27 : (hints 27).own = none := rfl
theorem hh27 : hints 27 = hint27 := rfl
@[simp] theorem hS27 (t : Nat) : hint27.soft t = [] := rfl
@[simp] theorem hL27 (t : Nat) : hint27.lazy t = none := rfl
@[simp] theorem hN27 (t : Nat) : hint27.nest t = false := rfl
@[simp] theorem hE27 (t : Nat) : hint27.bld t = none := rfl
attribute [simp] keep28 head28
@[simp] theorem hK28 : hint28.keep = keep28 := rfl
@[simp] theorem hH28 : hint28.head = head28 := rfl
@[simp] theorem hB28 (t : Nat) : hint28.box t = ([1] : List Nat).contains t := rfl
@[simp] theorem hD28 (t : Nat) : hint28.dies t = ([9, 14, 19, 30, 35, 43, 48, 53] : List Nat).contains t := rfl
@[simp] theorem ow28 : (hints 28).own = none := rfl
theorem hh28 : hints 28 = hint28 := rfl
@[simp] theorem hS28 (t : Nat) : hint28.soft t = [] := rfl
@[simp] theorem hL28 (t : Nat) : hint28.lazy t = none := rfl
@[simp] theorem hN28 (t : Nat) : hint28.nest t = false := rfl
@[simp] theorem hE28 (t : Nat) : hint28.bld t = none := rfl
attribute [simp] keep29 head29
@[simp] theorem hK29 : hint29.keep = keep29 := rfl
@[simp] theorem hH29 : hint29.head = head29 := rfl
@[simp] theorem hB29 (t : Nat) : hint29.box t = ([1] : List Nat).contains t := rfl
@[simp] theorem hD29 (t : Nat) : hint29.dies t = ([30, 32, 49] : List Nat).contains t := rfl
@[simp] theorem ow29 : (hints 29).own = none := rfl
theorem hh29 : hints 29 = hint29 := rfl
@[simp] theorem hS29 (t : Nat) : hint29.soft t = [] := rfl
@[simp] theorem hL29 (t : Nat) : hint29.lazy t = none := rfl
@[simp] theorem hN29 (t : Nat) : hint29.nest t = false := rfl
@[simp] theorem hE29 (t : Nat) : hint29.bld t = none := rfl
attribute [simp] free29 pairs29
@[simp] theorem hF29 : hint29.free = free29 := rfl
@[simp] theorem hP29 : hint29.pairs = pairs29 := rfl
attribute [simp] keep30 head30
@[simp] theorem hK30 : hint30.keep = keep30 := rfl
@[simp] theorem hH30 : hint30.head = head30 := rfl
@[simp] theorem hB30 (t : Nat) : hint30.box t = ([2, 3] : List Nat).contains t := rfl
@[simp] theorem hD30 (t : Nat) : hint30.dies t = ([8, 25, 32, 39] : List Nat).contains t := rfl
@[simp] theorem ow30 : (hints 30).own = none := rfl
theorem hh30 : hints 30 = hint30 := rfl
@[simp] theorem hS30 (t : Nat) : hint30.soft t = [] := rfl
@[simp] theorem hL30 (t : Nat) : hint30.lazy t = none := rfl
@[simp] theorem hN30 (t : Nat) : hint30.nest t = false := rfl
@[simp] theorem hE30 (t : Nat) : hint30.bld t = none := rfl
attribute [simp] free30 pairs30
@[simp] theorem hF30 : hint30.free = free30 := rfl
@[simp] theorem hP30 : hint30.pairs = pairs30 := rfl
attribute [simp] keep31 head31
@[simp] theorem hK31 : hint31.keep = keep31 := rfl
@[simp] theorem hH31 : hint31.head = head31 := rfl
@[simp] theorem hB31 (t : Nat) : hint31.box t = ([] : List Nat).contains t := rfl
@[simp] theorem hD31 (t : Nat) : hint31.dies t = ([8, 18] : List Nat).contains t := rfl
@[simp] theorem ow31 : (hints 31).own = none := rfl
@[simp] theorem hS31 (t : Nat) : hint31.soft t = [] := rfl
@[simp] theorem hL31 (t : Nat) : hint31.lazy t = none := rfl
@[simp] theorem hN31 (t : Nat) : hint31.nest t = false := rfl
@[simp] theorem hE31 (t : Nat) : hint31.bld t = none := rfl
attribute [simp] keep32 head32
@[simp] theorem hK32 : hint32.keep = keep32 := rfl
@[simp] theorem hH32 : hint32.head = head32 := rfl
@[simp] theorem hB32 (t : Nat) : hint32.box t = ([] : List Nat).contains t := rfl
@[simp] theorem hD32 (t : Nat) : hint32.dies t = ([8, 12] : List Nat).contains t := rfl
@[simp] theorem ow32 : (hints 32).own = some 1000220020 := rfl
@[simp] theorem hS32 (t : Nat) : hint32.soft t = [] := rfl
@[simp] theorem hL32 (t : Nat) : hint32.lazy t = none := rfl
@[simp] theorem hN32 (t : Nat) : hint32.nest t = false := rfl
@[simp] theorem hE32 (t : Nat) : hint32.bld t = none := rfl
@[simp] theorem hM32 : bldOf (some 1000220020) = some (0, 55, 5) := by decide
attribute [simp] keep33 head33
@[simp] theorem hK33 : hint33.keep = keep33 := rfl
@[simp] theorem hH33 : hint33.head = head33 := rfl
@[simp] theorem hB33 (t : Nat) : hint33.box t = ([] : List Nat).contains t := rfl
@[simp] theorem hD33 (t : Nat) : hint33.dies t = ([5, 6] : List Nat).contains t := rfl
@[simp] theorem ow33 : (hints 33).own = none := rfl
theorem hh33 : hints 33 = hint33 := rfl
@[simp] theorem hS33 (t : Nat) : hint33.soft t = [] := rfl
@[simp] theorem hL33 (t : Nat) : hint33.lazy t = none := rfl
@[simp] theorem hN33 (t : Nat) : hint33.nest t = false := rfl
@[simp] theorem hE33 (t : Nat) : hint33.bld t = none := rfl
attribute [simp] keep34 head34
@[simp] theorem hK34 : hint34.keep = keep34 := rfl
@[simp] theorem hH34 : hint34.head = head34 := rfl
@[simp] theorem hB34 (t : Nat) : hint34.box t = ([1] : List Nat).contains t := rfl
@[simp] theorem hD34 (t : Nat) : hint34.dies t = ([] : List Nat).contains t := rfl
@[simp] theorem ow34 : (hints 34).own = none := rfl
theorem hh34 : hints 34 = hint34 := rfl
@[simp] theorem hS34 (t : Nat) : hint34.soft t = [] := rfl
@[simp] theorem hL34 (t : Nat) : hint34.lazy t = none := rfl
@[simp] theorem hN34 (t : Nat) : hint34.nest t = ([3] : List Nat).contains t := rfl
@[simp] theorem hE34 (t : Nat) : hint34.bld t = none := rfl
attribute [simp] keep35 head35
@[simp] theorem hK35 : hint35.keep = keep35 := rfl
@[simp] theorem hH35 : hint35.head = head35 := rfl
@[simp] theorem hB35 (t : Nat) : hint35.box t = ([] : List Nat).contains t := rfl
@[simp] theorem hD35 (t : Nat) : hint35.dies t = ([3] : List Nat).contains t := rfl
@[simp] theorem ow35 : (hints 35).own = none := rfl
@[simp] theorem hS35 (t : Nat) : hint35.soft t = [] := rfl
@[simp] theorem hL35 (t : Nat) : hint35.lazy t = none := rfl
@[simp] theorem hN35 (t : Nat) : hint35.nest t = false := rfl
@[simp] theorem hE35 (t : Nat) : hint35.bld t = none := rfl
attribute [simp] keep36 head36
@[simp] theorem hK36 : hint36.keep = keep36 := rfl
@[simp] theorem hH36 : hint36.head = head36 := rfl
@[simp] theorem hB36 (t : Nat) : hint36.box t = ([4] : List Nat).contains t := rfl
@[simp] theorem hD36 (t : Nat) : hint36.dies t = ([8, 10, 15] : List Nat).contains t := rfl
@[simp] theorem ow36 : (hints 36).own = none := rfl
theorem hh36 : hints 36 = hint36 := rfl
@[simp] theorem hS36 (t : Nat) : hint36.soft t = [] := rfl
@[simp] theorem hL36 (t : Nat) : hint36.lazy t = none := rfl
@[simp] theorem hN36 (t : Nat) : hint36.nest t = false := rfl
@[simp] theorem hE36 (t : Nat) : hint36.bld t = none := rfl
attribute [simp] keep37 head37
@[simp] theorem hK37 : hint37.keep = keep37 := rfl
@[simp] theorem hH37 : hint37.head = head37 := rfl
@[simp] theorem hB37 (t : Nat) : hint37.box t = ([] : List Nat).contains t := rfl
@[simp] theorem hD37 (t : Nat) : hint37.dies t = ([17, 31, 41, 51, 52, 56, 62, 65, 71] : List Nat).contains t := rfl
@[simp] theorem ow37 : (hints 37).own = none := rfl
@[simp] theorem hS37 (t : Nat) : hint37.soft t = [] := rfl
@[simp] theorem hL37 (t : Nat) : hint37.lazy t = none := rfl
@[simp] theorem hN37 (t : Nat) : hint37.nest t = false := rfl
@[simp] theorem hE37 (t : Nat) : hint37.bld t = if ([8] : List Nat).contains t then some 5 else none := rfl
attribute [simp] keep38 head38
@[simp] theorem hK38 : hint38.keep = keep38 := rfl
@[simp] theorem hH38 : hint38.head = head38 := rfl
@[simp] theorem hB38 (t : Nat) : hint38.box t = ([] : List Nat).contains t := rfl
@[simp] theorem hD38 (t : Nat) : hint38.dies t = ([14, 19, 26, 28, 39, 40, 45, 47, 49] : List Nat).contains t := rfl
@[simp] theorem ow38 : (hints 38).own = none := rfl
@[simp] theorem hS38 (t : Nat) : hint38.soft t = [] := rfl
@[simp] theorem hL38 (t : Nat) : hint38.lazy t = none := rfl
@[simp] theorem hN38 (t : Nat) : hint38.nest t = false := rfl
@[simp] theorem hE38 (t : Nat) : hint38.bld t = none := rfl
attribute [simp] keep39 head39
@[simp] theorem hK39 : hint39.keep = keep39 := rfl
@[simp] theorem hH39 : hint39.head = head39 := rfl
@[simp] theorem hB39 (t : Nat) : hint39.box t = ([] : List Nat).contains t := rfl
@[simp] theorem hD39 (t : Nat) : hint39.dies t = ([10, 16, 17, 25, 26, 28, 29] : List Nat).contains t := rfl
@[simp] theorem ow39 : (hints 39).own = none := rfl
@[simp] theorem hS39 (t : Nat) : hint39.soft t = [] := rfl
@[simp] theorem hL39 (t : Nat) : hint39.lazy t = none := rfl
@[simp] theorem hN39 (t : Nat) : hint39.nest t = false := rfl
@[simp] theorem hE39 (t : Nat) : hint39.bld t = none := rfl
attribute [simp] keep40 head40
@[simp] theorem hK40 : hint40.keep = keep40 := rfl
@[simp] theorem hH40 : hint40.head = head40 := rfl
@[simp] theorem hB40 (t : Nat) : hint40.box t = ([] : List Nat).contains t := rfl
@[simp] theorem hD40 (t : Nat) : hint40.dies t = ([5, 6] : List Nat).contains t := rfl
@[simp] theorem ow40 : (hints 40).own = none := rfl
@[simp] theorem hS40 (t : Nat) : hint40.soft t = [] := rfl
@[simp] theorem hL40 (t : Nat) : hint40.lazy t = none := rfl
@[simp] theorem hN40 (t : Nat) : hint40.nest t = false := rfl
@[simp] theorem hE40 (t : Nat) : hint40.bld t = none := rfl
attribute [simp] keep41 head41
@[simp] theorem hK41 : hint41.keep = keep41 := rfl
@[simp] theorem hH41 : hint41.head = head41 := rfl
@[simp] theorem hB41 (t : Nat) : hint41.box t = ([] : List Nat).contains t := rfl
@[simp] theorem hD41 (t : Nat) : hint41.dies t = ([3] : List Nat).contains t := rfl
@[simp] theorem ow41 : (hints 41).own = none := rfl
theorem hh41 : hints 41 = hint41 := rfl
@[simp] theorem hS41 (t : Nat) : hint41.soft t = [] := rfl
@[simp] theorem hL41 (t : Nat) : hint41.lazy t = none := rfl
@[simp] theorem hN41 (t : Nat) : hint41.nest t = false := rfl
@[simp] theorem hE41 (t : Nat) : hint41.bld t = none := rfl
attribute [simp] keep42 head42
@[simp] theorem hK42 : hint42.keep = keep42 := rfl
@[simp] theorem hH42 : hint42.head = head42 := rfl
@[simp] theorem hB42 (t : Nat) : hint42.box t = ([] : List Nat).contains t := rfl
@[simp] theorem hD42 (t : Nat) : hint42.dies t = ([8, 13, 17, 25, 32, 38, 41, 48] : List Nat).contains t := rfl
@[simp] theorem ow42 : (hints 42).own = none := rfl
theorem hh42 : hints 42 = hint42 := rfl
@[simp] theorem hS42 (t : Nat) : hint42.soft t = [] := rfl
@[simp] theorem hL42 (t : Nat) : hint42.lazy t = none := rfl
@[simp] theorem hN42 (t : Nat) : hint42.nest t = false := rfl
@[simp] theorem hE42 (t : Nat) : hint42.bld t = none := rfl
attribute [simp] keep43 head43
@[simp] theorem hK43 : hint43.keep = keep43 := rfl
@[simp] theorem hH43 : hint43.head = head43 := rfl
@[simp] theorem hB43 (t : Nat) : hint43.box t = ([] : List Nat).contains t := rfl
@[simp] theorem hD43 (t : Nat) : hint43.dies t = ([13, 17, 22, 24, 31, 34, 35] : List Nat).contains t := rfl
@[simp] theorem ow43 : (hints 43).own = none := rfl
theorem hh43 : hints 43 = hint43 := rfl
@[simp] theorem hS43 (t : Nat) : hint43.soft t = [] := rfl
@[simp] theorem hL43 (t : Nat) : hint43.lazy t = none := rfl
@[simp] theorem hN43 (t : Nat) : hint43.nest t = false := rfl
@[simp] theorem hE43 (t : Nat) : hint43.bld t = none := rfl
attribute [simp] keep44 head44
@[simp] theorem hK44 : hint44.keep = keep44 := rfl
@[simp] theorem hH44 : hint44.head = head44 := rfl
@[simp] theorem hB44 (t : Nat) : hint44.box t = ([] : List Nat).contains t := rfl
@[simp] theorem hD44 (t : Nat) : hint44.dies t = ([6, 14] : List Nat).contains t := rfl
@[simp] theorem ow44 : (hints 44).own = none := rfl
theorem hh44 : hints 44 = hint44 := rfl
@[simp] theorem hS44 (t : Nat) : hint44.soft t = [] := rfl
@[simp] theorem hL44 (t : Nat) : hint44.lazy t = none := rfl
@[simp] theorem hN44 (t : Nat) : hint44.nest t = false := rfl
@[simp] theorem hE44 (t : Nat) : hint44.bld t = none := rfl
attribute [simp] free44 pairs44
@[simp] theorem hF44 : hint44.free = free44 := rfl
@[simp] theorem hP44 : hint44.pairs = pairs44 := rfl
attribute [simp] keep45 head45
@[simp] theorem hK45 : hint45.keep = keep45 := rfl
@[simp] theorem hH45 : hint45.head = head45 := rfl
@[simp] theorem hB45 (t : Nat) : hint45.box t = ([] : List Nat).contains t := rfl
@[simp] theorem hD45 (t : Nat) : hint45.dies t = ([4, 6] : List Nat).contains t := rfl
@[simp] theorem ow45 : (hints 45).own = none := rfl
theorem hh45 : hints 45 = hint45 := rfl
@[simp] theorem hS45 (t : Nat) : hint45.soft t = [] := rfl
@[simp] theorem hL45 (t : Nat) : hint45.lazy t = none := rfl
@[simp] theorem hN45 (t : Nat) : hint45.nest t = false := rfl
@[simp] theorem hE45 (t : Nat) : hint45.bld t = none := rfl
attribute [simp] keep47 head47
@[simp] theorem hK47 : hint47.keep = keep47 := rfl
@[simp] theorem hH47 : hint47.head = head47 := rfl
@[simp] theorem hB47 (t : Nat) : hint47.box t = ([] : List Nat).contains t := rfl
@[simp] theorem hD47 (t : Nat) : hint47.dies t = ([5, 6] : List Nat).contains t := rfl
@[simp] theorem ow47 : (hints 47).own = none := rfl
theorem hh47 : hints 47 = hint47 := rfl
@[simp] theorem hS47 (t : Nat) : hint47.soft t = [] := rfl
@[simp] theorem hL47 (t : Nat) : hint47.lazy t = none := rfl
@[simp] theorem hN47 (t : Nat) : hint47.nest t = false := rfl
@[simp] theorem hE47 (t : Nat) : hint47.bld t = none := rfl
attribute [simp] keep48 head48
@[simp] theorem hK48 : hint48.keep = keep48 := rfl
@[simp] theorem hH48 : hint48.head = head48 := rfl
@[simp] theorem hB48 (t : Nat) : hint48.box t = ([1] : List Nat).contains t := rfl
@[simp] theorem hD48 (t : Nat) : hint48.dies t = ([6] : List Nat).contains t := rfl
@[simp] theorem ow48 : (hints 48).own = none := rfl
theorem hh48 : hints 48 = hint48 := rfl
@[simp] theorem hS48 (t : Nat) : hint48.soft t = [] := rfl
@[simp] theorem hL48 (t : Nat) : hint48.lazy t = none := rfl
@[simp] theorem hN48 (t : Nat) : hint48.nest t = false := rfl
@[simp] theorem hE48 (t : Nat) : hint48.bld t = none := rfl
attribute [simp] keep49 head49
@[simp] theorem hK49 : hint49.keep = keep49 := rfl
@[simp] theorem hH49 : hint49.head = head49 := rfl
@[simp] theorem hB49 (t : Nat) : hint49.box t = ([] : List Nat).contains t := rfl
@[simp] theorem hD49 (t : Nat) : hint49.dies t = ([12, 14, 16, 21] : List Nat).contains t := rfl
@[simp] theorem ow49 : (hints 49).own = none := rfl
theorem hh49 : hints 49 = hint49 := rfl
@[simp] theorem hS49 (t : Nat) : hint49.soft t = [] := rfl
@[simp] theorem hL49 (t : Nat) : hint49.lazy t = none := rfl
@[simp] theorem hN49 (t : Nat) : hint49.nest t = false := rfl
@[simp] theorem hE49 (t : Nat) : hint49.bld t = none := rfl
attribute [simp] keep50 head50
@[simp] theorem hK50 : hint50.keep = keep50 := rfl
@[simp] theorem hH50 : hint50.head = head50 := rfl
@[simp] theorem hB50 (t : Nat) : hint50.box t = ([] : List Nat).contains t := rfl
@[simp] theorem hD50 (t : Nat) : hint50.dies t = ([9, 13, 19, 21, 23] : List Nat).contains t := rfl
@[simp] theorem ow50 : (hints 50).own = none := rfl
theorem hh50 : hints 50 = hint50 := rfl
@[simp] theorem hS50 (t : Nat) : hint50.soft t = [] := rfl
@[simp] theorem hL50 (t : Nat) : hint50.lazy t = none := rfl
@[simp] theorem hN50 (t : Nat) : hint50.nest t = false := rfl
@[simp] theorem hE50 (t : Nat) : hint50.bld t = none := rfl
attribute [simp] keep51 head51
@[simp] theorem hK51 : hint51.keep = keep51 := rfl
@[simp] theorem hH51 : hint51.head = head51 := rfl
@[simp] theorem hB51 (t : Nat) : hint51.box t = ([] : List Nat).contains t := rfl
@[simp] theorem hD51 (t : Nat) : hint51.dies t = ([10, 11, 13] : List Nat).contains t := rfl
@[simp] theorem ow51 : (hints 51).own = none := rfl
theorem hh51 : hints 51 = hint51 := rfl
@[simp] theorem hS51 (t : Nat) : hint51.soft t = [] := rfl
@[simp] theorem hL51 (t : Nat) : hint51.lazy t = none := rfl
@[simp] theorem hN51 (t : Nat) : hint51.nest t = false := rfl
@[simp] theorem hE51 (t : Nat) : hint51.bld t = none := rfl
attribute [simp] keep53 head53
@[simp] theorem hK53 : hint53.keep = keep53 := rfl
@[simp] theorem hH53 : hint53.head = head53 := rfl
@[simp] theorem hB53 (t : Nat) : hint53.box t = ([] : List Nat).contains t := rfl
@[simp] theorem hD53 (t : Nat) : hint53.dies t = ([5, 6] : List Nat).contains t := rfl
@[simp] theorem ow53 : (hints 53).own = none := rfl
theorem hh53 : hints 53 = hint53 := rfl
@[simp] theorem hS53 (t : Nat) : hint53.soft t = [] := rfl
@[simp] theorem hL53 (t : Nat) : hint53.lazy t = none := rfl
@[simp] theorem hN53 (t : Nat) : hint53.nest t = false := rfl
@[simp] theorem hE53 (t : Nat) : hint53.bld t = none := rfl
attribute [simp] keep54 head54
@[simp] theorem hK54 : hint54.keep = keep54 := rfl
@[simp] theorem hH54 : hint54.head = head54 := rfl
@[simp] theorem hB54 (t : Nat) : hint54.box t = ([] : List Nat).contains t := rfl
@[simp] theorem hD54 (t : Nat) : hint54.dies t = ([3] : List Nat).contains t := rfl
@[simp] theorem ow54 : (hints 54).own = none := rfl
theorem hh54 : hints 54 = hint54 := rfl
@[simp] theorem hS54 (t : Nat) : hint54.soft t = [] := rfl
@[simp] theorem hL54 (t : Nat) : hint54.lazy t = none := rfl
@[simp] theorem hN54 (t : Nat) : hint54.nest t = false := rfl
@[simp] theorem hE54 (t : Nat) : hint54.bld t = none := rfl
attribute [simp] keep55 head55
@[simp] theorem hK55 : hint55.keep = keep55 := rfl
@[simp] theorem hH55 : hint55.head = head55 := rfl
@[simp] theorem hB55 (t : Nat) : hint55.box t = ([] : List Nat).contains t := rfl
@[simp] theorem hD55 (t : Nat) : hint55.dies t = ([10, 11, 13] : List Nat).contains t := rfl
@[simp] theorem ow55 : (hints 55).own = none := rfl
theorem hh55 : hints 55 = hint55 := rfl
@[simp] theorem hS55 (t : Nat) : hint55.soft t = [] := rfl
@[simp] theorem hL55 (t : Nat) : hint55.lazy t = none := rfl
@[simp] theorem hN55 (t : Nat) : hint55.nest t = false := rfl
@[simp] theorem hE55 (t : Nat) : hint55.bld t = none := rfl
attribute [simp] keep56 head56
@[simp] theorem hK56 : hint56.keep = keep56 := rfl
@[simp] theorem hH56 : hint56.head = head56 := rfl
@[simp] theorem hB56 (t : Nat) : hint56.box t = ([] : List Nat).contains t := rfl
@[simp] theorem hD56 (t : Nat) : hint56.dies t = ([3] : List Nat).contains t := rfl
@[simp] theorem ow56 : (hints 56).own = none := rfl
@[simp] theorem hS56 (t : Nat) : hint56.soft t = [] := rfl
@[simp] theorem hL56 (t : Nat) : hint56.lazy t = none := rfl
@[simp] theorem hN56 (t : Nat) : hint56.nest t = false := rfl
@[simp] theorem hE56 (t : Nat) : hint56.bld t = none := rfl
attribute [simp] keep58 head58
@[simp] theorem hK58 : hint58.keep = keep58 := rfl
@[simp] theorem hH58 : hint58.head = head58 := rfl
@[simp] theorem hB58 (t : Nat) : hint58.box t = ([] : List Nat).contains t := rfl
@[simp] theorem hD58 (t : Nat) : hint58.dies t = ([4] : List Nat).contains t := rfl
@[simp] theorem ow58 : (hints 58).own = none := rfl
theorem hh58 : hints 58 = hint58 := rfl
@[simp] theorem hS58 (t : Nat) : hint58.soft t = [] := rfl
@[simp] theorem hL58 (t : Nat) : hint58.lazy t = none := rfl
@[simp] theorem hN58 (t : Nat) : hint58.nest t = false := rfl
@[simp] theorem hE58 (t : Nat) : hint58.bld t = none := rfl
attribute [simp] keep59 head59
@[simp] theorem hK59 : hint59.keep = keep59 := rfl
@[simp] theorem hH59 : hint59.head = head59 := rfl
@[simp] theorem hB59 (t : Nat) : hint59.box t = ([] : List Nat).contains t := rfl
@[simp] theorem hD59 (t : Nat) : hint59.dies t = ([22, 23] : List Nat).contains t := rfl
@[simp] theorem ow59 : (hints 59).own = none := rfl
@[simp] theorem hS59 (t : Nat) : hint59.soft t = [] := rfl
@[simp] theorem hL59 (t : Nat) : hint59.lazy t = none := rfl
@[simp] theorem hN59 (t : Nat) : hint59.nest t = false := rfl
@[simp] theorem hE59 (t : Nat) : hint59.bld t = none := rfl
attribute [simp] free59 pairs59
@[simp] theorem hF59 : hint59.free = free59 := rfl
@[simp] theorem hP59 : hint59.pairs = pairs59 := rfl
attribute [simp] keep60 head60
@[simp] theorem hK60 : hint60.keep = keep60 := rfl
@[simp] theorem hH60 : hint60.head = head60 := rfl
@[simp] theorem hB60 (t : Nat) : hint60.box t = ([] : List Nat).contains t := rfl
@[simp] theorem hD60 (t : Nat) : hint60.dies t = ([3, 7, 9] : List Nat).contains t := rfl
@[simp] theorem ow60 : (hints 60).own = none := rfl
@[simp] theorem hS60 (t : Nat) : hint60.soft t = [] := rfl
@[simp] theorem hL60 (t : Nat) : hint60.lazy t = none := rfl
@[simp] theorem hN60 (t : Nat) : hint60.nest t = false := rfl
@[simp] theorem hE60 (t : Nat) : hint60.bld t = none := rfl
attribute [simp] keep61 head61
@[simp] theorem hK61 : hint61.keep = keep61 := rfl
@[simp] theorem hH61 : hint61.head = head61 := rfl
@[simp] theorem hB61 (t : Nat) : hint61.box t = ([] : List Nat).contains t := rfl
@[simp] theorem hD61 (t : Nat) : hint61.dies t = ([6, 11, 14, 15] : List Nat).contains t := rfl
@[simp] theorem ow61 : (hints 61).own = none := rfl
@[simp] theorem hS61 (t : Nat) : hint61.soft t = [] := rfl
@[simp] theorem hL61 (t : Nat) : hint61.lazy t = none := rfl
@[simp] theorem hN61 (t : Nat) : hint61.nest t = false := rfl
@[simp] theorem hE61 (t : Nat) : hint61.bld t = none := rfl
attribute [simp] keep63 head63
@[simp] theorem hK63 : hint63.keep = keep63 := rfl
@[simp] theorem hH63 : hint63.head = head63 := rfl
@[simp] theorem hB63 (t : Nat) : hint63.box t = ([] : List Nat).contains t := rfl
@[simp] theorem hD63 (t : Nat) : hint63.dies t = ([19, 27, 28, 40, 45, 46, 74, 75, 84, 94, 95, 97, 102, 108, 111, 115, 116, 121, 128, 133, 136, 140, 141] : List Nat).contains t := rfl
@[simp] theorem ow63 : (hints 63).own = none := rfl
@[simp] theorem hS63 (t : Nat) : hint63.soft t = [] := rfl
@[simp] theorem hL63 (t : Nat) : hint63.lazy t = none := rfl
@[simp] theorem hN63 (t : Nat) : hint63.nest t = false := rfl
@[simp] theorem hE63 (t : Nat) : hint63.bld t = none := rfl
attribute [simp] keep64 head64
@[simp] theorem hK64 : hint64.keep = keep64 := rfl
@[simp] theorem hH64 : hint64.head = head64 := rfl
@[simp] theorem hB64 (t : Nat) : hint64.box t = ([] : List Nat).contains t := rfl
@[simp] theorem hD64 (t : Nat) : hint64.dies t = ([5, 6] : List Nat).contains t := rfl
@[simp] theorem ow64 : (hints 64).own = none := rfl
@[simp] theorem hS64 (t : Nat) : hint64.soft t = [] := rfl
@[simp] theorem hL64 (t : Nat) : hint64.lazy t = none := rfl
@[simp] theorem hN64 (t : Nat) : hint64.nest t = false := rfl
@[simp] theorem hE64 (t : Nat) : hint64.bld t = none := rfl
attribute [simp] keep65 head65
@[simp] theorem hK65 : hint65.keep = keep65 := rfl
@[simp] theorem hH65 : hint65.head = head65 := rfl
@[simp] theorem hB65 (t : Nat) : hint65.box t = ([] : List Nat).contains t := rfl
@[simp] theorem hD65 (t : Nat) : hint65.dies t = ([7, 11, 13, 14, 17, 19] : List Nat).contains t := rfl
@[simp] theorem ow65 : (hints 65).own = none := rfl
theorem hh65 : hints 65 = hint65 := rfl
@[simp] theorem hS65 (t : Nat) : hint65.soft t = [] := rfl
@[simp] theorem hL65 (t : Nat) : hint65.lazy t = none := rfl
@[simp] theorem hN65 (t : Nat) : hint65.nest t = false := rfl
@[simp] theorem hE65 (t : Nat) : hint65.bld t = none := rfl
attribute [simp] keep66 head66
@[simp] theorem hK66 : hint66.keep = keep66 := rfl
@[simp] theorem hH66 : hint66.head = head66 := rfl
@[simp] theorem hB66 (t : Nat) : hint66.box t = ([] : List Nat).contains t := rfl
@[simp] theorem hD66 (t : Nat) : hint66.dies t = ([8, 17] : List Nat).contains t := rfl
@[simp] theorem ow66 : (hints 66).own = none := rfl
theorem hh66 : hints 66 = hint66 := rfl
@[simp] theorem hS66 (t : Nat) : hint66.soft t = [] := rfl
@[simp] theorem hL66 (t : Nat) : hint66.lazy t = none := rfl
@[simp] theorem hN66 (t : Nat) : hint66.nest t = false := rfl
@[simp] theorem hE66 (t : Nat) : hint66.bld t = none := rfl
attribute [simp] keep67 head67
@[simp] theorem hK67 : hint67.keep = keep67 := rfl
@[simp] theorem hH67 : hint67.head = head67 := rfl
@[simp] theorem hB67 (t : Nat) : hint67.box t = ([] : List Nat).contains t := rfl
@[simp] theorem hD67 (t : Nat) : hint67.dies t = ([7, 11, 13, 14, 17, 19] : List Nat).contains t := rfl
@[simp] theorem ow67 : (hints 67).own = none := rfl
theorem hh67 : hints 67 = hint67 := rfl
@[simp] theorem hS67 (t : Nat) : hint67.soft t = [] := rfl
@[simp] theorem hL67 (t : Nat) : hint67.lazy t = none := rfl
@[simp] theorem hN67 (t : Nat) : hint67.nest t = false := rfl
@[simp] theorem hE67 (t : Nat) : hint67.bld t = none := rfl
attribute [simp] keep68 head68
@[simp] theorem hK68 : hint68.keep = keep68 := rfl
@[simp] theorem hH68 : hint68.head = head68 := rfl
@[simp] theorem hB68 (t : Nat) : hint68.box t = ([5] : List Nat).contains t := rfl
@[simp] theorem hD68 (t : Nat) : hint68.dies t = ([14, 18, 24, 31, 33, 36, 40, 44, 47, 48, 53] : List Nat).contains t := rfl
@[simp] theorem ow68 : (hints 68).own = none := rfl
@[simp] theorem hS68 (t : Nat) : hint68.soft t = [] := rfl
@[simp] theorem hL68 (t : Nat) : hint68.lazy t = none := rfl
@[simp] theorem hN68 (t : Nat) : hint68.nest t = false := rfl
@[simp] theorem hE68 (t : Nat) : hint68.bld t = none := rfl
attribute [simp] keep69 head69
@[simp] theorem hK69 : hint69.keep = keep69 := rfl
@[simp] theorem hH69 : hint69.head = head69 := rfl
@[simp] theorem hB69 (t : Nat) : hint69.box t = ([] : List Nat).contains t := rfl
@[simp] theorem hD69 (t : Nat) : hint69.dies t = ([11, 26, 27] : List Nat).contains t := rfl
@[simp] theorem ow69 : (hints 69).own = none := rfl
@[simp] theorem hS69 (t : Nat) : hint69.soft t = [] := rfl
@[simp] theorem hL69 (t : Nat) : hint69.lazy t = none := rfl
@[simp] theorem hN69 (t : Nat) : hint69.nest t = false := rfl
@[simp] theorem hE69 (t : Nat) : hint69.bld t = none := rfl
attribute [simp] free69 pairs69
@[simp] theorem hF69 : hint69.free = free69 := rfl
@[simp] theorem hP69 : hint69.pairs = pairs69 := rfl
attribute [simp] keep70 head70
@[simp] theorem hK70 : hint70.keep = keep70 := rfl
@[simp] theorem hH70 : hint70.head = head70 := rfl
@[simp] theorem hB70 (t : Nat) : hint70.box t = ([9] : List Nat).contains t := rfl
@[simp] theorem hD70 (t : Nat) : hint70.dies t = ([24, 28, 33, 39, 43, 52, 60, 64, 72, 76, 78, 82, 87, 91, 95, 99, 103, 108, 113] : List Nat).contains t := rfl
@[simp] theorem ow70 : (hints 70).own = none := rfl
@[simp] theorem hS70 (t : Nat) : hint70.soft t = [] := rfl
@[simp] theorem hL70 (t : Nat) : hint70.lazy t = none := rfl
@[simp] theorem hN70 (t : Nat) : hint70.nest t = false := rfl
@[simp] theorem hE70 (t : Nat) : hint70.bld t = none := rfl
attribute [simp] keep71 head71
@[simp] theorem hK71 : hint71.keep = keep71 := rfl
@[simp] theorem hH71 : hint71.head = head71 := rfl
@[simp] theorem hB71 (t : Nat) : hint71.box t = ([] : List Nat).contains t := rfl
@[simp] theorem hD71 (t : Nat) : hint71.dies t = ([5, 6] : List Nat).contains t := rfl
@[simp] theorem ow71 : (hints 71).own = none := rfl
@[simp] theorem hS71 (t : Nat) : hint71.soft t = [] := rfl
@[simp] theorem hL71 (t : Nat) : hint71.lazy t = none := rfl
@[simp] theorem hN71 (t : Nat) : hint71.nest t = false := rfl
@[simp] theorem hE71 (t : Nat) : hint71.bld t = none := rfl
attribute [simp] keep73 head73
@[simp] theorem hK73 : hint73.keep = keep73 := rfl
@[simp] theorem hH73 : hint73.head = head73 := rfl
@[simp] theorem hB73 (t : Nat) : hint73.box t = ([] : List Nat).contains t := rfl
@[simp] theorem hD73 (t : Nat) : hint73.dies t = ([3] : List Nat).contains t := rfl
@[simp] theorem ow73 : (hints 73).own = none := rfl
@[simp] theorem hS73 (t : Nat) : hint73.soft t = [] := rfl
@[simp] theorem hL73 (t : Nat) : hint73.lazy t = none := rfl
@[simp] theorem hN73 (t : Nat) : hint73.nest t = false := rfl
@[simp] theorem hE73 (t : Nat) : hint73.bld t = none := rfl
attribute [simp] keep74 head74
@[simp] theorem hK74 : hint74.keep = keep74 := rfl
@[simp] theorem hH74 : hint74.head = head74 := rfl
@[simp] theorem hB74 (t : Nat) : hint74.box t = ([] : List Nat).contains t := rfl
@[simp] theorem hD74 (t : Nat) : hint74.dies t = ([11, 21, 23, 33, 45, 47, 53, 63, 68, 78, 79] : List Nat).contains t := rfl
@[simp] theorem ow74 : (hints 74).own = none := rfl
@[simp] theorem hS74 (t : Nat) : hint74.soft t = [] := rfl
@[simp] theorem hL74 (t : Nat) : hint74.lazy t = none := rfl
@[simp] theorem hN74 (t : Nat) : hint74.nest t = false := rfl
@[simp] theorem hE74 (t : Nat) : hint74.bld t = none := rfl
attribute [simp] keep75 head75
@[simp] theorem hK75 : hint75.keep = keep75 := rfl
@[simp] theorem hH75 : hint75.head = head75 := rfl
@[simp] theorem hB75 (t : Nat) : hint75.box t = ([] : List Nat).contains t := rfl
@[simp] theorem hD75 (t : Nat) : hint75.dies t = ([4] : List Nat).contains t := rfl
@[simp] theorem ow75 : (hints 75).own = none := rfl
theorem hh75 : hints 75 = hint75 := rfl
@[simp] theorem hS75 (t : Nat) : hint75.soft t = [] := rfl
@[simp] theorem hL75 (t : Nat) : hint75.lazy t = none := rfl
@[simp] theorem hN75 (t : Nat) : hint75.nest t = false := rfl
@[simp] theorem hE75 (t : Nat) : hint75.bld t = none := rfl
attribute [simp] keep76 head76
@[simp] theorem hK76 : hint76.keep = keep76 := rfl
@[simp] theorem hH76 : hint76.head = head76 := rfl
@[simp] theorem hB76 (t : Nat) : hint76.box t = ([] : List Nat).contains t := rfl
@[simp] theorem hD76 (t : Nat) : hint76.dies t = ([6, 11] : List Nat).contains t := rfl
@[simp] theorem ow76 : (hints 76).own = none := rfl
@[simp] theorem hS76 (t : Nat) : hint76.soft t = [] := rfl
@[simp] theorem hL76 (t : Nat) : hint76.lazy t = none := rfl
@[simp] theorem hN76 (t : Nat) : hint76.nest t = false := rfl
@[simp] theorem hE76 (t : Nat) : hint76.bld t = none := rfl
attribute [simp] keep77 head77
@[simp] theorem hK77 : hint77.keep = keep77 := rfl
@[simp] theorem hH77 : hint77.head = head77 := rfl
@[simp] theorem hB77 (t : Nat) : hint77.box t = ([] : List Nat).contains t := rfl
@[simp] theorem hD77 (t : Nat) : hint77.dies t = ([8, 9] : List Nat).contains t := rfl
@[simp] theorem ow77 : (hints 77).own = none := rfl
@[simp] theorem hS77 (t : Nat) : hint77.soft t = [] := rfl
@[simp] theorem hL77 (t : Nat) : hint77.lazy t = none := rfl
@[simp] theorem hN77 (t : Nat) : hint77.nest t = false := rfl
@[simp] theorem hE77 (t : Nat) : hint77.bld t = none := rfl
attribute [simp] keep78 head78
@[simp] theorem hK78 : hint78.keep = keep78 := rfl
@[simp] theorem hH78 : hint78.head = head78 := rfl
@[simp] theorem hB78 (t : Nat) : hint78.box t = ([] : List Nat).contains t := rfl
@[simp] theorem hD78 (t : Nat) : hint78.dies t = ([24, 28, 33, 39, 51, 64, 77, 90, 94, 96, 102, 107, 119, 132, 136, 143, 154, 158, 160, 162, 163] : List Nat).contains t := rfl
@[simp] theorem ow78 : (hints 78).own = none := rfl
@[simp] theorem hS78 (t : Nat) : hint78.soft t = [] := rfl
@[simp] theorem hL78 (t : Nat) : hint78.lazy t = none := rfl
@[simp] theorem hN78 (t : Nat) : hint78.nest t = false := rfl
@[simp] theorem hE78 (t : Nat) : hint78.bld t = none := rfl
attribute [simp] free78 pairs78
@[simp] theorem hF78 : hint78.free = free78 := rfl
@[simp] theorem hP78 : hint78.pairs = pairs78 := rfl
attribute [simp] keep79 head79
@[simp] theorem hK79 : hint79.keep = keep79 := rfl
@[simp] theorem hH79 : hint79.head = head79 := rfl
@[simp] theorem hB79 (t : Nat) : hint79.box t = ([12] : List Nat).contains t := rfl
@[simp] theorem hD79 (t : Nat) : hint79.dies t = ([21, 25, 31, 41, 47, 55, 58, 61, 64, 69, 75, 82, 83, 86, 89, 90, 94, 95, 96, 99] : List Nat).contains t := rfl
@[simp] theorem ow79 : (hints 79).own = none := rfl
@[simp] theorem hS79 (t : Nat) : hint79.soft t = [] := rfl
@[simp] theorem hL79 (t : Nat) : hint79.lazy t = none := rfl
@[simp] theorem hN79 (t : Nat) : hint79.nest t = false := rfl
@[simp] theorem hE79 (t : Nat) : hint79.bld t = none := rfl
attribute [simp] keep82 head82
@[simp] theorem hK82 : hint82.keep = keep82 := rfl
@[simp] theorem hH82 : hint82.head = head82 := rfl
@[simp] theorem hB82 (t : Nat) : hint82.box t = ([] : List Nat).contains t := rfl
@[simp] theorem hD82 (t : Nat) : hint82.dies t = ([13, 15, 22, 26, 31, 35, 37, 38] : List Nat).contains t := rfl
@[simp] theorem ow82 : (hints 82).own = none := rfl
@[simp] theorem hS82 (t : Nat) : hint82.soft t = [] := rfl
@[simp] theorem hL82 (t : Nat) : hint82.lazy t = none := rfl
@[simp] theorem hN82 (t : Nat) : hint82.nest t = false := rfl
@[simp] theorem hE82 (t : Nat) : hint82.bld t = none := rfl
attribute [simp] keep83 head83
@[simp] theorem hK83 : hint83.keep = keep83 := rfl
@[simp] theorem hH83 : hint83.head = head83 := rfl
@[simp] theorem hB83 (t : Nat) : hint83.box t = ([] : List Nat).contains t := rfl
@[simp] theorem hD83 (t : Nat) : hint83.dies t = ([3] : List Nat).contains t := rfl
@[simp] theorem ow83 : (hints 83).own = none := rfl
@[simp] theorem hS83 (t : Nat) : hint83.soft t = [] := rfl
@[simp] theorem hL83 (t : Nat) : hint83.lazy t = none := rfl
@[simp] theorem hN83 (t : Nat) : hint83.nest t = false := rfl
@[simp] theorem hE83 (t : Nat) : hint83.bld t = none := rfl
attribute [simp] keep84 head84
@[simp] theorem hK84 : hint84.keep = keep84 := rfl
@[simp] theorem hH84 : hint84.head = head84 := rfl
@[simp] theorem hB84 (t : Nat) : hint84.box t = ([] : List Nat).contains t := rfl
@[simp] theorem hD84 (t : Nat) : hint84.dies t = ([5, 9, 11, 15, 17, 19, 20] : List Nat).contains t := rfl
@[simp] theorem ow84 : (hints 84).own = none := rfl
@[simp] theorem hS84 (t : Nat) : hint84.soft t = [] := rfl
@[simp] theorem hL84 (t : Nat) : hint84.lazy t = none := rfl
@[simp] theorem hN84 (t : Nat) : hint84.nest t = false := rfl
@[simp] theorem hE84 (t : Nat) : hint84.bld t = none := rfl
attribute [simp] keep85 head85
@[simp] theorem hK85 : hint85.keep = keep85 := rfl
@[simp] theorem hH85 : hint85.head = head85 := rfl
@[simp] theorem hB85 (t : Nat) : hint85.box t = ([] : List Nat).contains t := rfl
@[simp] theorem hD85 (t : Nat) : hint85.dies t = ([3] : List Nat).contains t := rfl
@[simp] theorem ow85 : (hints 85).own = none := rfl
@[simp] theorem hS85 (t : Nat) : hint85.soft t = [] := rfl
@[simp] theorem hL85 (t : Nat) : hint85.lazy t = none := rfl
@[simp] theorem hN85 (t : Nat) : hint85.nest t = false := rfl
@[simp] theorem hE85 (t : Nat) : hint85.bld t = none := rfl
attribute [simp] keep86 head86
@[simp] theorem hK86 : hint86.keep = keep86 := rfl
@[simp] theorem hH86 : hint86.head = head86 := rfl
@[simp] theorem hB86 (t : Nat) : hint86.box t = ([] : List Nat).contains t := rfl
@[simp] theorem hD86 (t : Nat) : hint86.dies t = ([4] : List Nat).contains t := rfl
@[simp] theorem ow86 : (hints 86).own = none := rfl
@[simp] theorem hS86 (t : Nat) : hint86.soft t = [] := rfl
@[simp] theorem hL86 (t : Nat) : hint86.lazy t = none := rfl
@[simp] theorem hN86 (t : Nat) : hint86.nest t = false := rfl
@[simp] theorem hE86 (t : Nat) : hint86.bld t = none := rfl
attribute [simp] keep87 head87
@[simp] theorem hK87 : hint87.keep = keep87 := rfl
@[simp] theorem hH87 : hint87.head = head87 := rfl
@[simp] theorem hB87 (t : Nat) : hint87.box t = ([] : List Nat).contains t := rfl
@[simp] theorem hD87 (t : Nat) : hint87.dies t = ([3, 6] : List Nat).contains t := rfl
@[simp] theorem ow87 : (hints 87).own = none := rfl
@[simp] theorem hS87 (t : Nat) : hint87.soft t = [] := rfl
@[simp] theorem hL87 (t : Nat) : hint87.lazy t = none := rfl
@[simp] theorem hN87 (t : Nat) : hint87.nest t = false := rfl
@[simp] theorem hE87 (t : Nat) : hint87.bld t = none := rfl
attribute [simp] keep88 head88
@[simp] theorem hK88 : hint88.keep = keep88 := rfl
@[simp] theorem hH88 : hint88.head = head88 := rfl
@[simp] theorem hB88 (t : Nat) : hint88.box t = ([] : List Nat).contains t := rfl
@[simp] theorem hD88 (t : Nat) : hint88.dies t = ([6] : List Nat).contains t := rfl
@[simp] theorem ow88 : (hints 88).own = none := rfl
@[simp] theorem hS88 (t : Nat) : hint88.soft t = [] := rfl
@[simp] theorem hL88 (t : Nat) : hint88.lazy t = none := rfl
@[simp] theorem hN88 (t : Nat) : hint88.nest t = false := rfl
@[simp] theorem hE88 (t : Nat) : hint88.bld t = none := rfl
attribute [simp] keep89 head89
@[simp] theorem hK89 : hint89.keep = keep89 := rfl
@[simp] theorem hH89 : hint89.head = head89 := rfl
@[simp] theorem hB89 (t : Nat) : hint89.box t = ([] : List Nat).contains t := rfl
@[simp] theorem hD89 (t : Nat) : hint89.dies t = ([6] : List Nat).contains t := rfl
@[simp] theorem ow89 : (hints 89).own = none := rfl
@[simp] theorem hS89 (t : Nat) : hint89.soft t = [] := rfl
@[simp] theorem hL89 (t : Nat) : hint89.lazy t = none := rfl
@[simp] theorem hN89 (t : Nat) : hint89.nest t = false := rfl
@[simp] theorem hE89 (t : Nat) : hint89.bld t = none := rfl
attribute [simp] keep114 head114
@[simp] theorem hK114 : hint114.keep = keep114 := rfl
@[simp] theorem hH114 : hint114.head = head114 := rfl
@[simp] theorem hB114 (t : Nat) : hint114.box t = ([] : List Nat).contains t := rfl
@[simp] theorem hD114 (t : Nat) : hint114.dies t = ([] : List Nat).contains t := rfl
@[simp] theorem ow114 : (hints 114).own = none := rfl
@[simp] theorem hS114 (t : Nat) : hint114.soft t = [] := rfl
@[simp] theorem hL114 (t : Nat) : hint114.lazy t = none := rfl
@[simp] theorem hN114 (t : Nat) : hint114.nest t = false := rfl
@[simp] theorem hE114 (t : Nat) : hint114.bld t = none := rfl
end Go.Proofs.YtnccpffnffioeaaDoor
end
