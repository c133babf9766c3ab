/-
  What the evaluator asks of the types of this program and of the hints, as rules.
-/
import Derived.Test.YtolhandckojljaaHints
set_option linter.all false
namespace Go.Proofs.Ytolhandckojljaa
open Go Go.PS
attribute [simp] Try.underlying1
@[simp] theorem sz1 : sizeT Try.prog 1 = 1 := by kernel_rfl
@[simp] theorem ag1 : isAggT Try.prog 1 = false := by kernel_rfl
@[simp] theorem in1 : (Try.prog.info? 1).isSome = true := by kernel_rfl
@[simp] theorem ze1 : zeroT Try.prog 1 = some [.raw .nilFunc] := by kernel_rfl
@[simp] theorem fi1 (m : Nat) : fits Try.prog 1 m = decide (m * 8 ≤ 140737488355328) := fits_at ze1 (by kernel_rfl) m
@[simp] theorem an1 (n : Int) : (Try.prog.info? 1).any (fun i => decide ((i.bytes : Int) * n ≤ 140737488355328)) = decide (8 * n ≤ 140737488355328) := any_at (by kernel_rfl) n
attribute [simp] Try.underlying2
@[simp] theorem sz2 : sizeT Try.prog 2 = 1 := by kernel_rfl
@[simp] theorem ag2 : isAggT Try.prog 2 = false := by kernel_rfl
@[simp] theorem in2 : (Try.prog.info? 2).isSome = true := by kernel_rfl
@[simp] theorem ze2 : zeroT Try.prog 2 = some [.int .i64 0] := by kernel_rfl
@[simp] theorem fi2 (m : Nat) : fits Try.prog 2 m = decide (m * 8 ≤ 140737488355328) := fits_at ze2 (by kernel_rfl) m
@[simp] theorem an2 (n : Int) : (Try.prog.info? 2).any (fun i => decide ((i.bytes : Int) * n ≤ 140737488355328)) = decide (8 * n ≤ 140737488355328) := any_at (by kernel_rfl) n
attribute [simp] Try.underlying3
@[simp] theorem sz3 : sizeT Try.prog 3 = 1 := by kernel_rfl
@[simp] theorem ag3 : isAggT Try.prog 3 = false := by kernel_rfl
@[simp] theorem in3 : (Try.prog.info? 3).isSome = true := by kernel_rfl
@[simp] theorem ze3 : zeroT Try.prog 3 = some [.int .i64 0] := by kernel_rfl
@[simp] theorem fi3 (m : Nat) : fits Try.prog 3 m = decide (m * 8 ≤ 140737488355328) := fits_at ze3 (by kernel_rfl) m
@[simp] theorem an3 (n : Int) : (Try.prog.info? 3).any (fun i => decide ((i.bytes : Int) * n ≤ 140737488355328)) = decide (8 * n ≤ 140737488355328) := any_at (by kernel_rfl) n
attribute [simp] Try.underlying4
@[simp] theorem sz4 : sizeT Try.prog 4 = 1 := by kernel_rfl
@[simp] theorem ag4 : isAggT Try.prog 4 = false := by kernel_rfl
@[simp] theorem in4 : (Try.prog.info? 4).isSome = true := by kernel_rfl
@[simp] theorem ze4 : zeroT Try.prog 4 = some [.bool false] := by kernel_rfl
@[simp] theorem fi4 (m : Nat) : fits Try.prog 4 m = decide (m * 1 ≤ 140737488355328) := fits_at ze4 (by kernel_rfl) m
@[simp] theorem an4 (n : Int) : (Try.prog.info? 4).any (fun i => decide ((i.bytes : Int) * n ≤ 140737488355328)) = decide (1 * n ≤ 140737488355328) := any_at (by kernel_rfl) n
attribute [simp] Try.underlying5
@[simp] theorem sz5 : sizeT Try.prog 5 = 1 := by kernel_rfl
@[simp] theorem ag5 : isAggT Try.prog 5 = false := by kernel_rfl
@[simp] theorem in5 : (Try.prog.info? 5).isSome = true := by kernel_rfl
@[simp] theorem ze5 : zeroT Try.prog 5 = some [.int .u8 0] := by kernel_rfl
@[simp] theorem fi5 (m : Nat) : fits Try.prog 5 m = decide (m * 1 ≤ 140737488355328) := fits_at ze5 (by kernel_rfl) m
@[simp] theorem an5 (n : Int) : (Try.prog.info? 5).any (fun i => decide ((i.bytes : Int) * n ≤ 140737488355328)) = decide (1 * n ≤ 140737488355328) := any_at (by kernel_rfl) n
attribute [simp] Try.underlying6
@[simp] theorem sz6 : sizeT Try.prog 6 = 1 := by kernel_rfl
@[simp] theorem ag6 : isAggT Try.prog 6 = false := by kernel_rfl
@[simp] theorem in6 : (Try.prog.info? 6).isSome = true := by kernel_rfl
@[simp] theorem ze6 : zeroT Try.prog 6 = some [.int .u8 0] := by kernel_rfl
@[simp] theorem fi6 (m : Nat) : fits Try.prog 6 m = decide (m * 1 ≤ 140737488355328) := fits_at ze6 (by kernel_rfl) m
@[simp] theorem an6 (n : Int) : (Try.prog.info? 6).any (fun i => decide ((i.bytes : Int) * n ≤ 140737488355328)) = decide (1 * n ≤ 140737488355328) := any_at (by kernel_rfl) n
attribute [simp] Try.underlying7
@[simp] theorem sz7 : sizeT Try.prog 7 = 4 := by kernel_rfl
@[simp] theorem ag7 : isAggT Try.prog 7 = true := by kernel_rfl
@[simp] theorem in7 : (Try.prog.info? 7).isSome = true := by kernel_rfl
@[simp] theorem ze7 : zeroT Try.prog 7 = some [.int .i64 0, .int .i64 0, .bool false, .int .u8 0] := by kernel_rfl
@[simp] theorem fi7 (m : Nat) : fits Try.prog 7 m = decide (m * 24 ≤ 140737488355328) := fits_at ze7 (by kernel_rfl) m
@[simp] theorem an7 (n : Int) : (Try.prog.info? 7).any (fun i => decide ((i.bytes : Int) * n ≤ 140737488355328)) = decide (24 * n ≤ 140737488355328) := any_at (by kernel_rfl) n
attribute [simp] Try.underlying8
@[simp] theorem sz8 : sizeT Try.prog 8 = 4 := by kernel_rfl
@[simp] theorem ag8 : isAggT Try.prog 8 = true := by kernel_rfl
@[simp] theorem in8 : (Try.prog.info? 8).isSome = true := by kernel_rfl
@[simp] theorem ze8 : zeroT Try.prog 8 = some [.int .i64 0, .int .i64 0, .bool false, .int .u8 0] := by kernel_rfl
@[simp] theorem fi8 (m : Nat) : fits Try.prog 8 m = decide (m * 24 ≤ 140737488355328) := fits_at ze8 (by kernel_rfl) m
@[simp] theorem an8 (n : Int) : (Try.prog.info? 8).any (fun i => decide ((i.bytes : Int) * n ≤ 140737488355328)) = decide (24 * n ≤ 140737488355328) := any_at (by kernel_rfl) n
attribute [simp] Try.underlying9
@[simp] theorem sz9 : sizeT Try.prog 9 = 1 := by kernel_rfl
@[simp] theorem ag9 : isAggT Try.prog 9 = false := by kernel_rfl
@[simp] theorem in9 : (Try.prog.info? 9).isSome = true := by kernel_rfl
@[simp] theorem ze9 : zeroT Try.prog 9 = some [.str []] := by kernel_rfl
@[simp] theorem fi9 (m : Nat) : fits Try.prog 9 m = decide (m * 16 ≤ 140737488355328) := fits_at ze9 (by kernel_rfl) m
@[simp] theorem an9 (n : Int) : (Try.prog.info? 9).any (fun i => decide ((i.bytes : Int) * n ≤ 140737488355328)) = decide (16 * n ≤ 140737488355328) := any_at (by kernel_rfl) n
attribute [simp] Try.underlying10
@[simp] theorem sz10 : sizeT Try.prog 10 = 1 := by kernel_rfl
@[simp] theorem ag10 : isAggT Try.prog 10 = false := by kernel_rfl
@[simp] theorem in10 : (Try.prog.info? 10).isSome = true := by kernel_rfl
@[simp] theorem ze10 : zeroT Try.prog 10 = some [.str []] := by kernel_rfl
@[simp] theorem fi10 (m : Nat) : fits Try.prog 10 m = decide (m * 16 ≤ 140737488355328) := fits_at ze10 (by kernel_rfl) m
@[simp] theorem an10 (n : Int) : (Try.prog.info? 10).any (fun i => decide ((i.bytes : Int) * n ≤ 140737488355328)) = decide (16 * n ≤ 140737488355328) := any_at (by kernel_rfl) n
attribute [simp] Try.underlying11
@[simp] theorem sz11 : sizeT Try.prog 11 = 1 := by kernel_rfl
@[simp] theorem ag11 : isAggT Try.prog 11 = false := by kernel_rfl
@[simp] theorem in11 : (Try.prog.info? 11).isSome = true := by kernel_rfl
@[simp] theorem ze11 : zeroT Try.prog 11 = some [.str []] := by kernel_rfl
@[simp] theorem fi11 (m : Nat) : fits Try.prog 11 m = decide (m * 16 ≤ 140737488355328) := fits_at ze11 (by kernel_rfl) m
@[simp] theorem an11 (n : Int) : (Try.prog.info? 11).any (fun i => decide ((i.bytes : Int) * n ≤ 140737488355328)) = decide (16 * n ≤ 140737488355328) := any_at (by kernel_rfl) n
attribute [simp] Try.underlying12
@[simp] theorem sz12 : sizeT Try.prog 12 = 1 := by kernel_rfl
@[simp] theorem ag12 : isAggT Try.prog 12 = false := by kernel_rfl
@[simp] theorem in12 : (Try.prog.info? 12).isSome = true := by kernel_rfl
@[simp] theorem ze12 : zeroT Try.prog 12 = some [.int .u64 0] := by kernel_rfl
@[simp] theorem fi12 (m : Nat) : fits Try.prog 12 m = decide (m * 8 ≤ 140737488355328) := fits_at ze12 (by kernel_rfl) m
@[simp] theorem an12 (n : Int) : (Try.prog.info? 12).any (fun i => decide ((i.bytes : Int) * n ≤ 140737488355328)) = decide (8 * n ≤ 140737488355328) := any_at (by kernel_rfl) n
attribute [simp] Try.underlying13
@[simp] theorem sz13 : sizeT Try.prog 13 = 2 := by kernel_rfl
@[simp] theorem ag13 : isAggT Try.prog 13 = true := by kernel_rfl
@[simp] theorem in13 : (Try.prog.info? 13).isSome = true := by kernel_rfl
@[simp] theorem ze13 : zeroT Try.prog 13 = some [.str [], .int .u64 0] := by kernel_rfl
@[simp] theorem fi13 (m : Nat) : fits Try.prog 13 m = decide (m * 24 ≤ 140737488355328) := fits_at ze13 (by kernel_rfl) m
@[simp] theorem an13 (n : Int) : (Try.prog.info? 13).any (fun i => decide ((i.bytes : Int) * n ≤ 140737488355328)) = decide (24 * n ≤ 140737488355328) := any_at (by kernel_rfl) n
attribute [simp] Try.underlying14
@[simp] theorem sz14 : sizeT Try.prog 14 = 2 := by kernel_rfl
@[simp] theorem ag14 : isAggT Try.prog 14 = true := by kernel_rfl
@[simp] theorem in14 : (Try.prog.info? 14).isSome = true := by kernel_rfl
@[simp] theorem ze14 : zeroT Try.prog 14 = some [.str [], .int .u64 0] := by kernel_rfl
@[simp] theorem fi14 (m : Nat) : fits Try.prog 14 m = decide (m * 24 ≤ 140737488355328) := fits_at ze14 (by kernel_rfl) m
@[simp] theorem an14 (n : Int) : (Try.prog.info? 14).any (fun i => decide ((i.bytes : Int) * n ≤ 140737488355328)) = decide (24 * n ≤ 140737488355328) := any_at (by kernel_rfl) n
attribute [simp] Try.underlying15
@[simp] theorem sz15 : sizeT Try.prog 15 = 1 := by kernel_rfl
@[simp] theorem ag15 : isAggT Try.prog 15 = false := by kernel_rfl
@[simp] theorem in15 : (Try.prog.info? 15).isSome = true := by kernel_rfl
@[simp] theorem ze15 : zeroT Try.prog 15 = some [.nilp] := by kernel_rfl
@[simp] theorem fi15 (m : Nat) : fits Try.prog 15 m = decide (m * 8 ≤ 140737488355328) := fits_at ze15 (by kernel_rfl) m
@[simp] theorem an15 (n : Int) : (Try.prog.info? 15).any (fun i => decide ((i.bytes : Int) * n ≤ 140737488355328)) = decide (8 * n ≤ 140737488355328) := any_at (by kernel_rfl) n
attribute [simp] Try.underlying16
@[simp] theorem sz16 : sizeT Try.prog 16 = 1 := by kernel_rfl
@[simp] theorem ag16 : isAggT Try.prog 16 = false := by kernel_rfl
@[simp] theorem in16 : (Try.prog.info? 16).isSome = true := by kernel_rfl
@[simp] theorem ze16 : zeroT Try.prog 16 = some [.nilp] := by kernel_rfl
@[simp] theorem fi16 (m : Nat) : fits Try.prog 16 m = decide (m * 8 ≤ 140737488355328) := fits_at ze16 (by kernel_rfl) m
@[simp] theorem an16 (n : Int) : (Try.prog.info? 16).any (fun i => decide ((i.bytes : Int) * n ≤ 140737488355328)) = decide (8 * n ≤ 140737488355328) := any_at (by kernel_rfl) n
attribute [simp] Try.underlying17
@[simp] theorem sz17 : sizeT Try.prog 17 = 1 := by kernel_rfl
@[simp] theorem ag17 : isAggT Try.prog 17 = false := by kernel_rfl
@[simp] theorem in17 : (Try.prog.info? 17).isSome = true := by kernel_rfl
@[simp] theorem ze17 : zeroT Try.prog 17 = some [.nilp] := by kernel_rfl
@[simp] theorem fi17 (m : Nat) : fits Try.prog 17 m = decide (m * 8 ≤ 140737488355328) := fits_at ze17 (by kernel_rfl) m
@[simp] theorem an17 (n : Int) : (Try.prog.info? 17).any (fun i => decide ((i.bytes : Int) * n ≤ 140737488355328)) = decide (8 * n ≤ 140737488355328) := any_at (by kernel_rfl) n
attribute [simp] Try.underlying18
@[simp] theorem sz18 : sizeT Try.prog 18 = 1 := by kernel_rfl
@[simp] theorem ag18 : isAggT Try.prog 18 = true := by kernel_rfl
@[simp] theorem in18 : (Try.prog.info? 18).isSome = true := by kernel_rfl
@[simp] theorem ze18 : zeroT Try.prog 18 = some [.nilp] := by kernel_rfl
@[simp] theorem fi18 (m : Nat) : fits Try.prog 18 m = decide (m * 8 ≤ 140737488355328) := fits_at ze18 (by kernel_rfl) m
@[simp] theorem an18 (n : Int) : (Try.prog.info? 18).any (fun i => decide ((i.bytes : Int) * n ≤ 140737488355328)) = decide (8 * n ≤ 140737488355328) := any_at (by kernel_rfl) n
attribute [simp] Try.underlying19
@[simp] theorem sz19 : sizeT Try.prog 19 = 1 := by kernel_rfl
@[simp] theorem ag19 : isAggT Try.prog 19 = true := by kernel_rfl
@[simp] theorem in19 : (Try.prog.info? 19).isSome = true := by kernel_rfl
@[simp] theorem ze19 : zeroT Try.prog 19 = some [.nilp] := by kernel_rfl
@[simp] theorem fi19 (m : Nat) : fits Try.prog 19 m = decide (m * 8 ≤ 140737488355328) := fits_at ze19 (by kernel_rfl) m
@[simp] theorem an19 (n : Int) : (Try.prog.info? 19).any (fun i => decide ((i.bytes : Int) * n ≤ 140737488355328)) = decide (8 * n ≤ 140737488355328) := any_at (by kernel_rfl) n
attribute [simp] Try.underlying20
@[simp] theorem sz20 : sizeT Try.prog 20 = 1 := by kernel_rfl
@[simp] theorem ag20 : isAggT Try.prog 20 = false := by kernel_rfl
@[simp] theorem in20 : (Try.prog.info? 20).isSome = true := by kernel_rfl
@[simp] theorem ze20 : zeroT Try.prog 20 = some [.raw .nilIface] := by kernel_rfl
@[simp] theorem fi20 (m : Nat) : fits Try.prog 20 m = decide (m * 16 ≤ 140737488355328) := fits_at ze20 (by kernel_rfl) m
@[simp] theorem an20 (n : Int) : (Try.prog.info? 20).any (fun i => decide ((i.bytes : Int) * n ≤ 140737488355328)) = decide (16 * n ≤ 140737488355328) := any_at (by kernel_rfl) n
attribute [simp] Try.underlying21
@[simp] theorem sz21 : sizeT Try.prog 21 = 1 := by kernel_rfl
@[simp] theorem ag21 : isAggT Try.prog 21 = false := by kernel_rfl
@[simp] theorem in21 : (Try.prog.info? 21).isSome = true := by kernel_rfl
@[simp] theorem ze21 : zeroT Try.prog 21 = some [.int .i32 0] := by kernel_rfl
@[simp] theorem fi21 (m : Nat) : fits Try.prog 21 m = decide (m * 4 ≤ 140737488355328) := fits_at ze21 (by kernel_rfl) m
@[simp] theorem an21 (n : Int) : (Try.prog.info? 21).any (fun i => decide ((i.bytes : Int) * n ≤ 140737488355328)) = decide (4 * n ≤ 140737488355328) := any_at (by kernel_rfl) n
attribute [simp] Try.underlying22
@[simp] theorem sz22 : sizeT Try.prog 22 = 1 := by kernel_rfl
@[simp] theorem ag22 : isAggT Try.prog 22 = false := by kernel_rfl
@[simp] theorem in22 : (Try.prog.info? 22).isSome = true := by kernel_rfl
@[simp] theorem el22 : elemT Try.prog 22 = some 37 := by kernel_rfl
@[simp] theorem ze22 : zeroT Try.prog 22 = some [.sl (.mu 0) 0 []] := by kernel_rfl
@[simp] theorem fi22 (m : Nat) : fits Try.prog 22 m = decide (m * 24 ≤ 140737488355328) := fits_at ze22 (by kernel_rfl) m
@[simp] theorem an22 (n : Int) : (Try.prog.info? 22).any (fun i => decide ((i.bytes : Int) * n ≤ 140737488355328)) = decide (24 * n ≤ 140737488355328) := any_at (by kernel_rfl) n
attribute [simp] Try.underlying23
@[simp] theorem sz23 : sizeT Try.prog 23 = 1 := by kernel_rfl
@[simp] theorem ag23 : isAggT Try.prog 23 = false := by kernel_rfl
@[simp] theorem in23 : (Try.prog.info? 23).isSome = true := by kernel_rfl
@[simp] theorem el23 : elemT Try.prog 23 = some 40 := by kernel_rfl
@[simp] theorem ze23 : zeroT Try.prog 23 = some [.sl (.mu 0) 0 []] := by kernel_rfl
@[simp] theorem fi23 (m : Nat) : fits Try.prog 23 m = decide (m * 24 ≤ 140737488355328) := fits_at ze23 (by kernel_rfl) m
@[simp] theorem an23 (n : Int) : (Try.prog.info? 23).any (fun i => decide ((i.bytes : Int) * n ≤ 140737488355328)) = decide (24 * n ≤ 140737488355328) := any_at (by kernel_rfl) n
attribute [simp] Try.underlying24
@[simp] theorem sz24 : sizeT Try.prog 24 = 1 := by kernel_rfl
@[simp] theorem ag24 : isAggT Try.prog 24 = false := by kernel_rfl
@[simp] theorem in24 : (Try.prog.info? 24).isSome = true := by kernel_rfl
@[simp] theorem el24 : elemT Try.prog 24 = some 32 := by kernel_rfl
@[simp] theorem ze24 : zeroT Try.prog 24 = some [.sl (.mu 0) 0 []] := by kernel_rfl
@[simp] theorem fi24 (m : Nat) : fits Try.prog 24 m = decide (m * 24 ≤ 140737488355328) := fits_at ze24 (by kernel_rfl) m
@[simp] theorem an24 (n : Int) : (Try.prog.info? 24).any (fun i => decide ((i.bytes : Int) * n ≤ 140737488355328)) = decide (24 * n ≤ 140737488355328) := any_at (by kernel_rfl) n
attribute [simp] Try.underlying25
@[simp] theorem sz25 : sizeT Try.prog 25 = 4 := by kernel_rfl
@[simp] theorem ag25 : isAggT Try.prog 25 = true := by kernel_rfl
@[simp] theorem in25 : (Try.prog.info? 25).isSome = true := by kernel_rfl
@[simp] theorem ze25 : zeroT Try.prog 25 = some [.int .i64 0, .sl (.mu 0) 0 [], .sl (.mu 0) 0 [], .sl (.mu 0) 0 []] := by kernel_rfl
@[simp] theorem fi25 (m : Nat) : fits Try.prog 25 m = decide (m * 80 ≤ 140737488355328) := fits_at ze25 (by kernel_rfl) m
@[simp] theorem an25 (n : Int) : (Try.prog.info? 25).any (fun i => decide ((i.bytes : Int) * n ≤ 140737488355328)) = decide (80 * n ≤ 140737488355328) := any_at (by kernel_rfl) n
attribute [simp] Try.underlying26
@[simp] theorem sz26 : sizeT Try.prog 26 = 4 := by kernel_rfl
@[simp] theorem ag26 : isAggT Try.prog 26 = true := by kernel_rfl
@[simp] theorem in26 : (Try.prog.info? 26).isSome = true := by kernel_rfl
@[simp] theorem ze26 : zeroT Try.prog 26 = some [.int .i64 0, .sl (.mu 0) 0 [], .sl (.mu 0) 0 [], .sl (.mu 0) 0 []] := by kernel_rfl
@[simp] theorem fi26 (m : Nat) : fits Try.prog 26 m = decide (m * 80 ≤ 140737488355328) := fits_at ze26 (by kernel_rfl) m
@[simp] theorem an26 (n : Int) : (Try.prog.info? 26).any (fun i => decide ((i.bytes : Int) * n ≤ 140737488355328)) = decide (80 * n ≤ 140737488355328) := any_at (by kernel_rfl) n
attribute [simp] Try.underlying27
@[simp] theorem sz27 : sizeT Try.prog 27 = 1 := by kernel_rfl
@[simp] theorem ag27 : isAggT Try.prog 27 = false := by kernel_rfl
@[simp] theorem in27 : (Try.prog.info? 27).isSome = true := by kernel_rfl
@[simp] theorem el27 : elemT Try.prog 27 = some 84 := by kernel_rfl
@[simp] theorem ze27 : zeroT Try.prog 27 = some [.sl (.mu 0) 0 []] := by kernel_rfl
@[simp] theorem fi27 (m : Nat) : fits Try.prog 27 m = decide (m * 24 ≤ 140737488355328) := fits_at ze27 (by kernel_rfl) m
@[simp] theorem an27 (n : Int) : (Try.prog.info? 27).any (fun i => decide ((i.bytes : Int) * n ≤ 140737488355328)) = decide (24 * n ≤ 140737488355328) := any_at (by kernel_rfl) n
attribute [simp] Try.underlying28
@[simp] theorem sz28 : sizeT Try.prog 28 = 1 := by kernel_rfl
@[simp] theorem ag28 : isAggT Try.prog 28 = false := by kernel_rfl
@[simp] theorem in28 : (Try.prog.info? 28).isSome = true := by kernel_rfl
@[simp] theorem ze28 : zeroT Try.prog 28 = some [.raw .nilFunc] := by kernel_rfl
@[simp] theorem fi28 (m : Nat) : fits Try.prog 28 m = decide (m * 8 ≤ 140737488355328) := fits_at ze28 (by kernel_rfl) m
@[simp] theorem an28 (n : Int) : (Try.prog.info? 28).any (fun i => decide ((i.bytes : Int) * n ≤ 140737488355328)) = decide (8 * n ≤ 140737488355328) := any_at (by kernel_rfl) n
attribute [simp] Try.underlying29
@[simp] theorem sz29 : sizeT Try.prog 29 = 1 := by kernel_rfl
@[simp] theorem ag29 : isAggT Try.prog 29 = false := by kernel_rfl
@[simp] theorem in29 : (Try.prog.info? 29).isSome = true := by kernel_rfl
@[simp] theorem ze29 : zeroT Try.prog 29 = some [.raw .nilFunc] := by kernel_rfl
@[simp] theorem fi29 (m : Nat) : fits Try.prog 29 m = decide (m * 8 ≤ 140737488355328) := fits_at ze29 (by kernel_rfl) m
@[simp] theorem an29 (n : Int) : (Try.prog.info? 29).any (fun i => decide ((i.bytes : Int) * n ≤ 140737488355328)) = decide (8 * n ≤ 140737488355328) := any_at (by kernel_rfl) n
attribute [simp] Try.underlying30
@[simp] theorem sz30 : sizeT Try.prog 30 = 1 := by kernel_rfl
@[simp] theorem ag30 : isAggT Try.prog 30 = false := by kernel_rfl
@[simp] theorem in30 : (Try.prog.info? 30).isSome = true := by kernel_rfl
@[simp] theorem ze30 : zeroT Try.prog 30 = some [.raw .nilFunc] := by kernel_rfl
@[simp] theorem fi30 (m : Nat) : fits Try.prog 30 m = decide (m * 8 ≤ 140737488355328) := fits_at ze30 (by kernel_rfl) m
@[simp] theorem an30 (n : Int) : (Try.prog.info? 30).any (fun i => decide ((i.bytes : Int) * n ≤ 140737488355328)) = decide (8 * n ≤ 140737488355328) := any_at (by kernel_rfl) n
attribute [simp] Try.underlying31
@[simp] theorem sz31 : sizeT Try.prog 31 = 10 := by kernel_rfl
@[simp] theorem ag31 : isAggT Try.prog 31 = true := by kernel_rfl
@[simp] theorem in31 : (Try.prog.info? 31).isSome = true := by kernel_rfl
@[simp] theorem ze31 : zeroT Try.prog 31 = some [.int .i64 0, .int .i64 0, .int .i64 0, .int .i64 0, .int .i64 0, .int .i64 0, .int .i64 0, .int .i64 0, .int .i64 0, .int .i64 0] := by kernel_rfl
@[simp] theorem fi31 (m : Nat) : fits Try.prog 31 m = decide (m * 80 ≤ 140737488355328) := fits_at ze31 (by kernel_rfl) m
@[simp] theorem an31 (n : Int) : (Try.prog.info? 31).any (fun i => decide ((i.bytes : Int) * n ≤ 140737488355328)) = decide (80 * n ≤ 140737488355328) := any_at (by kernel_rfl) n
attribute [simp] Try.underlying32
@[simp] theorem sz32 : sizeT Try.prog 32 = 10 := by kernel_rfl
@[simp] theorem ag32 : isAggT Try.prog 32 = true := by kernel_rfl
@[simp] theorem in32 : (Try.prog.info? 32).isSome = true := by kernel_rfl
@[simp] theorem ze32 : zeroT Try.prog 32 = some [.int .i64 0, .int .i64 0, .int .i64 0, .int .i64 0, .int .i64 0, .int .i64 0, .int .i64 0, .int .i64 0, .int .i64 0, .int .i64 0] := by kernel_rfl
@[simp] theorem fi32 (m : Nat) : fits Try.prog 32 m = decide (m * 80 ≤ 140737488355328) := fits_at ze32 (by kernel_rfl) m
@[simp] theorem an32 (n : Int) : (Try.prog.info? 32).any (fun i => decide ((i.bytes : Int) * n ≤ 140737488355328)) = decide (80 * n ≤ 140737488355328) := any_at (by kernel_rfl) n
attribute [simp] Try.underlying33
@[simp] theorem sz33 : sizeT Try.prog 33 = 1 := by kernel_rfl
@[simp] theorem ag33 : isAggT Try.prog 33 = false := by kernel_rfl
@[simp] theorem in33 : (Try.prog.info? 33).isSome = true := by kernel_rfl
@[simp] theorem ze33 : zeroT Try.prog 33 = some [.raw .nilFunc] := by kernel_rfl
@[simp] theorem fi33 (m : Nat) : fits Try.prog 33 m = decide (m * 8 ≤ 140737488355328) := fits_at ze33 (by kernel_rfl) m
@[simp] theorem an33 (n : Int) : (Try.prog.info? 33).any (fun i => decide ((i.bytes : Int) * n ≤ 140737488355328)) = decide (8 * n ≤ 140737488355328) := any_at (by kernel_rfl) n
attribute [simp] Try.underlying34
@[simp] theorem sz34 : sizeT Try.prog 34 = 1 := by kernel_rfl
@[simp] theorem ag34 : isAggT Try.prog 34 = false := by kernel_rfl
@[simp] theorem in34 : (Try.prog.info? 34).isSome = true := by kernel_rfl
@[simp] theorem el34 : elemT Try.prog 34 = some 39 := by kernel_rfl
@[simp] theorem ze34 : zeroT Try.prog 34 = some [.sl (.mu 0) 0 []] := by kernel_rfl
@[simp] theorem fi34 (m : Nat) : fits Try.prog 34 m = decide (m * 24 ≤ 140737488355328) := fits_at ze34 (by kernel_rfl) m
@[simp] theorem an34 (n : Int) : (Try.prog.info? 34).any (fun i => decide ((i.bytes : Int) * n ≤ 140737488355328)) = decide (24 * n ≤ 140737488355328) := any_at (by kernel_rfl) n
attribute [simp] Try.underlying35
@[simp] theorem sz35 : sizeT Try.prog 35 = 1 := by kernel_rfl
@[simp] theorem ag35 : isAggT Try.prog 35 = false := by kernel_rfl
@[simp] theorem in35 : (Try.prog.info? 35).isSome = true := by kernel_rfl
@[simp] theorem el35 : elemT Try.prog 35 = some 3 := by kernel_rfl
@[simp] theorem ze35 : zeroT Try.prog 35 = some [.sl (.mu 0) 0 []] := by kernel_rfl
@[simp] theorem fi35 (m : Nat) : fits Try.prog 35 m = decide (m * 24 ≤ 140737488355328) := fits_at ze35 (by kernel_rfl) m
@[simp] theorem an35 (n : Int) : (Try.prog.info? 35).any (fun i => decide ((i.bytes : Int) * n ≤ 140737488355328)) = decide (24 * n ≤ 140737488355328) := any_at (by kernel_rfl) n
attribute [simp] Try.underlying36
@[simp] theorem sz36 : sizeT Try.prog 36 = 3 := by kernel_rfl
@[simp] theorem ag36 : isAggT Try.prog 36 = true := by kernel_rfl
@[simp] theorem in36 : (Try.prog.info? 36).isSome = true := by kernel_rfl
@[simp] theorem ze36 : zeroT Try.prog 36 = some [.int .i64 0, .int .i64 0, .int .i64 0] := by kernel_rfl
@[simp] theorem fi36 (m : Nat) : fits Try.prog 36 m = decide (m * 24 ≤ 140737488355328) := fits_at ze36 (by kernel_rfl) m
@[simp] theorem an36 (n : Int) : (Try.prog.info? 36).any (fun i => decide ((i.bytes : Int) * n ≤ 140737488355328)) = decide (24 * n ≤ 140737488355328) := any_at (by kernel_rfl) n
attribute [simp] Try.underlying37
@[simp] theorem sz37 : sizeT Try.prog 37 = 3 := by kernel_rfl
@[simp] theorem ag37 : isAggT Try.prog 37 = true := by kernel_rfl
@[simp] theorem in37 : (Try.prog.info? 37).isSome = true := by kernel_rfl
@[simp] theorem ze37 : zeroT Try.prog 37 = some [.int .i64 0, .int .i64 0, .int .i64 0] := by kernel_rfl
@[simp] theorem fi37 (m : Nat) : fits Try.prog 37 m = decide (m * 24 ≤ 140737488355328) := fits_at ze37 (by kernel_rfl) m
@[simp] theorem an37 (n : Int) : (Try.prog.info? 37).any (fun i => decide ((i.bytes : Int) * n ≤ 140737488355328)) = decide (24 * n ≤ 140737488355328) := any_at (by kernel_rfl) n
attribute [simp] Try.underlying38
@[simp] theorem sz38 : sizeT Try.prog 38 = 2 := by kernel_rfl
@[simp] theorem ag38 : isAggT Try.prog 38 = true := by kernel_rfl
@[simp] theorem in38 : (Try.prog.info? 38).isSome = true := by kernel_rfl
@[simp] theorem ze38 : zeroT Try.prog 38 = some [.int .i64 0, .int .i64 0] := by kernel_rfl
@[simp] theorem fi38 (m : Nat) : fits Try.prog 38 m = decide (m * 16 ≤ 140737488355328) := fits_at ze38 (by kernel_rfl) m
@[simp] theorem an38 (n : Int) : (Try.prog.info? 38).any (fun i => decide ((i.bytes : Int) * n ≤ 140737488355328)) = decide (16 * n ≤ 140737488355328) := any_at (by kernel_rfl) n
attribute [simp] Try.underlying39
@[simp] theorem sz39 : sizeT Try.prog 39 = 2 := by kernel_rfl
@[simp] theorem ag39 : isAggT Try.prog 39 = true := by kernel_rfl
@[simp] theorem in39 : (Try.prog.info? 39).isSome = true := by kernel_rfl
@[simp] theorem ze39 : zeroT Try.prog 39 = some [.int .i64 0, .int .i64 0] := by kernel_rfl
@[simp] theorem fi39 (m : Nat) : fits Try.prog 39 m = decide (m * 16 ≤ 140737488355328) := fits_at ze39 (by kernel_rfl) m
@[simp] theorem an39 (n : Int) : (Try.prog.info? 39).any (fun i => decide ((i.bytes : Int) * n ≤ 140737488355328)) = decide (16 * n ≤ 140737488355328) := any_at (by kernel_rfl) n
attribute [simp] Try.underlying40
@[simp] theorem sz40 : sizeT Try.prog 40 = 3 := by kernel_rfl
@[simp] theorem ag40 : isAggT Try.prog 40 = true := by kernel_rfl
@[simp] theorem in40 : (Try.prog.info? 40).isSome = true := by kernel_rfl
@[simp] theorem ze40 : zeroT Try.prog 40 = some [.int .i64 0, .int .i64 0, .int .i64 0] := by kernel_rfl
@[simp] theorem fi40 (m : Nat) : fits Try.prog 40 m = decide (m * 24 ≤ 140737488355328) := fits_at ze40 (by kernel_rfl) m
@[simp] theorem an40 (n : Int) : (Try.prog.info? 40).any (fun i => decide ((i.bytes : Int) * n ≤ 140737488355328)) = decide (24 * n ≤ 140737488355328) := any_at (by kernel_rfl) n
attribute [simp] Try.underlying41
@[simp] theorem sz41 : sizeT Try.prog 41 = 1 := by kernel_rfl
@[simp] theorem ag41 : isAggT Try.prog 41 = false := by kernel_rfl
@[simp] theorem in41 : (Try.prog.info? 41).isSome = true := by kernel_rfl
@[simp] theorem el41 : elemT Try.prog 41 = some 44 := by kernel_rfl
@[simp] theorem ze41 : zeroT Try.prog 41 = some [.sl (.mu 0) 0 []] := by kernel_rfl
@[simp] theorem fi41 (m : Nat) : fits Try.prog 41 m = decide (m * 24 ≤ 140737488355328) := fits_at ze41 (by kernel_rfl) m
@[simp] theorem an41 (n : Int) : (Try.prog.info? 41).any (fun i => decide ((i.bytes : Int) * n ≤ 140737488355328)) = decide (24 * n ≤ 140737488355328) := any_at (by kernel_rfl) n
attribute [simp] Try.underlying42
@[simp] theorem sz42 : sizeT Try.prog 42 = 1 := by kernel_rfl
@[simp] theorem ag42 : isAggT Try.prog 42 = false := by kernel_rfl
@[simp] theorem in42 : (Try.prog.info? 42).isSome = true := by kernel_rfl
@[simp] theorem ze42 : zeroT Try.prog 42 = some [.raw .nilFunc] := by kernel_rfl
@[simp] theorem fi42 (m : Nat) : fits Try.prog 42 m = decide (m * 8 ≤ 140737488355328) := fits_at ze42 (by kernel_rfl) m
@[simp] theorem an42 (n : Int) : (Try.prog.info? 42).any (fun i => decide ((i.bytes : Int) * n ≤ 140737488355328)) = decide (8 * n ≤ 140737488355328) := any_at (by kernel_rfl) n
attribute [simp] Try.underlying43
@[simp] theorem sz43 : sizeT Try.prog 43 = 3 := by kernel_rfl
@[simp] theorem ag43 : isAggT Try.prog 43 = true := by kernel_rfl
@[simp] theorem in43 : (Try.prog.info? 43).isSome = true := by kernel_rfl
@[simp] theorem ze43 : zeroT Try.prog 43 = some [.int .i64 0, .int .i64 0, .int .i64 0] := by kernel_rfl
@[simp] theorem fi43 (m : Nat) : fits Try.prog 43 m = decide (m * 24 ≤ 140737488355328) := fits_at ze43 (by kernel_rfl) m
@[simp] theorem an43 (n : Int) : (Try.prog.info? 43).any (fun i => decide ((i.bytes : Int) * n ≤ 140737488355328)) = decide (24 * n ≤ 140737488355328) := any_at (by kernel_rfl) n
attribute [simp] Try.underlying44
@[simp] theorem sz44 : sizeT Try.prog 44 = 3 := by kernel_rfl
@[simp] theorem ag44 : isAggT Try.prog 44 = true := by kernel_rfl
@[simp] theorem in44 : (Try.prog.info? 44).isSome = true := by kernel_rfl
@[simp] theorem ze44 : zeroT Try.prog 44 = some [.int .i64 0, .int .i64 0, .int .i64 0] := by kernel_rfl
@[simp] theorem fi44 (m : Nat) : fits Try.prog 44 m = decide (m * 24 ≤ 140737488355328) := fits_at ze44 (by kernel_rfl) m
@[simp] theorem an44 (n : Int) : (Try.prog.info? 44).any (fun i => decide ((i.bytes : Int) * n ≤ 140737488355328)) = decide (24 * n ≤ 140737488355328) := any_at (by kernel_rfl) n
attribute [simp] Try.underlying45
@[simp] theorem sz45 : sizeT Try.prog 45 = 1 := by kernel_rfl
@[simp] theorem ag45 : isAggT Try.prog 45 = false := by kernel_rfl
@[simp] theorem in45 : (Try.prog.info? 45).isSome = true := by kernel_rfl
@[simp] theorem ze45 : zeroT Try.prog 45 = some [.raw .nilFunc] := by kernel_rfl
@[simp] theorem fi45 (m : Nat) : fits Try.prog 45 m = decide (m * 8 ≤ 140737488355328) := fits_at ze45 (by kernel_rfl) m
@[simp] theorem an45 (n : Int) : (Try.prog.info? 45).any (fun i => decide ((i.bytes : Int) * n ≤ 140737488355328)) = decide (8 * n ≤ 140737488355328) := any_at (by kernel_rfl) n
attribute [simp] Try.underlying47
@[simp] theorem sz47 : sizeT Try.prog 47 = 1 := by kernel_rfl
@[simp] theorem ag47 : isAggT Try.prog 47 = false := by kernel_rfl
@[simp] theorem in47 : (Try.prog.info? 47).isSome = true := by kernel_rfl
@[simp] theorem ze47 : zeroT Try.prog 47 = some [.raw .nilFunc] := by kernel_rfl
@[simp] theorem fi47 (m : Nat) : fits Try.prog 47 m = decide (m * 8 ≤ 140737488355328) := fits_at ze47 (by kernel_rfl) m
@[simp] theorem an47 (n : Int) : (Try.prog.info? 47).any (fun i => decide ((i.bytes : Int) * n ≤ 140737488355328)) = decide (8 * n ≤ 140737488355328) := any_at (by kernel_rfl) n
attribute [simp] Try.underlying48
@[simp] theorem sz48 : sizeT Try.prog 48 = 1 := by kernel_rfl
@[simp] theorem ag48 : isAggT Try.prog 48 = false := by kernel_rfl
@[simp] theorem in48 : (Try.prog.info? 48).isSome = true := by kernel_rfl
@[simp] theorem el48 : elemT Try.prog 48 = some 90 := by kernel_rfl
@[simp] theorem ze48 : zeroT Try.prog 48 = some [.sl (.mu 0) 0 []] := by kernel_rfl
@[simp] theorem fi48 (m : Nat) : fits Try.prog 48 m = decide (m * 24 ≤ 140737488355328) := fits_at ze48 (by kernel_rfl) m
@[simp] theorem an48 (n : Int) : (Try.prog.info? 48).any (fun i => decide ((i.bytes : Int) * n ≤ 140737488355328)) = decide (24 * n ≤ 140737488355328) := any_at (by kernel_rfl) n
attribute [simp] Try.underlying49
@[simp] theorem sz49 : sizeT Try.prog 49 = 1 := by kernel_rfl
@[simp] theorem ag49 : isAggT Try.prog 49 = false := by kernel_rfl
@[simp] theorem in49 : (Try.prog.info? 49).isSome = true := by kernel_rfl
@[simp] theorem el49 : elemT Try.prog 49 = some 63 := by kernel_rfl
@[simp] theorem ze49 : zeroT Try.prog 49 = some [.sl (.mu 0) 0 []] := by kernel_rfl
@[simp] theorem fi49 (m : Nat) : fits Try.prog 49 m = decide (m * 24 ≤ 140737488355328) := fits_at ze49 (by kernel_rfl) m
@[simp] theorem an49 (n : Int) : (Try.prog.info? 49).any (fun i => decide ((i.bytes : Int) * n ≤ 140737488355328)) = decide (24 * n ≤ 140737488355328) := any_at (by kernel_rfl) n
attribute [simp] Try.underlying50
@[simp] theorem sz50 : sizeT Try.prog 50 = 1 := by kernel_rfl
@[simp] theorem ag50 : isAggT Try.prog 50 = false := by kernel_rfl
@[simp] theorem in50 : (Try.prog.info? 50).isSome = true := by kernel_rfl
@[simp] theorem el50 : elemT Try.prog 50 = some 91 := by kernel_rfl
@[simp] theorem ze50 : zeroT Try.prog 50 = some [.sl (.mu 0) 0 []] := by kernel_rfl
@[simp] theorem fi50 (m : Nat) : fits Try.prog 50 m = decide (m * 24 ≤ 140737488355328) := fits_at ze50 (by kernel_rfl) m
@[simp] theorem an50 (n : Int) : (Try.prog.info? 50).any (fun i => decide ((i.bytes : Int) * n ≤ 140737488355328)) = decide (24 * n ≤ 140737488355328) := any_at (by kernel_rfl) n
attribute [simp] Try.underlying52
@[simp] theorem sz52 : sizeT Try.prog 52 = 1 := by kernel_rfl
@[simp] theorem ag52 : isAggT Try.prog 52 = false := by kernel_rfl
@[simp] theorem in52 : (Try.prog.info? 52).isSome = true := by kernel_rfl
@[simp] theorem ze52 : zeroT Try.prog 52 = some [.raw .nilFunc] := by kernel_rfl
@[simp] theorem fi52 (m : Nat) : fits Try.prog 52 m = decide (m * 8 ≤ 140737488355328) := fits_at ze52 (by kernel_rfl) m
@[simp] theorem an52 (n : Int) : (Try.prog.info? 52).any (fun i => decide ((i.bytes : Int) * n ≤ 140737488355328)) = decide (8 * n ≤ 140737488355328) := any_at (by kernel_rfl) n
attribute [simp] Try.underlying53
@[simp] theorem sz53 : sizeT Try.prog 53 = 1 := by kernel_rfl
@[simp] theorem ag53 : isAggT Try.prog 53 = false := by kernel_rfl
@[simp] theorem in53 : (Try.prog.info? 53).isSome = true := by kernel_rfl
@[simp] theorem ze53 : zeroT Try.prog 53 = some [.nilp] := by kernel_rfl
@[simp] theorem fi53 (m : Nat) : fits Try.prog 53 m = decide (m * 8 ≤ 140737488355328) := fits_at ze53 (by kernel_rfl) m
@[simp] theorem an53 (n : Int) : (Try.prog.info? 53).any (fun i => decide ((i.bytes : Int) * n ≤ 140737488355328)) = decide (8 * n ≤ 140737488355328) := any_at (by kernel_rfl) n
attribute [simp] Try.underlying54
@[simp] theorem sz54 : sizeT Try.prog 54 = 1 := by kernel_rfl
@[simp] theorem ag54 : isAggT Try.prog 54 = false := by kernel_rfl
@[simp] theorem in54 : (Try.prog.info? 54).isSome = true := by kernel_rfl
@[simp] theorem ze54 : zeroT Try.prog 54 = some [.int .i64 0] := by kernel_rfl
@[simp] theorem fi54 (m : Nat) : fits Try.prog 54 m = decide (m * 8 ≤ 140737488355328) := fits_at ze54 (by kernel_rfl) m
@[simp] theorem an54 (n : Int) : (Try.prog.info? 54).any (fun i => decide ((i.bytes : Int) * n ≤ 140737488355328)) = decide (8 * n ≤ 140737488355328) := any_at (by kernel_rfl) n
attribute [simp] Try.underlying56
@[simp] theorem sz56 : sizeT Try.prog 56 = 1 := by kernel_rfl
@[simp] theorem ag56 : isAggT Try.prog 56 = false := by kernel_rfl
@[simp] theorem in56 : (Try.prog.info? 56).isSome = true := by kernel_rfl
@[simp] theorem ze56 : zeroT Try.prog 56 = some [.raw .nilFunc] := by kernel_rfl
@[simp] theorem fi56 (m : Nat) : fits Try.prog 56 m = decide (m * 8 ≤ 140737488355328) := fits_at ze56 (by kernel_rfl) m
@[simp] theorem an56 (n : Int) : (Try.prog.info? 56).any (fun i => decide ((i.bytes : Int) * n ≤ 140737488355328)) = decide (8 * n ≤ 140737488355328) := any_at (by kernel_rfl) n
attribute [simp] Try.underlying57
@[simp] theorem sz57 : sizeT Try.prog 57 = 1 := by kernel_rfl
@[simp] theorem ag57 : isAggT Try.prog 57 = false := by kernel_rfl
@[simp] theorem in57 : (Try.prog.info? 57).isSome = true := by kernel_rfl
@[simp] theorem ze57 : zeroT Try.prog 57 = some [.raw .nilFunc] := by kernel_rfl
@[simp] theorem fi57 (m : Nat) : fits Try.prog 57 m = decide (m * 8 ≤ 140737488355328) := fits_at ze57 (by kernel_rfl) m
@[simp] theorem an57 (n : Int) : (Try.prog.info? 57).any (fun i => decide ((i.bytes : Int) * n ≤ 140737488355328)) = decide (8 * n ≤ 140737488355328) := any_at (by kernel_rfl) n
attribute [simp] Try.underlying58
@[simp] theorem sz58 : sizeT Try.prog 58 = 1 := by kernel_rfl
@[simp] theorem ag58 : isAggT Try.prog 58 = false := by kernel_rfl
@[simp] theorem in58 : (Try.prog.info? 58).isSome = true := by kernel_rfl
@[simp] theorem ze58 : zeroT Try.prog 58 = some [.nilp] := by kernel_rfl
@[simp] theorem fi58 (m : Nat) : fits Try.prog 58 m = decide (m * 8 ≤ 140737488355328) := fits_at ze58 (by kernel_rfl) m
@[simp] theorem an58 (n : Int) : (Try.prog.info? 58).any (fun i => decide ((i.bytes : Int) * n ≤ 140737488355328)) = decide (8 * n ≤ 140737488355328) := any_at (by kernel_rfl) n
attribute [simp] Try.underlying59
@[simp] theorem sz59 : sizeT Try.prog 59 = 1 := by kernel_rfl
@[simp] theorem ag59 : isAggT Try.prog 59 = false := by kernel_rfl
@[simp] theorem in59 : (Try.prog.info? 59).isSome = true := by kernel_rfl
@[simp] theorem ze59 : zeroT Try.prog 59 = some [.raw .nilFunc] := by kernel_rfl
@[simp] theorem fi59 (m : Nat) : fits Try.prog 59 m = decide (m * 8 ≤ 140737488355328) := fits_at ze59 (by kernel_rfl) m
@[simp] theorem an59 (n : Int) : (Try.prog.info? 59).any (fun i => decide ((i.bytes : Int) * n ≤ 140737488355328)) = decide (8 * n ≤ 140737488355328) := any_at (by kernel_rfl) n
attribute [simp] Try.underlying60
@[simp] theorem sz60 : sizeT Try.prog 60 = 5 := by kernel_rfl
@[simp] theorem ag60 : isAggT Try.prog 60 = true := by kernel_rfl
@[simp] theorem in60 : (Try.prog.info? 60).isSome = true := by kernel_rfl
@[simp] theorem ze60 : zeroT Try.prog 60 = some [.int .i64 0, .int .i64 0, .int .i64 0, .bool false, .str []] := by kernel_rfl
@[simp] theorem fi60 (m : Nat) : fits Try.prog 60 m = decide (m * 48 ≤ 140737488355328) := fits_at ze60 (by kernel_rfl) m
@[simp] theorem an60 (n : Int) : (Try.prog.info? 60).any (fun i => decide ((i.bytes : Int) * n ≤ 140737488355328)) = decide (48 * n ≤ 140737488355328) := any_at (by kernel_rfl) n
attribute [simp] Try.underlying61
@[simp] theorem sz61 : sizeT Try.prog 61 = 5 := by kernel_rfl
@[simp] theorem ag61 : isAggT Try.prog 61 = true := by kernel_rfl
@[simp] theorem in61 : (Try.prog.info? 61).isSome = true := by kernel_rfl
@[simp] theorem ze61 : zeroT Try.prog 61 = some [.int .i64 0, .int .i64 0, .int .i64 0, .bool false, .str []] := by kernel_rfl
@[simp] theorem fi61 (m : Nat) : fits Try.prog 61 m = decide (m * 48 ≤ 140737488355328) := fits_at ze61 (by kernel_rfl) m
@[simp] theorem an61 (n : Int) : (Try.prog.info? 61).any (fun i => decide ((i.bytes : Int) * n ≤ 140737488355328)) = decide (48 * n ≤ 140737488355328) := any_at (by kernel_rfl) n
attribute [simp] Try.underlying62
@[simp] theorem sz62 : sizeT Try.prog 62 = 7 := by kernel_rfl
@[simp] theorem ag62 : isAggT Try.prog 62 = true := by kernel_rfl
@[simp] theorem in62 : (Try.prog.info? 62).isSome = true := by kernel_rfl
@[simp] theorem ze62 : zeroT Try.prog 62 = some [.int .i64 0, .int .i64 0, .int .i64 0, .int .i64 0, .int .i64 0, .bool false, .str []] := by kernel_rfl
@[simp] theorem fi62 (m : Nat) : fits Try.prog 62 m = decide (m * 64 ≤ 140737488355328) := fits_at ze62 (by kernel_rfl) m
@[simp] theorem an62 (n : Int) : (Try.prog.info? 62).any (fun i => decide ((i.bytes : Int) * n ≤ 140737488355328)) = decide (64 * n ≤ 140737488355328) := any_at (by kernel_rfl) n
attribute [simp] Try.underlying63
@[simp] theorem sz63 : sizeT Try.prog 63 = 7 := by kernel_rfl
@[simp] theorem ag63 : isAggT Try.prog 63 = true := by kernel_rfl
@[simp] theorem in63 : (Try.prog.info? 63).isSome = true := by kernel_rfl
@[simp] theorem ze63 : zeroT Try.prog 63 = some [.int .i64 0, .int .i64 0, .int .i64 0, .int .i64 0, .int .i64 0, .bool false, .str []] := by kernel_rfl
@[simp] theorem fi63 (m : Nat) : fits Try.prog 63 m = decide (m * 64 ≤ 140737488355328) := fits_at ze63 (by kernel_rfl) m
@[simp] theorem an63 (n : Int) : (Try.prog.info? 63).any (fun i => decide ((i.bytes : Int) * n ≤ 140737488355328)) = decide (64 * n ≤ 140737488355328) := any_at (by kernel_rfl) n
attribute [simp] Try.underlying64
@[simp] theorem sz64 : sizeT Try.prog 64 = 1 := by kernel_rfl
@[simp] theorem ag64 : isAggT Try.prog 64 = false := by kernel_rfl
@[simp] theorem in64 : (Try.prog.info? 64).isSome = true := by kernel_rfl
@[simp] theorem ze64 : zeroT Try.prog 64 = some [.raw .nilFunc] := by kernel_rfl
@[simp] theorem fi64 (m : Nat) : fits Try.prog 64 m = decide (m * 8 ≤ 140737488355328) := fits_at ze64 (by kernel_rfl) m
@[simp] theorem an64 (n : Int) : (Try.prog.info? 64).any (fun i => decide ((i.bytes : Int) * n ≤ 140737488355328)) = decide (8 * n ≤ 140737488355328) := any_at (by kernel_rfl) n
attribute [simp] Try.underlying65
@[simp] theorem sz65 : sizeT Try.prog 65 = 1 := by kernel_rfl
@[simp] theorem ag65 : isAggT Try.prog 65 = false := by kernel_rfl
@[simp] theorem in65 : (Try.prog.info? 65).isSome = true := by kernel_rfl
@[simp] theorem ze65 : zeroT Try.prog 65 = some [.raw .nilFunc] := by kernel_rfl
@[simp] theorem fi65 (m : Nat) : fits Try.prog 65 m = decide (m * 8 ≤ 140737488355328) := fits_at ze65 (by kernel_rfl) m
@[simp] theorem an65 (n : Int) : (Try.prog.info? 65).any (fun i => decide ((i.bytes : Int) * n ≤ 140737488355328)) = decide (8 * n ≤ 140737488355328) := any_at (by kernel_rfl) n
attribute [simp] Try.underlying66
@[simp] theorem sz66 : sizeT Try.prog 66 = 1 := by kernel_rfl
@[simp] theorem ag66 : isAggT Try.prog 66 = false := by kernel_rfl
@[simp] theorem in66 : (Try.prog.info? 66).isSome = true := by kernel_rfl
@[simp] theorem ze66 : zeroT Try.prog 66 = some [.raw .nilFunc] := by kernel_rfl
@[simp] theorem fi66 (m : Nat) : fits Try.prog 66 m = decide (m * 8 ≤ 140737488355328) := fits_at ze66 (by kernel_rfl) m
@[simp] theorem an66 (n : Int) : (Try.prog.info? 66).any (fun i => decide ((i.bytes : Int) * n ≤ 140737488355328)) = decide (8 * n ≤ 140737488355328) := any_at (by kernel_rfl) n
attribute [simp] Try.underlying67
@[simp] theorem sz67 : sizeT Try.prog 67 = 1 := by kernel_rfl
@[simp] theorem ag67 : isAggT Try.prog 67 = false := by kernel_rfl
@[simp] theorem in67 : (Try.prog.info? 67).isSome = true := by kernel_rfl
@[simp] theorem ze67 : zeroT Try.prog 67 = some [.raw .nilFunc] := by kernel_rfl
@[simp] theorem fi67 (m : Nat) : fits Try.prog 67 m = decide (m * 8 ≤ 140737488355328) := fits_at ze67 (by kernel_rfl) m
@[simp] theorem an67 (n : Int) : (Try.prog.info? 67).any (fun i => decide ((i.bytes : Int) * n ≤ 140737488355328)) = decide (8 * n ≤ 140737488355328) := any_at (by kernel_rfl) n
attribute [simp] Try.underlying69
@[simp] theorem sz69 : sizeT Try.prog 69 = 1 := by kernel_rfl
@[simp] theorem ag69 : isAggT Try.prog 69 = false := by kernel_rfl
@[simp] theorem in69 : (Try.prog.info? 69).isSome = true := by kernel_rfl
@[simp] theorem ze69 : zeroT Try.prog 69 = some [.raw .nilFunc] := by kernel_rfl
@[simp] theorem fi69 (m : Nat) : fits Try.prog 69 m = decide (m * 8 ≤ 140737488355328) := fits_at ze69 (by kernel_rfl) m
@[simp] theorem an69 (n : Int) : (Try.prog.info? 69).any (fun i => decide ((i.bytes : Int) * n ≤ 140737488355328)) = decide (8 * n ≤ 140737488355328) := any_at (by kernel_rfl) n
attribute [simp] Try.underlying70
@[simp] theorem sz70 : sizeT Try.prog 70 = 1 := by kernel_rfl
@[simp] theorem ag70 : isAggT Try.prog 70 = false := by kernel_rfl
@[simp] theorem in70 : (Try.prog.info? 70).isSome = true := by kernel_rfl
@[simp] theorem el70 : elemT Try.prog 70 = some 73 := by kernel_rfl
@[simp] theorem ze70 : zeroT Try.prog 70 = some [.sl (.mu 0) 0 []] := by kernel_rfl
@[simp] theorem fi70 (m : Nat) : fits Try.prog 70 m = decide (m * 24 ≤ 140737488355328) := fits_at ze70 (by kernel_rfl) m
@[simp] theorem an70 (n : Int) : (Try.prog.info? 70).any (fun i => decide ((i.bytes : Int) * n ≤ 140737488355328)) = decide (24 * n ≤ 140737488355328) := any_at (by kernel_rfl) n
attribute [simp] Try.underlying71
@[simp] theorem sz71 : sizeT Try.prog 71 = 1 := by kernel_rfl
@[simp] theorem ag71 : isAggT Try.prog 71 = false := by kernel_rfl
@[simp] theorem in71 : (Try.prog.info? 71).isSome = true := by kernel_rfl
@[simp] theorem ze71 : zeroT Try.prog 71 = some [.raw .nilFunc] := by kernel_rfl
@[simp] theorem fi71 (m : Nat) : fits Try.prog 71 m = decide (m * 8 ≤ 140737488355328) := fits_at ze71 (by kernel_rfl) m
@[simp] theorem an71 (n : Int) : (Try.prog.info? 71).any (fun i => decide ((i.bytes : Int) * n ≤ 140737488355328)) = decide (8 * n ≤ 140737488355328) := any_at (by kernel_rfl) n
attribute [simp] Try.underlying72
@[simp] theorem sz72 : sizeT Try.prog 72 = 4 := by kernel_rfl
@[simp] theorem ag72 : isAggT Try.prog 72 = true := by kernel_rfl
@[simp] theorem in72 : (Try.prog.info? 72).isSome = true := by kernel_rfl
@[simp] theorem ze72 : zeroT Try.prog 72 = some [.int .i64 0, .int .i64 0, .int .i64 0, .str []] := by kernel_rfl
@[simp] theorem fi72 (m : Nat) : fits Try.prog 72 m = decide (m * 40 ≤ 140737488355328) := fits_at ze72 (by kernel_rfl) m
@[simp] theorem an72 (n : Int) : (Try.prog.info? 72).any (fun i => decide ((i.bytes : Int) * n ≤ 140737488355328)) = decide (40 * n ≤ 140737488355328) := any_at (by kernel_rfl) n
attribute [simp] Try.underlying73
@[simp] theorem sz73 : sizeT Try.prog 73 = 4 := by kernel_rfl
@[simp] theorem ag73 : isAggT Try.prog 73 = true := by kernel_rfl
@[simp] theorem in73 : (Try.prog.info? 73).isSome = true := by kernel_rfl
@[simp] theorem ze73 : zeroT Try.prog 73 = some [.int .i64 0, .int .i64 0, .int .i64 0, .str []] := by kernel_rfl
@[simp] theorem fi73 (m : Nat) : fits Try.prog 73 m = decide (m * 40 ≤ 140737488355328) := fits_at ze73 (by kernel_rfl) m
@[simp] theorem an73 (n : Int) : (Try.prog.info? 73).any (fun i => decide ((i.bytes : Int) * n ≤ 140737488355328)) = decide (40 * n ≤ 140737488355328) := any_at (by kernel_rfl) n
attribute [simp] Try.underlying74
@[simp] theorem sz74 : sizeT Try.prog 74 = 1 := by kernel_rfl
@[simp] theorem ag74 : isAggT Try.prog 74 = false := by kernel_rfl
@[simp] theorem in74 : (Try.prog.info? 74).isSome = true := by kernel_rfl
@[simp] theorem ze74 : zeroT Try.prog 74 = some [.raw .nilFunc] := by kernel_rfl
@[simp] theorem fi74 (m : Nat) : fits Try.prog 74 m = decide (m * 8 ≤ 140737488355328) := fits_at ze74 (by kernel_rfl) m
@[simp] theorem an74 (n : Int) : (Try.prog.info? 74).any (fun i => decide ((i.bytes : Int) * n ≤ 140737488355328)) = decide (8 * n ≤ 140737488355328) := any_at (by kernel_rfl) n
attribute [simp] Try.underlying75
@[simp] theorem sz75 : sizeT Try.prog 75 = 1 := by kernel_rfl
@[simp] theorem ag75 : isAggT Try.prog 75 = false := by kernel_rfl
@[simp] theorem in75 : (Try.prog.info? 75).isSome = true := by kernel_rfl
@[simp] theorem ze75 : zeroT Try.prog 75 = some [.raw .nilFunc] := by kernel_rfl
@[simp] theorem fi75 (m : Nat) : fits Try.prog 75 m = decide (m * 8 ≤ 140737488355328) := fits_at ze75 (by kernel_rfl) m
@[simp] theorem an75 (n : Int) : (Try.prog.info? 75).any (fun i => decide ((i.bytes : Int) * n ≤ 140737488355328)) = decide (8 * n ≤ 140737488355328) := any_at (by kernel_rfl) n
attribute [simp] Try.underlying76
@[simp] theorem sz76 : sizeT Try.prog 76 = 1 := by kernel_rfl
@[simp] theorem ag76 : isAggT Try.prog 76 = false := by kernel_rfl
@[simp] theorem in76 : (Try.prog.info? 76).isSome = true := by kernel_rfl
@[simp] theorem el76 : elemT Try.prog 76 = some 104 := by kernel_rfl
@[simp] theorem ze76 : zeroT Try.prog 76 = some [.sl (.mu 0) 0 []] := by kernel_rfl
@[simp] theorem fi76 (m : Nat) : fits Try.prog 76 m = decide (m * 24 ≤ 140737488355328) := fits_at ze76 (by kernel_rfl) m
@[simp] theorem an76 (n : Int) : (Try.prog.info? 76).any (fun i => decide ((i.bytes : Int) * n ≤ 140737488355328)) = decide (24 * n ≤ 140737488355328) := any_at (by kernel_rfl) n
attribute [simp] Try.underlying77
@[simp] theorem sz77 : sizeT Try.prog 77 = 5 := by kernel_rfl
@[simp] theorem ag77 : isAggT Try.prog 77 = true := by kernel_rfl
@[simp] theorem in77 : (Try.prog.info? 77).isSome = true := by kernel_rfl
@[simp] theorem ze77 : zeroT Try.prog 77 = some [.int .i64 0, .int .i64 0, .int .i64 0, .bool false, .str []] := by kernel_rfl
@[simp] theorem fi77 (m : Nat) : fits Try.prog 77 m = decide (m * 48 ≤ 140737488355328) := fits_at ze77 (by kernel_rfl) m
@[simp] theorem an77 (n : Int) : (Try.prog.info? 77).any (fun i => decide ((i.bytes : Int) * n ≤ 140737488355328)) = decide (48 * n ≤ 140737488355328) := any_at (by kernel_rfl) n
attribute [simp] Try.underlying78
@[simp] theorem sz78 : sizeT Try.prog 78 = 9 := by kernel_rfl
@[simp] theorem ag78 : isAggT Try.prog 78 = true := by kernel_rfl
@[simp] theorem in78 : (Try.prog.info? 78).isSome = true := by kernel_rfl
@[simp] theorem ze78 : zeroT Try.prog 78 = some [.sl (.mu 0) 0 [], .sl (.mu 0) 0 [], .bool false, .int .i64 0, .int .i64 0, .int .i64 0, .bool false, .str [], .int .i64 0] := by kernel_rfl
@[simp] theorem fi78 (m : Nat) : fits Try.prog 78 m = decide (m * 112 ≤ 140737488355328) := fits_at ze78 (by kernel_rfl) m
@[simp] theorem an78 (n : Int) : (Try.prog.info? 78).any (fun i => decide ((i.bytes : Int) * n ≤ 140737488355328)) = decide (112 * n ≤ 140737488355328) := any_at (by kernel_rfl) n
attribute [simp] Try.underlying79
@[simp] theorem sz79 : sizeT Try.prog 79 = 9 := by kernel_rfl
@[simp] theorem ag79 : isAggT Try.prog 79 = true := by kernel_rfl
@[simp] theorem in79 : (Try.prog.info? 79).isSome = true := by kernel_rfl
@[simp] theorem ze79 : zeroT Try.prog 79 = some [.sl (.mu 0) 0 [], .sl (.mu 0) 0 [], .bool false, .int .i64 0, .int .i64 0, .int .i64 0, .bool false, .str [], .int .i64 0] := by kernel_rfl
@[simp] theorem fi79 (m : Nat) : fits Try.prog 79 m = decide (m * 112 ≤ 140737488355328) := fits_at ze79 (by kernel_rfl) m
@[simp] theorem an79 (n : Int) : (Try.prog.info? 79).any (fun i => decide ((i.bytes : Int) * n ≤ 140737488355328)) = decide (112 * n ≤ 140737488355328) := any_at (by kernel_rfl) n
attribute [simp] Try.underlying80
@[simp] theorem sz80 : sizeT Try.prog 80 = 1 := by kernel_rfl
@[simp] theorem ag80 : isAggT Try.prog 80 = false := by kernel_rfl
@[simp] theorem in80 : (Try.prog.info? 80).isSome = true := by kernel_rfl
@[simp] theorem ze80 : zeroT Try.prog 80 = some [.raw .nilFunc] := by kernel_rfl
@[simp] theorem fi80 (m : Nat) : fits Try.prog 80 m = decide (m * 8 ≤ 140737488355328) := fits_at ze80 (by kernel_rfl) m
@[simp] theorem an80 (n : Int) : (Try.prog.info? 80).any (fun i => decide ((i.bytes : Int) * n ≤ 140737488355328)) = decide (8 * n ≤ 140737488355328) := any_at (by kernel_rfl) n
attribute [simp] Try.underlying81
@[simp] theorem sz81 : sizeT Try.prog 81 = 1 := by kernel_rfl
@[simp] theorem ag81 : isAggT Try.prog 81 = false := by kernel_rfl
@[simp] theorem in81 : (Try.prog.info? 81).isSome = true := by kernel_rfl
@[simp] theorem ze81 : zeroT Try.prog 81 = some [.raw .nilFunc] := by kernel_rfl
@[simp] theorem fi81 (m : Nat) : fits Try.prog 81 m = decide (m * 8 ≤ 140737488355328) := fits_at ze81 (by kernel_rfl) m
@[simp] theorem an81 (n : Int) : (Try.prog.info? 81).any (fun i => decide ((i.bytes : Int) * n ≤ 140737488355328)) = decide (8 * n ≤ 140737488355328) := any_at (by kernel_rfl) n
attribute [simp] Try.underlying82
@[simp] theorem sz82 : sizeT Try.prog 82 = 1 := by kernel_rfl
@[simp] theorem ag82 : isAggT Try.prog 82 = false := by kernel_rfl
@[simp] theorem in82 : (Try.prog.info? 82).isSome = true := by kernel_rfl
@[simp] theorem ze82 : zeroT Try.prog 82 = some [.raw .nilFunc] := by kernel_rfl
@[simp] theorem fi82 (m : Nat) : fits Try.prog 82 m = decide (m * 8 ≤ 140737488355328) := fits_at ze82 (by kernel_rfl) m
@[simp] theorem an82 (n : Int) : (Try.prog.info? 82).any (fun i => decide ((i.bytes : Int) * n ≤ 140737488355328)) = decide (8 * n ≤ 140737488355328) := any_at (by kernel_rfl) n
attribute [simp] Try.underlying83
@[simp] theorem sz83 : sizeT Try.prog 83 = 2 := by kernel_rfl
@[simp] theorem ag83 : isAggT Try.prog 83 = true := by kernel_rfl
@[simp] theorem in83 : (Try.prog.info? 83).isSome = true := by kernel_rfl
@[simp] theorem ze83 : zeroT Try.prog 83 = some [.int .i64 0, .int .i64 0] := by kernel_rfl
@[simp] theorem fi83 (m : Nat) : fits Try.prog 83 m = decide (m * 16 ≤ 140737488355328) := fits_at ze83 (by kernel_rfl) m
@[simp] theorem an83 (n : Int) : (Try.prog.info? 83).any (fun i => decide ((i.bytes : Int) * n ≤ 140737488355328)) = decide (16 * n ≤ 140737488355328) := any_at (by kernel_rfl) n
attribute [simp] Try.underlying84
@[simp] theorem sz84 : sizeT Try.prog 84 = 2 := by kernel_rfl
@[simp] theorem ag84 : isAggT Try.prog 84 = true := by kernel_rfl
@[simp] theorem in84 : (Try.prog.info? 84).isSome = true := by kernel_rfl
@[simp] theorem ze84 : zeroT Try.prog 84 = some [.int .i64 0, .int .i64 0] := by kernel_rfl
@[simp] theorem fi84 (m : Nat) : fits Try.prog 84 m = decide (m * 16 ≤ 140737488355328) := fits_at ze84 (by kernel_rfl) m
@[simp] theorem an84 (n : Int) : (Try.prog.info? 84).any (fun i => decide ((i.bytes : Int) * n ≤ 140737488355328)) = decide (16 * n ≤ 140737488355328) := any_at (by kernel_rfl) n
attribute [simp] Try.underlying85
@[simp] theorem sz85 : sizeT Try.prog 85 = 1 := by kernel_rfl
@[simp] theorem ag85 : isAggT Try.prog 85 = false := by kernel_rfl
@[simp] theorem in85 : (Try.prog.info? 85).isSome = true := by kernel_rfl
@[simp] theorem ze85 : zeroT Try.prog 85 = some [.raw .nilFunc] := by kernel_rfl
@[simp] theorem fi85 (m : Nat) : fits Try.prog 85 m = decide (m * 8 ≤ 140737488355328) := fits_at ze85 (by kernel_rfl) m
@[simp] theorem an85 (n : Int) : (Try.prog.info? 85).any (fun i => decide ((i.bytes : Int) * n ≤ 140737488355328)) = decide (8 * n ≤ 140737488355328) := any_at (by kernel_rfl) n
attribute [simp] Try.underlying86
@[simp] theorem sz86 : sizeT Try.prog 86 = 1 := by kernel_rfl
@[simp] theorem ag86 : isAggT Try.prog 86 = false := by kernel_rfl
@[simp] theorem in86 : (Try.prog.info? 86).isSome = true := by kernel_rfl
@[simp] theorem ze86 : zeroT Try.prog 86 = some [.raw .nilFunc] := by kernel_rfl
@[simp] theorem fi86 (m : Nat) : fits Try.prog 86 m = decide (m * 8 ≤ 140737488355328) := fits_at ze86 (by kernel_rfl) m
@[simp] theorem an86 (n : Int) : (Try.prog.info? 86).any (fun i => decide ((i.bytes : Int) * n ≤ 140737488355328)) = decide (8 * n ≤ 140737488355328) := any_at (by kernel_rfl) n
attribute [simp] Try.underlying87
@[simp] theorem sz87 : sizeT Try.prog 87 = 1 := by kernel_rfl
@[simp] theorem ag87 : isAggT Try.prog 87 = false := by kernel_rfl
@[simp] theorem in87 : (Try.prog.info? 87).isSome = true := by kernel_rfl
@[simp] theorem ze87 : zeroT Try.prog 87 = some [.raw .nilFunc] := by kernel_rfl
@[simp] theorem fi87 (m : Nat) : fits Try.prog 87 m = decide (m * 8 ≤ 140737488355328) := fits_at ze87 (by kernel_rfl) m
@[simp] theorem an87 (n : Int) : (Try.prog.info? 87).any (fun i => decide ((i.bytes : Int) * n ≤ 140737488355328)) = decide (8 * n ≤ 140737488355328) := any_at (by kernel_rfl) n
attribute [simp] Try.underlying88
@[simp] theorem sz88 : sizeT Try.prog 88 = 1 := by kernel_rfl
@[simp] theorem ag88 : isAggT Try.prog 88 = false := by kernel_rfl
@[simp] theorem in88 : (Try.prog.info? 88).isSome = true := by kernel_rfl
@[simp] theorem ze88 : zeroT Try.prog 88 = some [.raw .nilFunc] := by kernel_rfl
@[simp] theorem fi88 (m : Nat) : fits Try.prog 88 m = decide (m * 8 ≤ 140737488355328) := fits_at ze88 (by kernel_rfl) m
@[simp] theorem an88 (n : Int) : (Try.prog.info? 88).any (fun i => decide ((i.bytes : Int) * n ≤ 140737488355328)) = decide (8 * n ≤ 140737488355328) := any_at (by kernel_rfl) n
attribute [simp] Try.underlying89
@[simp] theorem sz89 : sizeT Try.prog 89 = 3 := by kernel_rfl
@[simp] theorem ag89 : isAggT Try.prog 89 = true := by kernel_rfl
@[simp] theorem in89 : (Try.prog.info? 89).isSome = true := by kernel_rfl
@[simp] theorem ze89 : zeroT Try.prog 89 = some [.int .i64 0, .int .i64 0, .int .i64 0] := by kernel_rfl
@[simp] theorem fi89 (m : Nat) : fits Try.prog 89 m = decide (m * 24 ≤ 140737488355328) := fits_at ze89 (by kernel_rfl) m
@[simp] theorem an89 (n : Int) : (Try.prog.info? 89).any (fun i => decide ((i.bytes : Int) * n ≤ 140737488355328)) = decide (24 * n ≤ 140737488355328) := any_at (by kernel_rfl) n
attribute [simp] Try.underlying90
@[simp] theorem sz90 : sizeT Try.prog 90 = 3 := by kernel_rfl
@[simp] theorem ag90 : isAggT Try.prog 90 = true := by kernel_rfl
@[simp] theorem in90 : (Try.prog.info? 90).isSome = true := by kernel_rfl
@[simp] theorem ze90 : zeroT Try.prog 90 = some [.int .i64 0, .int .i64 0, .int .i64 0] := by kernel_rfl
@[simp] theorem fi90 (m : Nat) : fits Try.prog 90 m = decide (m * 24 ≤ 140737488355328) := fits_at ze90 (by kernel_rfl) m
@[simp] theorem an90 (n : Int) : (Try.prog.info? 90).any (fun i => decide ((i.bytes : Int) * n ≤ 140737488355328)) = decide (24 * n ≤ 140737488355328) := any_at (by kernel_rfl) n
attribute [simp] Try.underlying91
@[simp] theorem sz91 : sizeT Try.prog 91 = 3 := by kernel_rfl
@[simp] theorem ag91 : isAggT Try.prog 91 = true := by kernel_rfl
@[simp] theorem in91 : (Try.prog.info? 91).isSome = true := by kernel_rfl
@[simp] theorem ze91 : zeroT Try.prog 91 = some [.int .i64 0, .int .i64 0, .int .i64 0] := by kernel_rfl
@[simp] theorem fi91 (m : Nat) : fits Try.prog 91 m = decide (m * 24 ≤ 140737488355328) := fits_at ze91 (by kernel_rfl) m
@[simp] theorem an91 (n : Int) : (Try.prog.info? 91).any (fun i => decide ((i.bytes : Int) * n ≤ 140737488355328)) = decide (24 * n ≤ 140737488355328) := any_at (by kernel_rfl) n
attribute [simp] Try.underlying92
@[simp] theorem sz92 : sizeT Try.prog 92 = 16 := by kernel_rfl
@[simp] theorem ag92 : isAggT Try.prog 92 = true := by kernel_rfl
@[simp] theorem in92 : (Try.prog.info? 92).isSome = true := by kernel_rfl
@[simp] theorem ze92 : zeroT Try.prog 92 = some [.int .u8 0, .int .u8 0, .int .u8 0, .int .u8 0, .int .u8 0, .int .u8 0, .int .u8 0, .int .u8 0, .int .u8 0, .int .u8 0, .int .u8 0, .int .u8 0, .int .u8 0, .int .u8 0, .int .u8 0, .int .u8 0] := by kernel_rfl
@[simp] theorem fi92 (m : Nat) : fits Try.prog 92 m = decide (m * 16 ≤ 140737488355328) := fits_at ze92 (by kernel_rfl) m
@[simp] theorem an92 (n : Int) : (Try.prog.info? 92).any (fun i => decide ((i.bytes : Int) * n ≤ 140737488355328)) = decide (16 * n ≤ 140737488355328) := any_at (by kernel_rfl) n
attribute [simp] Try.underlying93
@[simp] theorem sz93 : sizeT Try.prog 93 = 16 := by kernel_rfl
@[simp] theorem ag93 : isAggT Try.prog 93 = true := by kernel_rfl
@[simp] theorem in93 : (Try.prog.info? 93).isSome = true := by kernel_rfl
@[simp] theorem ze93 : zeroT Try.prog 93 = some [.int .u8 0, .int .u8 0, .int .u8 0, .int .u8 0, .int .u8 0, .int .u8 0, .int .u8 0, .int .u8 0, .int .u8 0, .int .u8 0, .int .u8 0, .int .u8 0, .int .u8 0, .int .u8 0, .int .u8 0, .int .u8 0] := by kernel_rfl
@[simp] theorem fi93 (m : Nat) : fits Try.prog 93 m = decide (m * 16 ≤ 140737488355328) := fits_at ze93 (by kernel_rfl) m
@[simp] theorem an93 (n : Int) : (Try.prog.info? 93).any (fun i => decide ((i.bytes : Int) * n ≤ 140737488355328)) = decide (16 * n ≤ 140737488355328) := any_at (by kernel_rfl) n
attribute [simp] Try.underlying94
@[simp] theorem sz94 : sizeT Try.prog 94 = 8192 := by kernel_rfl
@[simp] theorem ag94 : isAggT Try.prog 94 = true := by kernel_rfl
@[simp] theorem in94 : (Try.prog.info? 94).isSome = true := by kernel_rfl
def z94 : List PV := List.replicate 8192 (.int .u8 0)
set_option maxRecDepth 1000000 in
@[simp] theorem ze94 : zeroT Try.prog 94 = some z94 := by kernel_rfl
set_option maxRecDepth 1000000 in
@[simp] theorem zl94 : z94.length = 8192 := by kernel_rfl
set_option maxRecDepth 1000000 in
@[simp] theorem zs94 : z94.all storable = true := by kernel_rfl
@[simp] theorem fi94 (m : Nat) : fits Try.prog 94 m = decide (m * 8192 ≤ 140737488355328) := fits_at ze94 (by kernel_rfl) m
@[simp] theorem an94 (n : Int) : (Try.prog.info? 94).any (fun i => decide ((i.bytes : Int) * n ≤ 140737488355328)) = decide (8192 * n ≤ 140737488355328) := any_at (by kernel_rfl) n
attribute [simp] Try.underlying95
@[simp] theorem sz95 : sizeT Try.prog 95 = 1 := by kernel_rfl
@[simp] theorem ag95 : isAggT Try.prog 95 = false := by kernel_rfl
@[simp] theorem in95 : (Try.prog.info? 95).isSome = true := by kernel_rfl
@[simp] theorem ze95 : zeroT Try.prog 95 = some [.nilp] := by kernel_rfl
@[simp] theorem fi95 (m : Nat) : fits Try.prog 95 m = decide (m * 8 ≤ 140737488355328) := fits_at ze95 (by kernel_rfl) m
@[simp] theorem an95 (n : Int) : (Try.prog.info? 95).any (fun i => decide ((i.bytes : Int) * n ≤ 140737488355328)) = decide (8 * n ≤ 140737488355328) := any_at (by kernel_rfl) n
attribute [simp] Try.underlying96
@[simp] theorem sz96 : sizeT Try.prog 96 = 8196 := by kernel_rfl
@[simp] theorem ag96 : isAggT Try.prog 96 = true := by kernel_rfl
@[simp] theorem in96 : (Try.prog.info? 96).isSome = true := by kernel_rfl
def z96 : List PV := [.sl (.mu 0) 0 []] ++ List.replicate 8192 (.int .u8 0) ++ [.nilp, .int .i64 0, .sl (.mu 0) 0 []]
set_option maxRecDepth 1000000 in
@[simp] theorem ze96 : zeroT Try.prog 96 = some z96 := by kernel_rfl
set_option maxRecDepth 1000000 in
@[simp] theorem zl96 : z96.length = 8196 := by kernel_rfl
set_option maxRecDepth 1000000 in
@[simp] theorem zs96 : z96.all storable = true := by kernel_rfl
@[simp] theorem fi96 (m : Nat) : fits Try.prog 96 m = decide (m * 8256 ≤ 140737488355328) := fits_at ze96 (by kernel_rfl) m
@[simp] theorem an96 (n : Int) : (Try.prog.info? 96).any (fun i => decide ((i.bytes : Int) * n ≤ 140737488355328)) = decide (8256 * n ≤ 140737488355328) := any_at (by kernel_rfl) n
attribute [simp] Try.underlying97
@[simp] theorem sz97 : sizeT Try.prog 97 = 8196 := by kernel_rfl
@[simp] theorem ag97 : isAggT Try.prog 97 = true := by kernel_rfl
@[simp] theorem in97 : (Try.prog.info? 97).isSome = true := by kernel_rfl
def z97 : List PV := [.sl (.mu 0) 0 []] ++ List.replicate 8192 (.int .u8 0) ++ [.nilp, .int .i64 0, .sl (.mu 0) 0 []]
set_option maxRecDepth 1000000 in
@[simp] theorem ze97 : zeroT Try.prog 97 = some z97 := by kernel_rfl
set_option maxRecDepth 1000000 in
@[simp] theorem zl97 : z97.length = 8196 := by kernel_rfl
set_option maxRecDepth 1000000 in
@[simp] theorem zs97 : z97.all storable = true := by kernel_rfl
@[simp] theorem fi97 (m : Nat) : fits Try.prog 97 m = decide (m * 8256 ≤ 140737488355328) := fits_at ze97 (by kernel_rfl) m
@[simp] theorem an97 (n : Int) : (Try.prog.info? 97).any (fun i => decide ((i.bytes : Int) * n ≤ 140737488355328)) = decide (8256 * n ≤ 140737488355328) := any_at (by kernel_rfl) n
attribute [simp] Try.underlying98
@[simp] theorem sz98 : sizeT Try.prog 98 = 1 := by kernel_rfl
@[simp] theorem ag98 : isAggT Try.prog 98 = false := by kernel_rfl
@[simp] theorem in98 : (Try.prog.info? 98).isSome = true := by kernel_rfl
@[simp] theorem ze98 : zeroT Try.prog 98 = some [.raw .nilFunc] := by kernel_rfl
@[simp] theorem fi98 (m : Nat) : fits Try.prog 98 m = decide (m * 8 ≤ 140737488355328) := fits_at ze98 (by kernel_rfl) m
@[simp] theorem an98 (n : Int) : (Try.prog.info? 98).any (fun i => decide ((i.bytes : Int) * n ≤ 140737488355328)) = decide (8 * n ≤ 140737488355328) := any_at (by kernel_rfl) n
attribute [simp] Try.underlying100
@[simp] theorem sz100 : sizeT Try.prog 100 = 1 := by kernel_rfl
@[simp] theorem ag100 : isAggT Try.prog 100 = false := by kernel_rfl
@[simp] theorem in100 : (Try.prog.info? 100).isSome = true := by kernel_rfl
@[simp] theorem ze100 : zeroT Try.prog 100 = some [.raw .nilFunc] := by kernel_rfl
@[simp] theorem fi100 (m : Nat) : fits Try.prog 100 m = decide (m * 8 ≤ 140737488355328) := fits_at ze100 (by kernel_rfl) m
@[simp] theorem an100 (n : Int) : (Try.prog.info? 100).any (fun i => decide ((i.bytes : Int) * n ≤ 140737488355328)) = decide (8 * n ≤ 140737488355328) := any_at (by kernel_rfl) n
attribute [simp] Try.underlying101
@[simp] theorem sz101 : sizeT Try.prog 101 = 1 := by kernel_rfl
@[simp] theorem ag101 : isAggT Try.prog 101 = false := by kernel_rfl
@[simp] theorem in101 : (Try.prog.info? 101).isSome = true := by kernel_rfl
@[simp] theorem ze101 : zeroT Try.prog 101 = some [.raw .nilFunc] := by kernel_rfl
@[simp] theorem fi101 (m : Nat) : fits Try.prog 101 m = decide (m * 8 ≤ 140737488355328) := fits_at ze101 (by kernel_rfl) m
@[simp] theorem an101 (n : Int) : (Try.prog.info? 101).any (fun i => decide ((i.bytes : Int) * n ≤ 140737488355328)) = decide (8 * n ≤ 140737488355328) := any_at (by kernel_rfl) n
attribute [simp] Try.underlying103
@[simp] theorem sz103 : sizeT Try.prog 103 = 1 := by kernel_rfl
@[simp] theorem ag103 : isAggT Try.prog 103 = false := by kernel_rfl
@[simp] theorem in103 : (Try.prog.info? 103).isSome = true := by kernel_rfl
@[simp] theorem ze103 : zeroT Try.prog 103 = some [.raw .nilFunc] := by kernel_rfl
@[simp] theorem fi103 (m : Nat) : fits Try.prog 103 m = decide (m * 8 ≤ 140737488355328) := fits_at ze103 (by kernel_rfl) m
@[simp] theorem an103 (n : Int) : (Try.prog.info? 103).any (fun i => decide ((i.bytes : Int) * n ≤ 140737488355328)) = decide (8 * n ≤ 140737488355328) := any_at (by kernel_rfl) n
attribute [simp] Try.underlying104
@[simp] theorem sz104 : sizeT Try.prog 104 = 1 := by kernel_rfl
@[simp] theorem ag104 : isAggT Try.prog 104 = false := by kernel_rfl
@[simp] theorem in104 : (Try.prog.info? 104).isSome = true := by kernel_rfl
@[simp] theorem el104 : elemT Try.prog 104 = some 5 := by kernel_rfl
@[simp] theorem ze104 : zeroT Try.prog 104 = some [.sl (.mu 0) 0 []] := by kernel_rfl
@[simp] theorem fi104 (m : Nat) : fits Try.prog 104 m = decide (m * 24 ≤ 140737488355328) := fits_at ze104 (by kernel_rfl) m
@[simp] theorem an104 (n : Int) : (Try.prog.info? 104).any (fun i => decide ((i.bytes : Int) * n ≤ 140737488355328)) = decide (24 * n ≤ 140737488355328) := any_at (by kernel_rfl) n
attribute [simp] Try.underlying105
@[simp] theorem sz105 : sizeT Try.prog 105 = 1 := by kernel_rfl
@[simp] theorem ag105 : isAggT Try.prog 105 = false := by kernel_rfl
@[simp] theorem in105 : (Try.prog.info? 105).isSome = true := by kernel_rfl
@[simp] theorem ze105 : zeroT Try.prog 105 = some [.raw .nilFunc] := by kernel_rfl
@[simp] theorem fi105 (m : Nat) : fits Try.prog 105 m = decide (m * 8 ≤ 140737488355328) := fits_at ze105 (by kernel_rfl) m
@[simp] theorem an105 (n : Int) : (Try.prog.info? 105).any (fun i => decide ((i.bytes : Int) * n ≤ 140737488355328)) = decide (8 * n ≤ 140737488355328) := any_at (by kernel_rfl) n
attribute [simp] Try.underlying106
@[simp] theorem sz106 : sizeT Try.prog 106 = 1 := by kernel_rfl
@[simp] theorem ag106 : isAggT Try.prog 106 = false := by kernel_rfl
@[simp] theorem in106 : (Try.prog.info? 106).isSome = true := by kernel_rfl
@[simp] theorem ze106 : zeroT Try.prog 106 = some [.raw .nilFunc] := by kernel_rfl
@[simp] theorem fi106 (m : Nat) : fits Try.prog 106 m = decide (m * 8 ≤ 140737488355328) := fits_at ze106 (by kernel_rfl) m
@[simp] theorem an106 (n : Int) : (Try.prog.info? 106).any (fun i => decide ((i.bytes : Int) * n ≤ 140737488355328)) = decide (8 * n ≤ 140737488355328) := any_at (by kernel_rfl) n
attribute [simp] Try.underlying107
@[simp] theorem sz107 : sizeT Try.prog 107 = 1 := by kernel_rfl
@[simp] theorem ag107 : isAggT Try.prog 107 = false := by kernel_rfl
@[simp] theorem in107 : (Try.prog.info? 107).isSome = true := by kernel_rfl
@[simp] theorem ze107 : zeroT Try.prog 107 = some [.raw .nilFunc] := by kernel_rfl
@[simp] theorem fi107 (m : Nat) : fits Try.prog 107 m = decide (m * 8 ≤ 140737488355328) := fits_at ze107 (by kernel_rfl) m
@[simp] theorem an107 (n : Int) : (Try.prog.info? 107).any (fun i => decide ((i.bytes : Int) * n ≤ 140737488355328)) = decide (8 * n ≤ 140737488355328) := any_at (by kernel_rfl) n
attribute [simp] Try.underlying108
@[simp] theorem sz108 : sizeT Try.prog 108 = 1 := by kernel_rfl
@[simp] theorem ag108 : isAggT Try.prog 108 = false := by kernel_rfl
@[simp] theorem in108 : (Try.prog.info? 108).isSome = true := by kernel_rfl
@[simp] theorem ze108 : zeroT Try.prog 108 = some [.raw .nilFunc] := by kernel_rfl
@[simp] theorem fi108 (m : Nat) : fits Try.prog 108 m = decide (m * 8 ≤ 140737488355328) := fits_at ze108 (by kernel_rfl) m
@[simp] theorem an108 (n : Int) : (Try.prog.info? 108).any (fun i => decide ((i.bytes : Int) * n ≤ 140737488355328)) = decide (8 * n ≤ 140737488355328) := any_at (by kernel_rfl) n
attribute [simp] Try.underlying109
@[simp] theorem sz109 : sizeT Try.prog 109 = 1 := by kernel_rfl
@[simp] theorem ag109 : isAggT Try.prog 109 = false := by kernel_rfl
@[simp] theorem in109 : (Try.prog.info? 109).isSome = true := by kernel_rfl
@[simp] theorem ze109 : zeroT Try.prog 109 = some [.raw .nilFunc] := by kernel_rfl
@[simp] theorem fi109 (m : Nat) : fits Try.prog 109 m = decide (m * 8 ≤ 140737488355328) := fits_at ze109 (by kernel_rfl) m
@[simp] theorem an109 (n : Int) : (Try.prog.info? 109).any (fun i => decide ((i.bytes : Int) * n ≤ 140737488355328)) = decide (8 * n ≤ 140737488355328) := any_at (by kernel_rfl) n
attribute [simp] Try.underlying110
@[simp] theorem sz110 : sizeT Try.prog 110 = 1 := by kernel_rfl
@[simp] theorem ag110 : isAggT Try.prog 110 = false := by kernel_rfl
@[simp] theorem in110 : (Try.prog.info? 110).isSome = true := by kernel_rfl
@[simp] theorem ze110 : zeroT Try.prog 110 = some [.nilp] := by kernel_rfl
@[simp] theorem fi110 (m : Nat) : fits Try.prog 110 m = decide (m * 8 ≤ 140737488355328) := fits_at ze110 (by kernel_rfl) m
@[simp] theorem an110 (n : Int) : (Try.prog.info? 110).any (fun i => decide ((i.bytes : Int) * n ≤ 140737488355328)) = decide (8 * n ≤ 140737488355328) := any_at (by kernel_rfl) n
attribute [simp] Try.underlying111
@[simp] theorem sz111 : sizeT Try.prog 111 = 1 := by kernel_rfl
@[simp] theorem ag111 : isAggT Try.prog 111 = false := by kernel_rfl
@[simp] theorem in111 : (Try.prog.info? 111).isSome = true := by kernel_rfl
@[simp] theorem ze111 : zeroT Try.prog 111 = some [.raw .nilFunc] := by kernel_rfl
@[simp] theorem fi111 (m : Nat) : fits Try.prog 111 m = decide (m * 8 ≤ 140737488355328) := fits_at ze111 (by kernel_rfl) m
@[simp] theorem an111 (n : Int) : (Try.prog.info? 111).any (fun i => decide ((i.bytes : Int) * n ≤ 140737488355328)) = decide (8 * n ≤ 140737488355328) := any_at (by kernel_rfl) n
attribute [simp] Try.underlying112
@[simp] theorem sz112 : sizeT Try.prog 112 = 1 := by kernel_rfl
@[simp] theorem ag112 : isAggT Try.prog 112 = false := by kernel_rfl
@[simp] theorem in112 : (Try.prog.info? 112).isSome = true := by kernel_rfl
@[simp] theorem ze112 : zeroT Try.prog 112 = some [.raw .nilFunc] := by kernel_rfl
@[simp] theorem fi112 (m : Nat) : fits Try.prog 112 m = decide (m * 8 ≤ 140737488355328) := fits_at ze112 (by kernel_rfl) m
@[simp] theorem an112 (n : Int) : (Try.prog.info? 112).any (fun i => decide ((i.bytes : Int) * n ≤ 140737488355328)) = decide (8 * n ≤ 140737488355328) := any_at (by kernel_rfl) n
attribute [simp] Try.underlying113
@[simp] theorem sz113 : sizeT Try.prog 113 = 1 := by kernel_rfl
@[simp] theorem ag113 : isAggT Try.prog 113 = false := by kernel_rfl
@[simp] theorem in113 : (Try.prog.info? 113).isSome = true := by kernel_rfl
@[simp] theorem ze113 : zeroT Try.prog 113 = some [.raw .nilFunc] := by kernel_rfl
@[simp] theorem fi113 (m : Nat) : fits Try.prog 113 m = decide (m * 8 ≤ 140737488355328) := fits_at ze113 (by kernel_rfl) m
@[simp] theorem an113 (n : Int) : (Try.prog.info? 113).any (fun i => decide ((i.bytes : Int) * n ≤ 140737488355328)) = decide (8 * n ≤ 140737488355328) := any_at (by kernel_rfl) n
attribute [simp] Try.underlying114
@[simp] theorem sz114 : sizeT Try.prog 114 = 1 := by kernel_rfl
@[simp] theorem ag114 : isAggT Try.prog 114 = false := by kernel_rfl
@[simp] theorem in114 : (Try.prog.info? 114).isSome = true := by kernel_rfl
@[simp] theorem ze114 : zeroT Try.prog 114 = some [.raw .nilFunc] := by kernel_rfl
@[simp] theorem fi114 (m : Nat) : fits Try.prog 114 m = decide (m * 8 ≤ 140737488355328) := fits_at ze114 (by kernel_rfl) m
@[simp] theorem an114 (n : Int) : (Try.prog.info? 114).any (fun i => decide ((i.bytes : Int) * n ≤ 140737488355328)) = decide (8 * n ≤ 140737488355328) := any_at (by kernel_rfl) n
attribute [simp] Try.underlying115
@[simp] theorem sz115 : sizeT Try.prog 115 = 1 := by kernel_rfl
@[simp] theorem ag115 : isAggT Try.prog 115 = false := by kernel_rfl
@[simp] theorem in115 : (Try.prog.info? 115).isSome = true := by kernel_rfl
@[simp] theorem ze115 : zeroT Try.prog 115 = some [.raw .nilFunc] := by kernel_rfl
@[simp] theorem fi115 (m : Nat) : fits Try.prog 115 m = decide (m * 8 ≤ 140737488355328) := fits_at ze115 (by kernel_rfl) m
@[simp] theorem an115 (n : Int) : (Try.prog.info? 115).any (fun i => decide ((i.bytes : Int) * n ≤ 140737488355328)) = decide (8 * n ≤ 140737488355328) := any_at (by kernel_rfl) n
attribute [simp] Try.underlying116
@[simp] theorem sz116 : sizeT Try.prog 116 = 1 := by kernel_rfl
@[simp] theorem ag116 : isAggT Try.prog 116 = false := by kernel_rfl
@[simp] theorem in116 : (Try.prog.info? 116).isSome = true := by kernel_rfl
@[simp] theorem ze116 : zeroT Try.prog 116 = some [.raw .nilFunc] := by kernel_rfl
@[simp] theorem fi116 (m : Nat) : fits Try.prog 116 m = decide (m * 8 ≤ 140737488355328) := fits_at ze116 (by kernel_rfl) m
@[simp] theorem an116 (n : Int) : (Try.prog.info? 116).any (fun i => decide ((i.bytes : Int) * n ≤ 140737488355328)) = decide (8 * n ≤ 140737488355328) := any_at (by kernel_rfl) n
attribute [simp] Try.underlying117
@[simp] theorem sz117 : sizeT Try.prog 117 = 1 := by kernel_rfl
@[simp] theorem ag117 : isAggT Try.prog 117 = false := by kernel_rfl
@[simp] theorem in117 : (Try.prog.info? 117).isSome = true := by kernel_rfl
@[simp] theorem ze117 : zeroT Try.prog 117 = some [.raw .nilFunc] := by kernel_rfl
@[simp] theorem fi117 (m : Nat) : fits Try.prog 117 m = decide (m * 8 ≤ 140737488355328) := fits_at ze117 (by kernel_rfl) m
@[simp] theorem an117 (n : Int) : (Try.prog.info? 117).any (fun i => decide ((i.bytes : Int) * n ≤ 140737488355328)) = decide (8 * n ≤ 140737488355328) := any_at (by kernel_rfl) n
attribute [simp] Try.underlying118
@[simp] theorem sz118 : sizeT Try.prog 118 = 1 := by kernel_rfl
@[simp] theorem ag118 : isAggT Try.prog 118 = false := by kernel_rfl
@[simp] theorem in118 : (Try.prog.info? 118).isSome = true := by kernel_rfl
@[simp] theorem ze118 : zeroT Try.prog 118 = some [.raw .nilFunc] := by kernel_rfl
@[simp] theorem fi118 (m : Nat) : fits Try.prog 118 m = decide (m * 8 ≤ 140737488355328) := fits_at ze118 (by kernel_rfl) m
@[simp] theorem an118 (n : Int) : (Try.prog.info? 118).any (fun i => decide ((i.bytes : Int) * n ≤ 140737488355328)) = decide (8 * n ≤ 140737488355328) := any_at (by kernel_rfl) n
attribute [simp] Try.underlying119
@[simp] theorem sz119 : sizeT Try.prog 119 = 1 := by kernel_rfl
@[simp] theorem ag119 : isAggT Try.prog 119 = false := by kernel_rfl
@[simp] theorem in119 : (Try.prog.info? 119).isSome = true := by kernel_rfl
@[simp] theorem ze119 : zeroT Try.prog 119 = some [.raw .nilFunc] := by kernel_rfl
@[simp] theorem fi119 (m : Nat) : fits Try.prog 119 m = decide (m * 8 ≤ 140737488355328) := fits_at ze119 (by kernel_rfl) m
@[simp] theorem an119 (n : Int) : (Try.prog.info? 119).any (fun i => decide ((i.bytes : Int) * n ≤ 140737488355328)) = decide (8 * n ≤ 140737488355328) := any_at (by kernel_rfl) n
attribute [simp] Try.underlying120
@[simp] theorem sz120 : sizeT Try.prog 120 = 1 := by kernel_rfl
@[simp] theorem ag120 : isAggT Try.prog 120 = false := by kernel_rfl
@[simp] theorem in120 : (Try.prog.info? 120).isSome = true := by kernel_rfl
@[simp] theorem ze120 : zeroT Try.prog 120 = some [.raw .nilFunc] := by kernel_rfl
@[simp] theorem fi120 (m : Nat) : fits Try.prog 120 m = decide (m * 8 ≤ 140737488355328) := fits_at ze120 (by kernel_rfl) m
@[simp] theorem an120 (n : Int) : (Try.prog.info? 120).any (fun i => decide ((i.bytes : Int) * n ≤ 140737488355328)) = decide (8 * n ≤ 140737488355328) := any_at (by kernel_rfl) n
attribute [simp] Try.underlying121
@[simp] theorem sz121 : sizeT Try.prog 121 = 1 := by kernel_rfl
@[simp] theorem ag121 : isAggT Try.prog 121 = false := by kernel_rfl
@[simp] theorem in121 : (Try.prog.info? 121).isSome = true := by kernel_rfl
@[simp] theorem ze121 : zeroT Try.prog 121 = some [.raw .nilFunc] := by kernel_rfl
@[simp] theorem fi121 (m : Nat) : fits Try.prog 121 m = decide (m * 8 ≤ 140737488355328) := fits_at ze121 (by kernel_rfl) m
@[simp] theorem an121 (n : Int) : (Try.prog.info? 121).any (fun i => decide ((i.bytes : Int) * n ≤ 140737488355328)) = decide (8 * n ≤ 140737488355328) := any_at (by kernel_rfl) n
attribute [simp] Try.underlying122
@[simp] theorem sz122 : sizeT Try.prog 122 = 1 := by kernel_rfl
@[simp] theorem ag122 : isAggT Try.prog 122 = false := by kernel_rfl
@[simp] theorem in122 : (Try.prog.info? 122).isSome = true := by kernel_rfl
@[simp] theorem ze122 : zeroT Try.prog 122 = some [.raw .nilFunc] := by kernel_rfl
@[simp] theorem fi122 (m : Nat) : fits Try.prog 122 m = decide (m * 8 ≤ 140737488355328) := fits_at ze122 (by kernel_rfl) m
@[simp] theorem an122 (n : Int) : (Try.prog.info? 122).any (fun i => decide ((i.bytes : Int) * n ≤ 140737488355328)) = decide (8 * n ≤ 140737488355328) := any_at (by kernel_rfl) n
attribute [simp] Try.underlying123
@[simp] theorem sz123 : sizeT Try.prog 123 = 1 := by kernel_rfl
@[simp] theorem ag123 : isAggT Try.prog 123 = false := by kernel_rfl
@[simp] theorem in123 : (Try.prog.info? 123).isSome = true := by kernel_rfl
@[simp] theorem ze123 : zeroT Try.prog 123 = some [.raw .nilFunc] := by kernel_rfl
@[simp] theorem fi123 (m : Nat) : fits Try.prog 123 m = decide (m * 8 ≤ 140737488355328) := fits_at ze123 (by kernel_rfl) m
@[simp] theorem an123 (n : Int) : (Try.prog.info? 123).any (fun i => decide ((i.bytes : Int) * n ≤ 140737488355328)) = decide (8 * n ≤ 140737488355328) := any_at (by kernel_rfl) n
attribute [simp] Try.underlying124
@[simp] theorem sz124 : sizeT Try.prog 124 = 1 := by kernel_rfl
@[simp] theorem ag124 : isAggT Try.prog 124 = false := by kernel_rfl
@[simp] theorem in124 : (Try.prog.info? 124).isSome = true := by kernel_rfl
@[simp] theorem ze124 : zeroT Try.prog 124 = some [.raw .nilFunc] := by kernel_rfl
@[simp] theorem fi124 (m : Nat) : fits Try.prog 124 m = decide (m * 8 ≤ 140737488355328) := fits_at ze124 (by kernel_rfl) m
@[simp] theorem an124 (n : Int) : (Try.prog.info? 124).any (fun i => decide ((i.bytes : Int) * n ≤ 140737488355328)) = decide (8 * n ≤ 140737488355328) := any_at (by kernel_rfl) n
attribute [simp] Try.underlying125
@[simp] theorem sz125 : sizeT Try.prog 125 = 1 := by kernel_rfl
@[simp] theorem ag125 : isAggT Try.prog 125 = false := by kernel_rfl
@[simp] theorem in125 : (Try.prog.info? 125).isSome = true := by kernel_rfl
@[simp] theorem ze125 : zeroT Try.prog 125 = some [.raw .nilFunc] := by kernel_rfl
@[simp] theorem fi125 (m : Nat) : fits Try.prog 125 m = decide (m * 8 ≤ 140737488355328) := fits_at ze125 (by kernel_rfl) m
@[simp] theorem an125 (n : Int) : (Try.prog.info? 125).any (fun i => decide ((i.bytes : Int) * n ≤ 140737488355328)) = decide (8 * n ≤ 140737488355328) := any_at (by kernel_rfl) n
attribute [simp] Try.underlying126
@[simp] theorem sz126 : sizeT Try.prog 126 = 1 := by kernel_rfl
@[simp] theorem ag126 : isAggT Try.prog 126 = false := by kernel_rfl
@[simp] theorem in126 : (Try.prog.info? 126).isSome = true := by kernel_rfl
@[simp] theorem ze126 : zeroT Try.prog 126 = some [.raw .nilFunc] := by kernel_rfl
@[simp] theorem fi126 (m : Nat) : fits Try.prog 126 m = decide (m * 8 ≤ 140737488355328) := fits_at ze126 (by kernel_rfl) m
@[simp] theorem an126 (n : Int) : (Try.prog.info? 126).any (fun i => decide ((i.bytes : Int) * n ≤ 140737488355328)) = decide (8 * n ≤ 140737488355328) := any_at (by kernel_rfl) n
attribute [simp] Try.underlying127
@[simp] theorem sz127 : sizeT Try.prog 127 = 1 := by kernel_rfl
@[simp] theorem ag127 : isAggT Try.prog 127 = false := by kernel_rfl
@[simp] theorem in127 : (Try.prog.info? 127).isSome = true := by kernel_rfl
@[simp] theorem ze127 : zeroT Try.prog 127 = some [.raw .nilFunc] := by kernel_rfl
@[simp] theorem fi127 (m : Nat) : fits Try.prog 127 m = decide (m * 8 ≤ 140737488355328) := fits_at ze127 (by kernel_rfl) m
@[simp] theorem an127 (n : Int) : (Try.prog.info? 127).any (fun i => decide ((i.bytes : Int) * n ≤ 140737488355328)) = decide (8 * n ≤ 140737488355328) := any_at (by kernel_rfl) n
attribute [simp] Try.underlying128
@[simp] theorem sz128 : sizeT Try.prog 128 = 1 := by kernel_rfl
@[simp] theorem ag128 : isAggT Try.prog 128 = false := by kernel_rfl
@[simp] theorem in128 : (Try.prog.info? 128).isSome = true := by kernel_rfl
@[simp] theorem ze128 : zeroT Try.prog 128 = some [.raw .nilFunc] := by kernel_rfl
@[simp] theorem fi128 (m : Nat) : fits Try.prog 128 m = decide (m * 8 ≤ 140737488355328) := fits_at ze128 (by kernel_rfl) m
@[simp] theorem an128 (n : Int) : (Try.prog.info? 128).any (fun i => decide ((i.bytes : Int) * n ≤ 140737488355328)) = decide (8 * n ≤ 140737488355328) := any_at (by kernel_rfl) n
attribute [simp] Try.underlying129
@[simp] theorem sz129 : sizeT Try.prog 129 = 1 := by kernel_rfl
@[simp] theorem ag129 : isAggT Try.prog 129 = false := by kernel_rfl
@[simp] theorem in129 : (Try.prog.info? 129).isSome = true := by kernel_rfl
@[simp] theorem ze129 : zeroT Try.prog 129 = some [.raw .nilFunc] := by kernel_rfl
@[simp] theorem fi129 (m : Nat) : fits Try.prog 129 m = decide (m * 8 ≤ 140737488355328) := fits_at ze129 (by kernel_rfl) m
@[simp] theorem an129 (n : Int) : (Try.prog.info? 129).any (fun i => decide ((i.bytes : Int) * n ≤ 140737488355328)) = decide (8 * n ≤ 140737488355328) := any_at (by kernel_rfl) n
attribute [simp] Try.underlying130
@[simp] theorem sz130 : sizeT Try.prog 130 = 1 := by kernel_rfl
@[simp] theorem ag130 : isAggT Try.prog 130 = false := by kernel_rfl
@[simp] theorem in130 : (Try.prog.info? 130).isSome = true := by kernel_rfl
@[simp] theorem ze130 : zeroT Try.prog 130 = some [.raw .nilFunc] := by kernel_rfl
@[simp] theorem fi130 (m : Nat) : fits Try.prog 130 m = decide (m * 8 ≤ 140737488355328) := fits_at ze130 (by kernel_rfl) m
@[simp] theorem an130 (n : Int) : (Try.prog.info? 130).any (fun i => decide ((i.bytes : Int) * n ≤ 140737488355328)) = decide (8 * n ≤ 140737488355328) := any_at (by kernel_rfl) n
attribute [simp] Try.underlying131
@[simp] theorem sz131 : sizeT Try.prog 131 = 1 := by kernel_rfl
@[simp] theorem ag131 : isAggT Try.prog 131 = false := by kernel_rfl
@[simp] theorem in131 : (Try.prog.info? 131).isSome = true := by kernel_rfl
@[simp] theorem ze131 : zeroT Try.prog 131 = some [.raw .nilFunc] := by kernel_rfl
@[simp] theorem fi131 (m : Nat) : fits Try.prog 131 m = decide (m * 8 ≤ 140737488355328) := fits_at ze131 (by kernel_rfl) m
@[simp] theorem an131 (n : Int) : (Try.prog.info? 131).any (fun i => decide ((i.bytes : Int) * n ≤ 140737488355328)) = decide (8 * n ≤ 140737488355328) := any_at (by kernel_rfl) n
attribute [simp] Try.underlying132
@[simp] theorem sz132 : sizeT Try.prog 132 = 1 := by kernel_rfl
@[simp] theorem ag132 : isAggT Try.prog 132 = false := by kernel_rfl
@[simp] theorem in132 : (Try.prog.info? 132).isSome = true := by kernel_rfl
@[simp] theorem ze132 : zeroT Try.prog 132 = some [.raw .nilFunc] := by kernel_rfl
@[simp] theorem fi132 (m : Nat) : fits Try.prog 132 m = decide (m * 8 ≤ 140737488355328) := fits_at ze132 (by kernel_rfl) m
@[simp] theorem an132 (n : Int) : (Try.prog.info? 132).any (fun i => decide ((i.bytes : Int) * n ≤ 140737488355328)) = decide (8 * n ≤ 140737488355328) := any_at (by kernel_rfl) n
attribute [simp] Try.underlying133
@[simp] theorem sz133 : sizeT Try.prog 133 = 1 := by kernel_rfl
@[simp] theorem ag133 : isAggT Try.prog 133 = false := by kernel_rfl
@[simp] theorem in133 : (Try.prog.info? 133).isSome = true := by kernel_rfl
@[simp] theorem ze133 : zeroT Try.prog 133 = some [.raw .nilFunc] := by kernel_rfl
@[simp] theorem fi133 (m : Nat) : fits Try.prog 133 m = decide (m * 8 ≤ 140737488355328) := fits_at ze133 (by kernel_rfl) m
@[simp] theorem an133 (n : Int) : (Try.prog.info? 133).any (fun i => decide ((i.bytes : Int) * n ≤ 140737488355328)) = decide (8 * n ≤ 140737488355328) := any_at (by kernel_rfl) n
attribute [simp] Try.underlying134
@[simp] theorem sz134 : sizeT Try.prog 134 = 1 := by kernel_rfl
@[simp] theorem ag134 : isAggT Try.prog 134 = false := by kernel_rfl
@[simp] theorem in134 : (Try.prog.info? 134).isSome = true := by kernel_rfl
@[simp] theorem ze134 : zeroT Try.prog 134 = some [.raw .nilFunc] := by kernel_rfl
@[simp] theorem fi134 (m : Nat) : fits Try.prog 134 m = decide (m * 8 ≤ 140737488355328) := fits_at ze134 (by kernel_rfl) m
@[simp] theorem an134 (n : Int) : (Try.prog.info? 134).any (fun i => decide ((i.bytes : Int) * n ≤ 140737488355328)) = decide (8 * n ≤ 140737488355328) := any_at (by kernel_rfl) n
attribute [simp] Try.underlying135
@[simp] theorem sz135 : sizeT Try.prog 135 = 4 := by kernel_rfl
@[simp] theorem ag135 : isAggT Try.prog 135 = true := by kernel_rfl
@[simp] theorem in135 : (Try.prog.info? 135).isSome = true := by kernel_rfl
@[simp] theorem ze135 : zeroT Try.prog 135 = some [.nilp, .nilp, .nilp, .str []] := by kernel_rfl
@[simp] theorem fi135 (m : Nat) : fits Try.prog 135 m = decide (m * 40 ≤ 140737488355328) := fits_at ze135 (by kernel_rfl) m
@[simp] theorem an135 (n : Int) : (Try.prog.info? 135).any (fun i => decide ((i.bytes : Int) * n ≤ 140737488355328)) = decide (40 * n ≤ 140737488355328) := any_at (by kernel_rfl) n
attribute [simp] Try.underlying136
@[simp] theorem sz136 : sizeT Try.prog 136 = 4 := by kernel_rfl
@[simp] theorem ag136 : isAggT Try.prog 136 = true := by kernel_rfl
@[simp] theorem in136 : (Try.prog.info? 136).isSome = true := by kernel_rfl
@[simp] theorem ze136 : zeroT Try.prog 136 = some [.nilp, .nilp, .nilp, .str []] := by kernel_rfl
@[simp] theorem fi136 (m : Nat) : fits Try.prog 136 m = decide (m * 40 ≤ 140737488355328) := fits_at ze136 (by kernel_rfl) m
@[simp] theorem an136 (n : Int) : (Try.prog.info? 136).any (fun i => decide ((i.bytes : Int) * n ≤ 140737488355328)) = decide (40 * n ≤ 140737488355328) := any_at (by kernel_rfl) n
attribute [simp] Try.underlying137
@[simp] theorem sz137 : sizeT Try.prog 137 = 0 := by kernel_rfl
@[simp] theorem ag137 : isAggT Try.prog 137 = true := by kernel_rfl
@[simp] theorem in137 : (Try.prog.info? 137).isSome = true := by kernel_rfl
@[simp] theorem ze137 : zeroT Try.prog 137 = some [] := by kernel_rfl
attribute [simp] Try.underlying138
@[simp] theorem sz138 : sizeT Try.prog 138 = 0 := by kernel_rfl
@[simp] theorem ag138 : isAggT Try.prog 138 = true := by kernel_rfl
@[simp] theorem in138 : (Try.prog.info? 138).isSome = true := by kernel_rfl
@[simp] theorem ze138 : zeroT Try.prog 138 = some [] := by kernel_rfl
attribute [simp] Try.underlying139
@[simp] theorem sz139 : sizeT Try.prog 139 = 0 := by kernel_rfl
@[simp] theorem ag139 : isAggT Try.prog 139 = true := by kernel_rfl
@[simp] theorem in139 : (Try.prog.info? 139).isSome = true := by kernel_rfl
@[simp] theorem ze139 : zeroT Try.prog 139 = some [] := by kernel_rfl
attribute [simp] Try.underlying140
@[simp] theorem sz140 : sizeT Try.prog 140 = 1 := by kernel_rfl
@[simp] theorem ag140 : isAggT Try.prog 140 = false := by kernel_rfl
@[simp] theorem in140 : (Try.prog.info? 140).isSome = true := by kernel_rfl
@[simp] theorem ze140 : zeroT Try.prog 140 = some [.raw .nilFunc] := by kernel_rfl
@[simp] theorem fi140 (m : Nat) : fits Try.prog 140 m = decide (m * 8 ≤ 140737488355328) := fits_at ze140 (by kernel_rfl) m
@[simp] theorem an140 (n : Int) : (Try.prog.info? 140).any (fun i => decide ((i.bytes : Int) * n ≤ 140737488355328)) = decide (8 * n ≤ 140737488355328) := any_at (by kernel_rfl) n
attribute [simp] Try.underlying141
@[simp] theorem sz141 : sizeT Try.prog 141 = 1 := by kernel_rfl
@[simp] theorem ag141 : isAggT Try.prog 141 = false := by kernel_rfl
@[simp] theorem in141 : (Try.prog.info? 141).isSome = true := by kernel_rfl
@[simp] theorem ze141 : zeroT Try.prog 141 = some [.int .u32 0] := by kernel_rfl
@[simp] theorem fi141 (m : Nat) : fits Try.prog 141 m = decide (m * 4 ≤ 140737488355328) := fits_at ze141 (by kernel_rfl) m
@[simp] theorem an141 (n : Int) : (Try.prog.info? 141).any (fun i => decide ((i.bytes : Int) * n ≤ 140737488355328)) = decide (4 * n ≤ 140737488355328) := any_at (by kernel_rfl) n
attribute [simp] Try.underlying142
@[simp] theorem sz142 : sizeT Try.prog 142 = 1 := by kernel_rfl
@[simp] theorem ag142 : isAggT Try.prog 142 = false := by kernel_rfl
@[simp] theorem in142 : (Try.prog.info? 142).isSome = true := by kernel_rfl
@[simp] theorem ze142 : zeroT Try.prog 142 = some [.int .u8 0] := by kernel_rfl
@[simp] theorem fi142 (m : Nat) : fits Try.prog 142 m = decide (m * 1 ≤ 140737488355328) := fits_at ze142 (by kernel_rfl) m
@[simp] theorem an142 (n : Int) : (Try.prog.info? 142).any (fun i => decide ((i.bytes : Int) * n ≤ 140737488355328)) = decide (1 * n ≤ 140737488355328) := any_at (by kernel_rfl) n
attribute [simp] Try.underlying143
@[simp] theorem sz143 : sizeT Try.prog 143 = 1 := by kernel_rfl
@[simp] theorem ag143 : isAggT Try.prog 143 = false := by kernel_rfl
@[simp] theorem in143 : (Try.prog.info? 143).isSome = true := by kernel_rfl
@[simp] theorem ze143 : zeroT Try.prog 143 = some [.int .u8 0] := by kernel_rfl
@[simp] theorem fi143 (m : Nat) : fits Try.prog 143 m = decide (m * 1 ≤ 140737488355328) := fits_at ze143 (by kernel_rfl) m
@[simp] theorem an143 (n : Int) : (Try.prog.info? 143).any (fun i => decide ((i.bytes : Int) * n ≤ 140737488355328)) = decide (1 * n ≤ 140737488355328) := any_at (by kernel_rfl) n
attribute [simp] Try.underlying144
@[simp] theorem sz144 : sizeT Try.prog 144 = 1 := by kernel_rfl
@[simp] theorem ag144 : isAggT Try.prog 144 = false := by kernel_rfl
@[simp] theorem in144 : (Try.prog.info? 144).isSome = true := by kernel_rfl
@[simp] theorem ze144 : zeroT Try.prog 144 = some [.raw .nilFunc] := by kernel_rfl
@[simp] theorem fi144 (m : Nat) : fits Try.prog 144 m = decide (m * 8 ≤ 140737488355328) := fits_at ze144 (by kernel_rfl) m
@[simp] theorem an144 (n : Int) : (Try.prog.info? 144).any (fun i => decide ((i.bytes : Int) * n ≤ 140737488355328)) = decide (8 * n ≤ 140737488355328) := any_at (by kernel_rfl) n
attribute [simp] Try.underlying145
@[simp] theorem sz145 : sizeT Try.prog 145 = 1 := by kernel_rfl
@[simp] theorem ag145 : isAggT Try.prog 145 = false := by kernel_rfl
@[simp] theorem in145 : (Try.prog.info? 145).isSome = true := by kernel_rfl
@[simp] theorem ze145 : zeroT Try.prog 145 = some [.nilp] := by kernel_rfl
@[simp] theorem fi145 (m : Nat) : fits Try.prog 145 m = decide (m * 8 ≤ 140737488355328) := fits_at ze145 (by kernel_rfl) m
@[simp] theorem an145 (n : Int) : (Try.prog.info? 145).any (fun i => decide ((i.bytes : Int) * n ≤ 140737488355328)) = decide (8 * n ≤ 140737488355328) := any_at (by kernel_rfl) n
attribute [simp] Try.underlying146
@[simp] theorem sz146 : sizeT Try.prog 146 = 1 := by kernel_rfl
@[simp] theorem ag146 : isAggT Try.prog 146 = false := by kernel_rfl
@[simp] theorem in146 : (Try.prog.info? 146).isSome = true := by kernel_rfl
@[simp] theorem ze146 : zeroT Try.prog 146 = some [.int .i32 0] := by kernel_rfl
@[simp] theorem fi146 (m : Nat) : fits Try.prog 146 m = decide (m * 4 ≤ 140737488355328) := fits_at ze146 (by kernel_rfl) m
@[simp] theorem an146 (n : Int) : (Try.prog.info? 146).any (fun i => decide ((i.bytes : Int) * n ≤ 140737488355328)) = decide (4 * n ≤ 140737488355328) := any_at (by kernel_rfl) n
attribute [simp] Try.underlying147
@[simp] theorem sz147 : sizeT Try.prog 147 = 1 := by kernel_rfl
@[simp] theorem ag147 : isAggT Try.prog 147 = false := by kernel_rfl
@[simp] theorem in147 : (Try.prog.info? 147).isSome = true := by kernel_rfl
@[simp] theorem ze147 : zeroT Try.prog 147 = some [.int .i32 0] := by kernel_rfl
@[simp] theorem fi147 (m : Nat) : fits Try.prog 147 m = decide (m * 4 ≤ 140737488355328) := fits_at ze147 (by kernel_rfl) m
@[simp] theorem an147 (n : Int) : (Try.prog.info? 147).any (fun i => decide ((i.bytes : Int) * n ≤ 140737488355328)) = decide (4 * n ≤ 140737488355328) := any_at (by kernel_rfl) n
attribute [simp] Try.underlying148
@[simp] theorem sz148 : sizeT Try.prog 148 = 11 := by kernel_rfl
@[simp] theorem ag148 : isAggT Try.prog 148 = true := by kernel_rfl
@[simp] theorem in148 : (Try.prog.info? 148).isSome = true := by kernel_rfl
@[simp] theorem ze148 : zeroT Try.prog 148 = some [.int .u64 0, .int .u64 0, .int .u32 0, .int .u8 0, .int .u8 0, .int .u8 0, .int .u8 0, .raw .nilFunc, .nilp, .int .i32 0, .int .i32 0] := by kernel_rfl
@[simp] theorem fi148 (m : Nat) : fits Try.prog 148 m = decide (m * 48 ≤ 140737488355328) := fits_at ze148 (by kernel_rfl) m
@[simp] theorem an148 (n : Int) : (Try.prog.info? 148).any (fun i => decide ((i.bytes : Int) * n ≤ 140737488355328)) = decide (48 * n ≤ 140737488355328) := any_at (by kernel_rfl) n
attribute [simp] Try.underlying149
@[simp] theorem sz149 : sizeT Try.prog 149 = 11 := by kernel_rfl
@[simp] theorem ag149 : isAggT Try.prog 149 = true := by kernel_rfl
@[simp] theorem in149 : (Try.prog.info? 149).isSome = true := by kernel_rfl
@[simp] theorem ze149 : zeroT Try.prog 149 = some [.int .u64 0, .int .u64 0, .int .u32 0, .int .u8 0, .int .u8 0, .int .u8 0, .int .u8 0, .raw .nilFunc, .nilp, .int .i32 0, .int .i32 0] := by kernel_rfl
@[simp] theorem fi149 (m : Nat) : fits Try.prog 149 m = decide (m * 48 ≤ 140737488355328) := fits_at ze149 (by kernel_rfl) m
@[simp] theorem an149 (n : Int) : (Try.prog.info? 149).any (fun i => decide ((i.bytes : Int) * n ≤ 140737488355328)) = decide (48 * n ≤ 140737488355328) := any_at (by kernel_rfl) n
attribute [simp] keep2 head2
@[simp] theorem hK2 : hint2.keep = keep2 := rfl
@[simp] theorem hH2 : hint2.head = head2 := rfl
@[simp] theorem hB2 (t : Nat) : hint2.box t = ([] : List Nat).contains t := rfl
@[simp] theorem hD2 (t : Nat) : hint2.dies t = ([] : List Nat).contains t := rfl
@[simp] theorem ow2 : (hints 2).own = none := rfl
theorem hh2 : hints 2 = hint2 := rfl
@[simp] theorem hS2 (t : Nat) : hint2.soft t = [] := rfl
attribute [simp] keep3 head3
@[simp] theorem hK3 : hint3.keep = keep3 := rfl
@[simp] theorem hH3 : hint3.head = head3 := rfl
@[simp] theorem hB3 (t : Nat) : hint3.box t = ([3, 8, 11, 12] : List Nat).contains t := rfl
@[simp] theorem hD3 (t : Nat) : hint3.dies t = ([18, 23, 43, 44, 59, 62, 77, 87, 98, 101] : List Nat).contains t := rfl
@[simp] theorem ow3 : (hints 3).own = none := rfl
theorem hh3 : hints 3 = hint3 := rfl
@[simp] theorem hS3 (t : Nat) : hint3.soft t = [] := rfl
attribute [simp] free3 pairs3
@[simp] theorem hF3 : hint3.free = free3 := rfl
@[simp] theorem hP3 : hint3.pairs = pairs3 := rfl
attribute [simp] keep4 head4
@[simp] theorem hK4 : hint4.keep = keep4 := rfl
@[simp] theorem hH4 : hint4.head = head4 := rfl
@[simp] theorem hB4 (t : Nat) : hint4.box t = ([1] : List Nat).contains t := rfl
@[simp] theorem hD4 (t : Nat) : hint4.dies t = ([21, 40, 42, 65, 76, 102, 104, 132, 154, 167, 175, 195, 196, 200, 201, 205, 206, 211, 212, 215, 216, 219, 220, 223, 224] : List Nat).contains t := rfl
@[simp] theorem ow4 : (hints 4).own = none := rfl
theorem hh4 : hints 4 = hint4 := rfl
@[simp] theorem hS4 (t : Nat) : hint4.soft t = [] := rfl
attribute [simp] free4 pairs4
@[simp] theorem hF4 : hint4.free = free4 := rfl
@[simp] theorem hP4 : hint4.pairs = pairs4 := rfl
attribute [simp] keep5 head5
@[simp] theorem hK5 : hint5.keep = keep5 := rfl
@[simp] theorem hH5 : hint5.head = head5 := rfl
@[simp] theorem hB5 (t : Nat) : hint5.box t = ([] : List Nat).contains t := rfl
@[simp] theorem hD5 (t : Nat) : hint5.dies t = ([11, 12, 16, 17, 26, 27, 30, 31, 32, 37, 38, 41, 47, 51, 71, 72, 73] : List Nat).contains t := rfl
@[simp] theorem ow5 : (hints 5).own = none := rfl
theorem hh5 : hints 5 = hint5 := rfl
@[simp] theorem hS5 (t : Nat) : hint5.soft t = [] := rfl
attribute [simp] keep6 head6
@[simp] theorem hK6 : hint6.keep = keep6 := rfl
@[simp] theorem hH6 : hint6.head = head6 := rfl
@[simp] theorem hB6 (t : Nat) : hint6.box t = ([5] : List Nat).contains t := rfl
@[simp] theorem hD6 (t : Nat) : hint6.dies t = ([16, 17, 21, 24, 31, 32, 38, 46, 47, 50, 59, 63, 64, 67, 68, 73, 79, 80, 83, 84, 99] : List Nat).contains t := rfl
@[simp] theorem ow6 : (hints 6).own = none := rfl
theorem hh6 : hints 6 = hint6 := rfl
@[simp] theorem hS6 (t : Nat) : hint6.soft t = [] := rfl
attribute [simp] free6 pairs6
@[simp] theorem hF6 : hint6.free = free6 := rfl
@[simp] theorem hP6 : hint6.pairs = pairs6 := rfl
attribute [simp] keep7 head7
@[simp] theorem hK7 : hint7.keep = keep7 := rfl
@[simp] theorem hH7 : hint7.head = head7 := rfl
@[simp] theorem hB7 (t : Nat) : hint7.box t = ([] : List Nat).contains t := rfl
@[simp] theorem hD7 (t : Nat) : hint7.dies t = ([20, 21, 29, 30, 34, 42, 46, 96, 100, 119, 124, 130, 135, 136, 137, 140, 141, 143, 149, 150, 153, 154, 157, 163, 169, 174, 180, 181] : List Nat).contains t := rfl
@[simp] theorem ow7 : (hints 7).own = none := rfl
theorem hh7 : hints 7 = hint7 := rfl
@[simp] theorem hS7 (t : Nat) : hint7.soft t = [] := rfl
attribute [simp] free7 pairs7
@[simp] theorem hF7 : hint7.free = free7 := rfl
@[simp] theorem hP7 : hint7.pairs = pairs7 := rfl
attribute [simp] keep8 head8
@[simp] theorem hK8 : hint8.keep = keep8 := rfl
@[simp] theorem hH8 : hint8.head = head8 := rfl
@[simp] theorem hB8 (t : Nat) : hint8.box t = ([1] : List Nat).contains t := rfl
@[simp] theorem hD8 (t : Nat) : hint8.dies t = ([14, 18, 24, 30] : List Nat).contains t := rfl
@[simp] theorem ow8 : (hints 8).own = none := rfl
theorem hh8 : hints 8 = hint8 := rfl
@[simp] theorem hS8 (t : Nat) : hint8.soft t = [] := rfl
attribute [simp] keep9 head9
@[simp] theorem hK9 : hint9.keep = keep9 := rfl
@[simp] theorem hH9 : hint9.head = head9 := rfl
@[simp] theorem hB9 (t : Nat) : hint9.box t = ([1, 2] : List Nat).contains t := rfl
@[simp] theorem hD9 (t : Nat) : hint9.dies t = ([22, 23, 29, 33, 38] : List Nat).contains t := rfl
@[simp] theorem ow9 : (hints 9).own = none := rfl
theorem hh9 : hints 9 = hint9 := rfl
@[simp] theorem hS9 (t : Nat) : hint9.soft t = [] := rfl
attribute [simp] keep10 head10
@[simp] theorem hK10 : hint10.keep = keep10 := rfl
@[simp] theorem hH10 : hint10.head = head10 := rfl
@[simp] theorem hB10 (t : Nat) : hint10.box t = ([1] : List Nat).contains t := rfl
@[simp] theorem hD10 (t : Nat) : hint10.dies t = ([] : List Nat).contains t := rfl
@[simp] theorem ow10 : (hints 10).own = none := rfl
theorem hh10 : hints 10 = hint10 := rfl
@[simp] theorem hS10 (t : Nat) : hint10.soft t = [] := rfl
attribute [simp] keep11 head11
@[simp] theorem hK11 : hint11.keep = keep11 := rfl
@[simp] theorem hH11 : hint11.head = head11 := rfl
@[simp] theorem hB11 (t : Nat) : hint11.box t = ([1, 5] : List Nat).contains t := rfl
@[simp] theorem hD11 (t : Nat) : hint11.dies t = ([9, 14, 15, 25] : List Nat).contains t := rfl
@[simp] theorem ow11 : (hints 11).own = none := rfl
theorem hh11 : hints 11 = hint11 := rfl
@[simp] theorem hS11 (t : Nat) : hint11.soft t = [] := rfl
attribute [simp] keep12 head12
@[simp] theorem hK12 : hint12.keep = keep12 := rfl
@[simp] theorem hH12 : hint12.head = head12 := rfl
@[simp] theorem hB12 (t : Nat) : hint12.box t = ([2, 7] : List Nat).contains t := rfl
@[simp] theorem hD12 (t : Nat) : hint12.dies t = ([13, 21, 26, 35] : List Nat).contains t := rfl
@[simp] theorem ow12 : (hints 12).own = none := rfl
theorem hh12 : hints 12 = hint12 := rfl
@[simp] theorem hS12 (t : Nat) : hint12.soft t = [] := rfl
attribute [simp] keep13 head13
@[simp] theorem hK13 : hint13.keep = keep13 := rfl
@[simp] theorem hH13 : hint13.head = head13 := rfl
@[simp] theorem hB13 (t : Nat) : hint13.box t = ([] : List Nat).contains t := rfl
@[simp] theorem hD13 (t : Nat) : hint13.dies t = ([10, 15, 26, 27] : List Nat).contains t := rfl
@[simp] theorem ow13 : (hints 13).own = none := rfl
theorem hh13 : hints 13 = hint13 := rfl
@[simp] theorem hS13 (t : Nat) : hint13.soft t = [] := rfl
attribute [simp] free13 pairs13
@[simp] theorem hF13 : hint13.free = free13 := rfl
@[simp] theorem hP13 : hint13.pairs = pairs13 := rfl
attribute [simp] keep14 head14
@[simp] theorem hK14 : hint14.keep = keep14 := rfl
@[simp] theorem hH14 : hint14.head = head14 := rfl
@[simp] theorem hB14 (t : Nat) : hint14.box t = ([] : List Nat).contains t := rfl
@[simp] theorem hD14 (t : Nat) : hint14.dies t = ([7, 16, 18, 37, 38] : List Nat).contains t := rfl
@[simp] theorem ow14 : (hints 14).own = none := rfl
theorem hh14 : hints 14 = hint14 := rfl
@[simp] theorem hS14 (t : Nat) : hint14.soft t = [] := rfl
attribute [simp] free14 pairs14
@[simp] theorem hF14 : hint14.free = free14 := rfl
@[simp] theorem hP14 : hint14.pairs = pairs14 := rfl
attribute [simp] keep15 head15
@[simp] theorem hK15 : hint15.keep = keep15 := rfl
@[simp] theorem hH15 : hint15.head = head15 := rfl
@[simp] theorem hB15 (t : Nat) : hint15.box t = ([6, 7] : List Nat).contains t := rfl
@[simp] theorem hD15 (t : Nat) : hint15.dies t = ([12, 14, 21, 28, 55] : List Nat).contains t := rfl
@[simp] theorem ow15 : (hints 15).own = none := rfl
theorem hh15 : hints 15 = hint15 := rfl
@[simp] theorem hS15 (t : Nat) : hint15.soft t = [] := rfl
attribute [simp] free15 pairs15
@[simp] theorem hF15 : hint15.free = free15 := rfl
@[simp] theorem hP15 : hint15.pairs = pairs15 := rfl
attribute [simp] keep16 head16
@[simp] theorem hK16 : hint16.keep = keep16 := rfl
@[simp] theorem hH16 : hint16.head = head16 := rfl
@[simp] theorem hB16 (t : Nat) : hint16.box t = ([4] : List Nat).contains t := rfl
@[simp] theorem hD16 (t : Nat) : hint16.dies t = ([11, 20, 25, 30, 35, 40, 51, 64] : List Nat).contains t := rfl
@[simp] theorem ow16 : (hints 16).own = none := rfl
theorem hh16 : hints 16 = hint16 := rfl
@[simp] theorem hS16 (t : Nat) : hint16.soft t = [] := rfl
attribute [simp] free16 pairs16
@[simp] theorem hF16 : hint16.free = free16 := rfl
@[simp] theorem hP16 : hint16.pairs = pairs16 := rfl
attribute [simp] keep17 head17
@[simp] theorem hK17 : hint17.keep = keep17 := rfl
@[simp] theorem hH17 : hint17.head = head17 := rfl
@[simp] theorem hB17 (t : Nat) : hint17.box t = ([] : List Nat).contains t := rfl
@[simp] theorem hD17 (t : Nat) : hint17.dies t = ([10, 19, 24, 29, 34, 36, 37, 40, 41, 44, 45, 48, 49, 52, 53, 56, 57] : List Nat).contains t := rfl
@[simp] theorem ow17 : (hints 17).own = none := rfl
theorem hh17 : hints 17 = hint17 := rfl
@[simp] theorem hS17 (t : Nat) : hint17.soft t = [] := rfl
attribute [simp] keep18 head18
@[simp] theorem hK18 : hint18.keep = keep18 := rfl
@[simp] theorem hH18 : hint18.head = head18 := rfl
@[simp] theorem hB18 (t : Nat) : hint18.box t = ([] : List Nat).contains t := rfl
@[simp] theorem hD18 (t : Nat) : hint18.dies t = ([12, 30] : List Nat).contains t := rfl
@[simp] theorem ow18 : (hints 18).own = none := rfl
theorem hh18 : hints 18 = hint18 := rfl
@[simp] theorem hS18 (t : Nat) : hint18.soft t = [] := rfl
attribute [simp] free18 pairs18
@[simp] theorem hF18 : hint18.free = free18 := rfl
@[simp] theorem hP18 : hint18.pairs = pairs18 := rfl
attribute [simp] keep19 head19
@[simp] theorem hK19 : hint19.keep = keep19 := rfl
@[simp] theorem hH19 : hint19.head = head19 := rfl
@[simp] theorem hB19 (t : Nat) : hint19.box t = ([5] : List Nat).contains t := rfl
@[simp] theorem hD19 (t : Nat) : hint19.dies t = ([38, 39, 41, 47, 54, 61, 62, 64, 65, 66, 69, 70, 72] : List Nat).contains t := rfl
@[simp] theorem ow19 : (hints 19).own = none := rfl
theorem hh19 : hints 19 = hint19 := rfl
@[simp] theorem hS19 (t : Nat) : hint19.soft t = [] := rfl
attribute [simp] free19 pairs19
@[simp] theorem hF19 : hint19.free = free19 := rfl
@[simp] theorem hP19 : hint19.pairs = pairs19 := rfl
attribute [simp] keep20 head20
@[simp] theorem hK20 : hint20.keep = keep20 := rfl
@[simp] theorem hH20 : hint20.head = head20 := rfl
@[simp] theorem hB20 (t : Nat) : hint20.box t = ([] : List Nat).contains t := rfl
@[simp] theorem hD20 (t : Nat) : hint20.dies t = ([20, 29, 41, 43, 57, 59, 60, 77, 98, 100, 101, 105] : List Nat).contains t := rfl
@[simp] theorem ow20 : (hints 20).own = none := rfl
theorem hh20 : hints 20 = hint20 := rfl
@[simp] theorem hS20 (t : Nat) : hint20.soft t = [] := rfl
attribute [simp] free20 pairs20
@[simp] theorem hF20 : hint20.free = free20 := rfl
@[simp] theorem hP20 : hint20.pairs = pairs20 := rfl
attribute [simp] keep21 head21
@[simp] theorem hK21 : hint21.keep = keep21 := rfl
@[simp] theorem hH21 : hint21.head = head21 := rfl
@[simp] theorem hB21 (t : Nat) : hint21.box t = ([] : List Nat).contains t := rfl
@[simp] theorem hD21 (t : Nat) : hint21.dies t = ([14, 30, 31, 36] : List Nat).contains t := rfl
@[simp] theorem ow21 : (hints 21).own = none := rfl
theorem hh21 : hints 21 = hint21 := rfl
@[simp] theorem hS21 (t : Nat) : hint21.soft t = [] := rfl
attribute [simp] keep22 head22
@[simp] theorem hK22 : hint22.keep = keep22 := rfl
@[simp] theorem hH22 : hint22.head = head22 := rfl
@[simp] theorem hB22 (t : Nat) : hint22.box t = ([6, 7] : List Nat).contains t := rfl
@[simp] theorem hD22 (t : Nat) : hint22.dies t = ([39, 49, 66, 67, 90, 92, 102] : List Nat).contains t := rfl
@[simp] theorem ow22 : (hints 22).own = none := rfl
theorem hh22 : hints 22 = hint22 := rfl
@[simp] theorem hS22 (t : Nat) : hint22.soft t = [] := rfl
attribute [simp] free22 pairs22
@[simp] theorem hF22 : hint22.free = free22 := rfl
@[simp] theorem hP22 : hint22.pairs = pairs22 := rfl
attribute [simp] keep23 head23
@[simp] theorem hK23 : hint23.keep = keep23 := rfl
@[simp] theorem hH23 : hint23.head = head23 := rfl
@[simp] theorem hB23 (t : Nat) : hint23.box t = ([] : List Nat).contains t := rfl
@[simp] theorem hD23 (t : Nat) : hint23.dies t = ([5] : List Nat).contains t := rfl
@[simp] theorem ow23 : (hints 23).own = none := rfl
theorem hh23 : hints 23 = hint23 := rfl
@[simp] theorem hS23 (t : Nat) : hint23.soft t = [] := rfl
attribute [simp] keep24 head24
@[simp] theorem hK24 : hint24.keep = keep24 := rfl
@[simp] theorem hH24 : hint24.head = head24 := rfl
@[simp] theorem hB24 (t : Nat) : hint24.box t = ([] : List Nat).contains t := rfl
@[simp] theorem hD24 (t : Nat) : hint24.dies t = ([5, 6] : List Nat).contains t := rfl
@[simp] theorem ow24 : (hints 24).own = none := rfl
theorem hh24 : hints 24 = hint24 := rfl
@[simp] theorem hS24 (t : Nat) : hint24.soft t = [] := rfl
attribute [simp] keep25 head25
@[simp] theorem hK25 : hint25.keep = keep25 := rfl
@[simp] theorem hH25 : hint25.head = head25 := rfl
@[simp] theorem hB25 (t : Nat) : hint25.box t = ([] : List Nat).contains t := rfl
@[simp] theorem hD25 (t : Nat) : hint25.dies t = ([24] : List Nat).contains t := rfl
@[simp] theorem ow25 : (hints 25).own = none := rfl
theorem hh25 : hints 25 = hint25 := rfl
@[simp] theorem hS25 (t : Nat) : hint25.soft t = [] := rfl
attribute [simp] keep26 head26
@[simp] theorem hK26 : hint26.keep = keep26 := rfl
@[simp] theorem hH26 : hint26.head = head26 := rfl
@[simp] theorem hB26 (t : Nat) : hint26.box t = ([8] : List Nat).contains t := rfl
@[simp] theorem hD26 (t : Nat) : hint26.dies t = ([10, 12, 19, 23, 29, 32] : List Nat).contains t := rfl
@[simp] theorem ow26 : (hints 26).own = none := rfl
theorem hh26 : hints 26 = hint26 := rfl
@[simp] theorem hS26 (t : Nat) : hint26.soft t = [] := rfl
attribute [simp] free26 pairs26
@[simp] theorem hF26 : hint26.free = free26 := rfl
@[simp] theorem hP26 : hint26.pairs = pairs26 := rfl
attribute [simp] keep27 head27
@[simp] theorem hK27 : hint27.keep = keep27 := rfl
@[simp] theorem hH27 : hint27.head = head27 := rfl
@[simp] theorem hB27 (t : Nat) : hint27.box t = ([3, 5] : List Nat).contains t := rfl
@[simp] theorem hD27 (t : Nat) : hint27.dies t = ([8, 9, 20, 24, 36, 43, 44] : List Nat).contains t := rfl
@[simp] theorem ow27 : (hints 27).own = none := rfl
theorem hh27 : hints 27 = hint27 := rfl
@[simp] theorem hS27 (t : Nat) : hint27.soft t = [] := rfl
attribute [simp] keep28 head28
@[simp] theorem hK28 : hint28.keep = keep28 := rfl
@[simp] theorem hH28 : hint28.head = head28 := rfl
@[simp] theorem hB28 (t : Nat) : hint28.box t = ([1] : List Nat).contains t := rfl
@[simp] theorem hD28 (t : Nat) : hint28.dies t = ([6, 11, 17, 23, 29] : List Nat).contains t := rfl
@[simp] theorem ow28 : (hints 28).own = none := rfl
theorem hh28 : hints 28 = hint28 := rfl
@[simp] theorem hS28 (t : Nat) : hint28.soft t = [] := rfl
attribute [simp] keep29 head29
@[simp] theorem hK29 : hint29.keep = keep29 := rfl
@[simp] theorem hH29 : hint29.head = head29 := rfl
@[simp] theorem hB29 (t : Nat) : hint29.box t = ([3, 9, 10, 12, 13, 17, 18] : List Nat).contains t := rfl
@[simp] theorem hD29 (t : Nat) : hint29.dies t = ([21, 26, 33, 36, 46, 53, 68, 73, 79, 86, 97, 113, 120, 124, 134, 141, 158, 178, 188, 200, 204, 221, 230, 245, 252, 256, 266, 273, 298, 305, 308, 313] : List Nat).contains t := rfl
@[simp] theorem ow29 : (hints 29).own = none := rfl
theorem hh29 : hints 29 = hint29 := rfl
@[simp] theorem hS29 (t : Nat) : hint29.soft t = [] := rfl
attribute [simp] free29 pairs29
@[simp] theorem hF29 : hint29.free = free29 := rfl
@[simp] theorem hP29 : hint29.pairs = pairs29 := rfl
attribute [simp] keep30 head30
@[simp] theorem hK30 : hint30.keep = keep30 := rfl
@[simp] theorem hH30 : hint30.head = head30 := rfl
@[simp] theorem hB30 (t : Nat) : hint30.box t = ([] : List Nat).contains t := rfl
@[simp] theorem hD30 (t : Nat) : hint30.dies t = ([15] : List Nat).contains t := rfl
@[simp] theorem ow30 : (hints 30).own = none := rfl
theorem hh30 : hints 30 = hint30 := rfl
@[simp] theorem hS30 (t : Nat) : hint30.soft t = [] := rfl
attribute [simp] free30 pairs30
@[simp] theorem hF30 : hint30.free = free30 := rfl
@[simp] theorem hP30 : hint30.pairs = pairs30 := rfl
attribute [simp] keep31 head31
@[simp] theorem hK31 : hint31.keep = keep31 := rfl
@[simp] theorem hH31 : hint31.head = head31 := rfl
@[simp] theorem hB31 (t : Nat) : hint31.box t = ([] : List Nat).contains t := rfl
@[simp] theorem hD31 (t : Nat) : hint31.dies t = ([10] : List Nat).contains t := rfl
@[simp] theorem ow31 : (hints 31).own = none := rfl
theorem hh31 : hints 31 = hint31 := rfl
@[simp] theorem hS31 (t : Nat) : hint31.soft t = [] := rfl
attribute [simp] keep32 head32
@[simp] theorem hK32 : hint32.keep = keep32 := rfl
@[simp] theorem hH32 : hint32.head = head32 := rfl
@[simp] theorem hB32 (t : Nat) : hint32.box t = ([1] : List Nat).contains t := rfl
@[simp] theorem hD32 (t : Nat) : hint32.dies t = ([6, 12, 18] : List Nat).contains t := rfl
@[simp] theorem ow32 : (hints 32).own = none := rfl
theorem hh32 : hints 32 = hint32 := rfl
@[simp] theorem hS32 (t : Nat) : hint32.soft t = [] := rfl
attribute [simp] keep33 head33
@[simp] theorem hK33 : hint33.keep = keep33 := rfl
@[simp] theorem hH33 : hint33.head = head33 := rfl
@[simp] theorem hB33 (t : Nat) : hint33.box t = ([2, 3] : List Nat).contains t := rfl
@[simp] theorem hD33 (t : Nat) : hint33.dies t = ([11, 21] : List Nat).contains t := rfl
@[simp] theorem ow33 : (hints 33).own = none := rfl
theorem hh33 : hints 33 = hint33 := rfl
@[simp] theorem hS33 (t : Nat) : hint33.soft t = [] := rfl
attribute [simp] keep34 head34
@[simp] theorem hK34 : hint34.keep = keep34 := rfl
@[simp] theorem hH34 : hint34.head = head34 := rfl
@[simp] theorem hB34 (t : Nat) : hint34.box t = ([2, 3] : List Nat).contains t := rfl
@[simp] theorem hD34 (t : Nat) : hint34.dies t = ([7, 11, 16] : List Nat).contains t := rfl
@[simp] theorem ow34 : (hints 34).own = none := rfl
theorem hh34 : hints 34 = hint34 := rfl
@[simp] theorem hS34 (t : Nat) : hint34.soft t = [] := rfl
attribute [simp] keep35 head35
@[simp] theorem hK35 : hint35.keep = keep35 := rfl
@[simp] theorem hH35 : hint35.head = head35 := rfl
@[simp] theorem hB35 (t : Nat) : hint35.box t = ([1] : List Nat).contains t := rfl
@[simp] theorem hD35 (t : Nat) : hint35.dies t = ([6, 11, 16, 21, 26] : List Nat).contains t := rfl
@[simp] theorem ow35 : (hints 35).own = none := rfl
theorem hh35 : hints 35 = hint35 := rfl
@[simp] theorem hS35 (t : Nat) : hint35.soft t = [] := rfl
attribute [simp] keep36 head36
@[simp] theorem hK36 : hint36.keep = keep36 := rfl
@[simp] theorem hH36 : hint36.head = head36 := rfl
@[simp] theorem hB36 (t : Nat) : hint36.box t = ([4] : List Nat).contains t := rfl
@[simp] theorem hD36 (t : Nat) : hint36.dies t = ([19, 23] : List Nat).contains t := rfl
@[simp] theorem ow36 : (hints 36).own = none := rfl
theorem hh36 : hints 36 = hint36 := rfl
@[simp] theorem hS36 (t : Nat) : hint36.soft t = [] := rfl
attribute [simp] keep37 head37
@[simp] theorem hK37 : hint37.keep = keep37 := rfl
@[simp] theorem hH37 : hint37.head = head37 := rfl
@[simp] theorem hB37 (t : Nat) : hint37.box t = ([] : List Nat).contains t := rfl
@[simp] theorem hD37 (t : Nat) : hint37.dies t = ([5, 6] : List Nat).contains t := rfl
@[simp] theorem ow37 : (hints 37).own = none := rfl
theorem hh37 : hints 37 = hint37 := rfl
@[simp] theorem hS37 (t : Nat) : hint37.soft t = [] := rfl
attribute [simp] keep38 head38
@[simp] theorem hK38 : hint38.keep = keep38 := rfl
@[simp] theorem hH38 : hint38.head = head38 := rfl
@[simp] theorem hB38 (t : Nat) : hint38.box t = ([2, 4] : List Nat).contains t := rfl
@[simp] theorem hD38 (t : Nat) : hint38.dies t = ([6, 19] : List Nat).contains t := rfl
@[simp] theorem ow38 : (hints 38).own = none := rfl
theorem hh38 : hints 38 = hint38 := rfl
@[simp] theorem hS38 (t : Nat) : hint38.soft t = [] := rfl
attribute [simp] keep39 head39
@[simp] theorem hK39 : hint39.keep = keep39 := rfl
@[simp] theorem hH39 : hint39.head = head39 := rfl
@[simp] theorem hB39 (t : Nat) : hint39.box t = ([2, 3, 4, 6] : List Nat).contains t := rfl
@[simp] theorem hD39 (t : Nat) : hint39.dies t = ([10] : List Nat).contains t := rfl
@[simp] theorem ow39 : (hints 39).own = none := rfl
theorem hh39 : hints 39 = hint39 := rfl
@[simp] theorem hS39 (t : Nat) : hint39.soft t = [] := rfl
attribute [simp] keep40 head40
@[simp] theorem hK40 : hint40.keep = keep40 := rfl
@[simp] theorem hH40 : hint40.head = head40 := rfl
@[simp] theorem hB40 (t : Nat) : hint40.box t = ([3] : List Nat).contains t := rfl
@[simp] theorem hD40 (t : Nat) : hint40.dies t = ([22, 32, 35, 39, 43] : List Nat).contains t := rfl
@[simp] theorem ow40 : (hints 40).own = none := rfl
theorem hh40 : hints 40 = hint40 := rfl
@[simp] theorem hS40 (t : Nat) : hint40.soft t = [] := rfl
attribute [simp] free40 pairs40
@[simp] theorem hF40 : hint40.free = free40 := rfl
@[simp] theorem hP40 : hint40.pairs = pairs40 := rfl
attribute [simp] keep41 head41
@[simp] theorem hK41 : hint41.keep = keep41 := rfl
@[simp] theorem hH41 : hint41.head = head41 := rfl
@[simp] theorem hB41 (t : Nat) : hint41.box t = ([1, 2] : List Nat).contains t := rfl
@[simp] theorem hD41 (t : Nat) : hint41.dies t = ([] : List Nat).contains t := rfl
@[simp] theorem ow41 : (hints 41).own = none := rfl
theorem hh41 : hints 41 = hint41 := rfl
@[simp] theorem hS41 (t : Nat) : hint41.soft t = [] := rfl
attribute [simp] keep42 head42
@[simp] theorem hK42 : hint42.keep = keep42 := rfl
@[simp] theorem hH42 : hint42.head = head42 := rfl
@[simp] theorem hB42 (t : Nat) : hint42.box t = ([5] : List Nat).contains t := rfl
@[simp] theorem hD42 (t : Nat) : hint42.dies t = ([10, 30, 31, 34] : List Nat).contains t := rfl
@[simp] theorem ow42 : (hints 42).own = none := rfl
theorem hh42 : hints 42 = hint42 := rfl
@[simp] theorem hS42 (t : Nat) : hint42.soft t = [] := rfl
attribute [simp] keep43 head43
@[simp] theorem hK43 : hint43.keep = keep43 := rfl
@[simp] theorem hH43 : hint43.head = head43 := rfl
@[simp] theorem hB43 (t : Nat) : hint43.box t = ([] : List Nat).contains t := rfl
@[simp] theorem hD43 (t : Nat) : hint43.dies t = ([14, 47, 51, 52, 71, 84, 89, 92, 93] : List Nat).contains t := rfl
@[simp] theorem ow43 : (hints 43).own = none := rfl
theorem hh43 : hints 43 = hint43 := rfl
@[simp] theorem hS43 (t : Nat) : hint43.soft t = [] := rfl
attribute [simp] free43 pairs43
@[simp] theorem hF43 : hint43.free = free43 := rfl
@[simp] theorem hP43 : hint43.pairs = pairs43 := rfl
attribute [simp] keep44 head44
@[simp] theorem hK44 : hint44.keep = keep44 := rfl
@[simp] theorem hH44 : hint44.head = head44 := rfl
@[simp] theorem hB44 (t : Nat) : hint44.box t = ([1] : List Nat).contains t := rfl
@[simp] theorem hD44 (t : Nat) : hint44.dies t = ([] : List Nat).contains t := rfl
@[simp] theorem ow44 : (hints 44).own = none := rfl
theorem hh44 : hints 44 = hint44 := rfl
@[simp] theorem hS44 (t : Nat) : hint44.soft t = [] := rfl
attribute [simp] keep45 head45
@[simp] theorem hK45 : hint45.keep = keep45 := rfl
@[simp] theorem hH45 : hint45.head = head45 := rfl
@[simp] theorem hB45 (t : Nat) : hint45.box t = ([] : List Nat).contains t := rfl
@[simp] theorem hD45 (t : Nat) : hint45.dies t = ([6] : List Nat).contains t := rfl
@[simp] theorem ow45 : (hints 45).own = none := rfl
theorem hh45 : hints 45 = hint45 := rfl
@[simp] theorem hS45 (t : Nat) : hint45.soft t = [] := rfl
attribute [simp] keep46 head46
@[simp] theorem hK46 : hint46.keep = keep46 := rfl
@[simp] theorem hH46 : hint46.head = head46 := rfl
@[simp] theorem hB46 (t : Nat) : hint46.box t = ([] : List Nat).contains t := rfl
@[simp] theorem hD46 (t : Nat) : hint46.dies t = ([6] : List Nat).contains t := rfl
@[simp] theorem ow46 : (hints 46).own = none := rfl
theorem hh46 : hints 46 = hint46 := rfl
@[simp] theorem hS46 (t : Nat) : hint46.soft t = [] := rfl
attribute [simp] keep47 head47
@[simp] theorem hK47 : hint47.keep = keep47 := rfl
@[simp] theorem hH47 : hint47.head = head47 := rfl
@[simp] theorem hB47 (t : Nat) : hint47.box t = ([1] : List Nat).contains t := rfl
@[simp] theorem hD47 (t : Nat) : hint47.dies t = ([6, 11, 16, 28, 33, 47, 52, 57, 62, 67, 72, 77, 85, 90, 95] : List Nat).contains t := rfl
@[simp] theorem ow47 : (hints 47).own = none := rfl
theorem hh47 : hints 47 = hint47 := rfl
@[simp] theorem hS47 (t : Nat) : hint47.soft t = [] := rfl
attribute [simp] free47 pairs47
@[simp] theorem hF47 : hint47.free = free47 := rfl
@[simp] theorem hP47 : hint47.pairs = pairs47 := rfl
attribute [simp] keep48 head48
@[simp] theorem hK48 : hint48.keep = keep48 := rfl
@[simp] theorem hH48 : hint48.head = head48 := rfl
@[simp] theorem hB48 (t : Nat) : hint48.box t = ([] : List Nat).contains t := rfl
@[simp] theorem hD48 (t : Nat) : hint48.dies t = ([10, 11, 15, 16] : List Nat).contains t := rfl
@[simp] theorem ow48 : (hints 48).own = none := rfl
theorem hh48 : hints 48 = hint48 := rfl
@[simp] theorem hS48 (t : Nat) : hint48.soft t = [] := rfl
attribute [simp] keep49 head49
@[simp] theorem hK49 : hint49.keep = keep49 := rfl
@[simp] theorem hH49 : hint49.head = head49 := rfl
@[simp] theorem hB49 (t : Nat) : hint49.box t = ([2, 3] : List Nat).contains t := rfl
@[simp] theorem hD49 (t : Nat) : hint49.dies t = ([8, 16, 21, 28] : List Nat).contains t := rfl
@[simp] theorem ow49 : (hints 49).own = none := rfl
theorem hh49 : hints 49 = hint49 := rfl
@[simp] theorem hS49 (t : Nat) : hint49.soft t = [] := rfl
attribute [simp] keep50 head50
@[simp] theorem hK50 : hint50.keep = keep50 := rfl
@[simp] theorem hH50 : hint50.head = head50 := rfl
@[simp] theorem hB50 (t : Nat) : hint50.box t = ([2, 3] : List Nat).contains t := rfl
@[simp] theorem hD50 (t : Nat) : hint50.dies t = ([8, 16, 21, 28, 35] : List Nat).contains t := rfl
@[simp] theorem ow50 : (hints 50).own = none := rfl
theorem hh50 : hints 50 = hint50 := rfl
@[simp] theorem hS50 (t : Nat) : hint50.soft t = [] := rfl
attribute [simp] keep51 head51
@[simp] theorem hK51 : hint51.keep = keep51 := rfl
@[simp] theorem hH51 : hint51.head = head51 := rfl
@[simp] theorem hB51 (t : Nat) : hint51.box t = ([2] : List Nat).contains t := rfl
@[simp] theorem hD51 (t : Nat) : hint51.dies t = ([12, 16, 26, 36, 52] : List Nat).contains t := rfl
@[simp] theorem ow51 : (hints 51).own = none := rfl
theorem hh51 : hints 51 = hint51 := rfl
@[simp] theorem hS51 (t : Nat) : hint51.soft t = [] := rfl
attribute [simp] free51 pairs51
@[simp] theorem hF51 : hint51.free = free51 := rfl
@[simp] theorem hP51 : hint51.pairs = pairs51 := rfl
attribute [simp] keep52 head52
@[simp] theorem hK52 : hint52.keep = keep52 := rfl
@[simp] theorem hH52 : hint52.head = head52 := rfl
@[simp] theorem hB52 (t : Nat) : hint52.box t = ([] : List Nat).contains t := rfl
@[simp] theorem hD52 (t : Nat) : hint52.dies t = ([9, 13, 14] : List Nat).contains t := rfl
@[simp] theorem ow52 : (hints 52).own = some 0 := rfl
theorem hh52 : hints 52 = hint52 := rfl
@[simp] theorem hS52 (t : Nat) : hint52.soft t = [] := rfl
attribute [simp] keep53 head53
@[simp] theorem hK53 : hint53.keep = keep53 := rfl
@[simp] theorem hH53 : hint53.head = head53 := rfl
@[simp] theorem hB53 (t : Nat) : hint53.box t = ([] : List Nat).contains t := rfl
@[simp] theorem hD53 (t : Nat) : hint53.dies t = ([11, 15, 16, 23, 31, 42, 51, 60, 71, 75] : List Nat).contains t := rfl
@[simp] theorem ow53 : (hints 53).own = some 0 := rfl
theorem hh53 : hints 53 = hint53 := rfl
@[simp] theorem hS53 (t : Nat) : hint53.soft t = [] := rfl
attribute [simp] free53 pairs53
@[simp] theorem hF53 : hint53.free = free53 := rfl
@[simp] theorem hP53 : hint53.pairs = pairs53 := rfl
attribute [simp] keep54 head54
@[simp] theorem hK54 : hint54.keep = keep54 := rfl
@[simp] theorem hH54 : hint54.head = head54 := rfl
@[simp] theorem hB54 (t : Nat) : hint54.box t = ([] : List Nat).contains t := rfl
@[simp] theorem hD54 (t : Nat) : hint54.dies t = ([9, 13, 14] : List Nat).contains t := rfl
@[simp] theorem ow54 : (hints 54).own = some 0 := rfl
theorem hh54 : hints 54 = hint54 := rfl
@[simp] theorem hS54 (t : Nat) : hint54.soft t = [] := rfl
attribute [simp] keep55 head55
@[simp] theorem hK55 : hint55.keep = keep55 := rfl
@[simp] theorem hH55 : hint55.head = head55 := rfl
@[simp] theorem hB55 (t : Nat) : hint55.box t = ([] : List Nat).contains t := rfl
@[simp] theorem hD55 (t : Nat) : hint55.dies t = ([10, 11, 17, 18, 25] : List Nat).contains t := rfl
@[simp] theorem ow55 : (hints 55).own = some 0 := rfl
theorem hh55 : hints 55 = hint55 := rfl
@[simp] theorem hS55 (t : Nat) : hint55.soft t = [] := rfl
attribute [simp] keep56 head56
@[simp] theorem hK56 : hint56.keep = keep56 := rfl
@[simp] theorem hH56 : hint56.head = head56 := rfl
@[simp] theorem hB56 (t : Nat) : hint56.box t = ([] : List Nat).contains t := rfl
@[simp] theorem hD56 (t : Nat) : hint56.dies t = ([11] : List Nat).contains t := rfl
@[simp] theorem ow56 : (hints 56).own = none := rfl
theorem hh56 : hints 56 = hint56 := rfl
@[simp] theorem hS56 (t : Nat) : hint56.soft t = [] := rfl
attribute [simp] free56 pairs56
@[simp] theorem hF56 : hint56.free = free56 := rfl
@[simp] theorem hP56 : hint56.pairs = pairs56 := rfl
attribute [simp] keep57 head57
@[simp] theorem hK57 : hint57.keep = keep57 := rfl
@[simp] theorem hH57 : hint57.head = head57 := rfl
@[simp] theorem hB57 (t : Nat) : hint57.box t = ([] : List Nat).contains t := rfl
@[simp] theorem hD57 (t : Nat) : hint57.dies t = ([8, 10, 11, 12] : List Nat).contains t := rfl
@[simp] theorem ow57 : (hints 57).own = none := rfl
theorem hh57 : hints 57 = hint57 := rfl
@[simp] theorem hS57 (t : Nat) : hint57.soft t = [] := rfl
attribute [simp] keep58 head58
@[simp] theorem hK58 : hint58.keep = keep58 := rfl
@[simp] theorem hH58 : hint58.head = head58 := rfl
@[simp] theorem hB58 (t : Nat) : hint58.box t = ([2] : List Nat).contains t := rfl
@[simp] theorem hD58 (t : Nat) : hint58.dies t = ([7, 10] : List Nat).contains t := rfl
@[simp] theorem ow58 : (hints 58).own = none := rfl
theorem hh58 : hints 58 = hint58 := rfl
@[simp] theorem hS58 (t : Nat) : hint58.soft t = [] := rfl
attribute [simp] keep59 head59
@[simp] theorem hK59 : hint59.keep = keep59 := rfl
@[simp] theorem hH59 : hint59.head = head59 := rfl
@[simp] theorem hB59 (t : Nat) : hint59.box t = ([1] : List Nat).contains t := rfl
@[simp] theorem hD59 (t : Nat) : hint59.dies t = ([] : List Nat).contains t := rfl
@[simp] theorem ow59 : (hints 59).own = none := rfl
theorem hh59 : hints 59 = hint59 := rfl
@[simp] theorem hS59 (t : Nat) : hint59.soft t = [] := rfl
attribute [simp] keep60 head60
@[simp] theorem hK60 : hint60.keep = keep60 := rfl
@[simp] theorem hH60 : hint60.head = head60 := rfl
@[simp] theorem hB60 (t : Nat) : hint60.box t = ([2] : List Nat).contains t := rfl
@[simp] theorem hD60 (t : Nat) : hint60.dies t = ([8, 14, 15] : List Nat).contains t := rfl
@[simp] theorem ow60 : (hints 60).own = none := rfl
theorem hh60 : hints 60 = hint60 := rfl
@[simp] theorem hS60 (t : Nat) : hint60.soft t = [] := rfl
attribute [simp] keep61 head61
@[simp] theorem hK61 : hint61.keep = keep61 := rfl
@[simp] theorem hH61 : hint61.head = head61 := rfl
@[simp] theorem hB61 (t : Nat) : hint61.box t = ([] : List Nat).contains t := rfl
@[simp] theorem hD61 (t : Nat) : hint61.dies t = ([8, 17] : List Nat).contains t := rfl
@[simp] theorem ow61 : (hints 61).own = none := rfl
theorem hh61 : hints 61 = hint61 := rfl
@[simp] theorem hS61 (t : Nat) : hint61.soft t = [] := rfl
attribute [simp] keep62 head62
@[simp] theorem hK62 : hint62.keep = keep62 := rfl
@[simp] theorem hH62 : hint62.head = head62 := rfl
@[simp] theorem hB62 (t : Nat) : hint62.box t = ([2] : List Nat).contains t := rfl
@[simp] theorem hD62 (t : Nat) : hint62.dies t = ([] : List Nat).contains t := rfl
@[simp] theorem ow62 : (hints 62).own = none := rfl
theorem hh62 : hints 62 = hint62 := rfl
@[simp] theorem hS62 (t : Nat) : hint62.soft t = [] := rfl
attribute [simp] keep63 head63
@[simp] theorem hK63 : hint63.keep = keep63 := rfl
@[simp] theorem hH63 : hint63.head = head63 := rfl
@[simp] theorem hB63 (t : Nat) : hint63.box t = ([1] : List Nat).contains t := rfl
@[simp] theorem hD63 (t : Nat) : hint63.dies t = ([6] : List Nat).contains t := rfl
@[simp] theorem ow63 : (hints 63).own = none := rfl
theorem hh63 : hints 63 = hint63 := rfl
@[simp] theorem hS63 (t : Nat) : hint63.soft t = [] := rfl
attribute [simp] keep64 head64
@[simp] theorem hK64 : hint64.keep = keep64 := rfl
@[simp] theorem hH64 : hint64.head = head64 := rfl
@[simp] theorem hB64 (t : Nat) : hint64.box t = ([] : List Nat).contains t := rfl
@[simp] theorem hD64 (t : Nat) : hint64.dies t = ([13, 25] : List Nat).contains t := rfl
@[simp] theorem ow64 : (hints 64).own = none := rfl
theorem hh64 : hints 64 = hint64 := rfl
@[simp] theorem hS64 (t : Nat) : hint64.soft t = [] := rfl
attribute [simp] keep65 head65
@[simp] theorem hK65 : hint65.keep = keep65 := rfl
@[simp] theorem hH65 : hint65.head = head65 := rfl
@[simp] theorem hB65 (t : Nat) : hint65.box t = ([] : List Nat).contains t := rfl
@[simp] theorem hD65 (t : Nat) : hint65.dies t = ([5, 9, 13, 17, 21] : List Nat).contains t := rfl
@[simp] theorem ow65 : (hints 65).own = none := rfl
theorem hh65 : hints 65 = hint65 := rfl
@[simp] theorem hS65 (t : Nat) : hint65.soft t = [] := rfl
attribute [simp] keep66 head66
@[simp] theorem hK66 : hint66.keep = keep66 := rfl
@[simp] theorem hH66 : hint66.head = head66 := rfl
@[simp] theorem hB66 (t : Nat) : hint66.box t = ([] : List Nat).contains t := rfl
@[simp] theorem hD66 (t : Nat) : hint66.dies t = ([7] : List Nat).contains t := rfl
@[simp] theorem ow66 : (hints 66).own = none := rfl
theorem hh66 : hints 66 = hint66 := rfl
@[simp] theorem hS66 (t : Nat) : hint66.soft t = [] := rfl
attribute [simp] free66 pairs66
@[simp] theorem hF66 : hint66.free = free66 := rfl
@[simp] theorem hP66 : hint66.pairs = pairs66 := rfl
attribute [simp] keep67 head67
@[simp] theorem hK67 : hint67.keep = keep67 := rfl
@[simp] theorem hH67 : hint67.head = head67 := rfl
@[simp] theorem hB67 (t : Nat) : hint67.box t = ([] : List Nat).contains t := rfl
@[simp] theorem hD67 (t : Nat) : hint67.dies t = ([12] : List Nat).contains t := rfl
@[simp] theorem ow67 : (hints 67).own = none := rfl
theorem hh67 : hints 67 = hint67 := rfl
@[simp] theorem hS67 (t : Nat) : hint67.soft t = [] := rfl
attribute [simp] keep68 head68
@[simp] theorem hK68 : hint68.keep = keep68 := rfl
@[simp] theorem hH68 : hint68.head = head68 := rfl
@[simp] theorem hB68 (t : Nat) : hint68.box t = ([] : List Nat).contains t := rfl
@[simp] theorem hD68 (t : Nat) : hint68.dies t = ([5, 6] : List Nat).contains t := rfl
@[simp] theorem ow68 : (hints 68).own = none := rfl
theorem hh68 : hints 68 = hint68 := rfl
@[simp] theorem hS68 (t : Nat) : hint68.soft t = [] := rfl
attribute [simp] keep69 head69
@[simp] theorem hK69 : hint69.keep = keep69 := rfl
@[simp] theorem hH69 : hint69.head = head69 := rfl
@[simp] theorem hB69 (t : Nat) : hint69.box t = ([2, 4] : List Nat).contains t := rfl
@[simp] theorem hD69 (t : Nat) : hint69.dies t = ([6, 20] : List Nat).contains t := rfl
@[simp] theorem ow69 : (hints 69).own = none := rfl
theorem hh69 : hints 69 = hint69 := rfl
@[simp] theorem hS69 (t : Nat) : hint69.soft t = [] := rfl
attribute [simp] keep70 head70
@[simp] theorem hK70 : hint70.keep = keep70 := rfl
@[simp] theorem hH70 : hint70.head = head70 := rfl
@[simp] theorem hB70 (t : Nat) : hint70.box t = ([] : List Nat).contains t := rfl
@[simp] theorem hD70 (t : Nat) : hint70.dies t = ([7] : List Nat).contains t := rfl
@[simp] theorem ow70 : (hints 70).own = none := rfl
theorem hh70 : hints 70 = hint70 := rfl
@[simp] theorem hS70 (t : Nat) : hint70.soft t = [] := rfl
attribute [simp] free70 pairs70
@[simp] theorem hF70 : hint70.free = free70 := rfl
@[simp] theorem hP70 : hint70.pairs = pairs70 := rfl
attribute [simp] keep71 head71
@[simp] theorem hK71 : hint71.keep = keep71 := rfl
@[simp] theorem hH71 : hint71.head = head71 := rfl
@[simp] theorem hB71 (t : Nat) : hint71.box t = ([2, 3] : List Nat).contains t := rfl
@[simp] theorem hD71 (t : Nat) : hint71.dies t = ([11] : List Nat).contains t := rfl
@[simp] theorem ow71 : (hints 71).own = none := rfl
theorem hh71 : hints 71 = hint71 := rfl
@[simp] theorem hS71 (t : Nat) : hint71.soft t = [] := rfl
attribute [simp] keep72 head72
@[simp] theorem hK72 : hint72.keep = keep72 := rfl
@[simp] theorem hH72 : hint72.head = head72 := rfl
@[simp] theorem hB72 (t : Nat) : hint72.box t = ([] : List Nat).contains t := rfl
@[simp] theorem hD72 (t : Nat) : hint72.dies t = ([12] : List Nat).contains t := rfl
@[simp] theorem ow72 : (hints 72).own = none := rfl
theorem hh72 : hints 72 = hint72 := rfl
@[simp] theorem hS72 (t : Nat) : hint72.soft t = [] := rfl
attribute [simp] keep73 head73
@[simp] theorem hK73 : hint73.keep = keep73 := rfl
@[simp] theorem hH73 : hint73.head = head73 := rfl
@[simp] theorem hB73 (t : Nat) : hint73.box t = ([] : List Nat).contains t := rfl
@[simp] theorem hD73 (t : Nat) : hint73.dies t = ([5, 6] : List Nat).contains t := rfl
@[simp] theorem ow73 : (hints 73).own = none := rfl
theorem hh73 : hints 73 = hint73 := rfl
@[simp] theorem hS73 (t : Nat) : hint73.soft t = [] := rfl
attribute [simp] keep74 head74
@[simp] theorem hK74 : hint74.keep = keep74 := rfl
@[simp] theorem hH74 : hint74.head = head74 := rfl
@[simp] theorem hB74 (t : Nat) : hint74.box t = ([2, 4] : List Nat).contains t := rfl
@[simp] theorem hD74 (t : Nat) : hint74.dies t = ([6, 20, 21] : List Nat).contains t := rfl
@[simp] theorem ow74 : (hints 74).own = none := rfl
theorem hh74 : hints 74 = hint74 := rfl
@[simp] theorem hS74 (t : Nat) : hint74.soft t = [] := rfl
attribute [simp] keep75 head75
@[simp] theorem hK75 : hint75.keep = keep75 := rfl
@[simp] theorem hH75 : hint75.head = head75 := rfl
@[simp] theorem hB75 (t : Nat) : hint75.box t = ([2] : List Nat).contains t := rfl
@[simp] theorem hD75 (t : Nat) : hint75.dies t = ([] : List Nat).contains t := rfl
@[simp] theorem ow75 : (hints 75).own = none := rfl
theorem hh75 : hints 75 = hint75 := rfl
@[simp] theorem hS75 (t : Nat) : hint75.soft t = [] := rfl
attribute [simp] keep76 head76
@[simp] theorem hK76 : hint76.keep = keep76 := rfl
@[simp] theorem hH76 : hint76.head = head76 := rfl
@[simp] theorem hB76 (t : Nat) : hint76.box t = ([] : List Nat).contains t := rfl
@[simp] theorem hD76 (t : Nat) : hint76.dies t = ([8, 17] : List Nat).contains t := rfl
@[simp] theorem ow76 : (hints 76).own = none := rfl
theorem hh76 : hints 76 = hint76 := rfl
@[simp] theorem hS76 (t : Nat) : hint76.soft t = [] := rfl
attribute [simp] keep77 head77
@[simp] theorem hK77 : hint77.keep = keep77 := rfl
@[simp] theorem hH77 : hint77.head = head77 := rfl
@[simp] theorem hB77 (t : Nat) : hint77.box t = ([1] : List Nat).contains t := rfl
@[simp] theorem hD77 (t : Nat) : hint77.dies t = ([] : List Nat).contains t := rfl
@[simp] theorem ow77 : (hints 77).own = none := rfl
theorem hh77 : hints 77 = hint77 := rfl
@[simp] theorem hS77 (t : Nat) : hint77.soft t = [] := rfl
attribute [simp] keep78 head78
@[simp] theorem hK78 : hint78.keep = keep78 := rfl
@[simp] theorem hH78 : hint78.head = head78 := rfl
@[simp] theorem hB78 (t : Nat) : hint78.box t = ([] : List Nat).contains t := rfl
@[simp] theorem hD78 (t : Nat) : hint78.dies t = ([6] : List Nat).contains t := rfl
@[simp] theorem ow78 : (hints 78).own = none := rfl
theorem hh78 : hints 78 = hint78 := rfl
@[simp] theorem hS78 (t : Nat) : hint78.soft t = [] := rfl
attribute [simp] keep79 head79
@[simp] theorem hK79 : hint79.keep = keep79 := rfl
@[simp] theorem hH79 : hint79.head = head79 := rfl
@[simp] theorem hB79 (t : Nat) : hint79.box t = ([1] : List Nat).contains t := rfl
@[simp] theorem hD79 (t : Nat) : hint79.dies t = ([8, 22, 39, 50, 59] : List Nat).contains t := rfl
@[simp] theorem ow79 : (hints 79).own = none := rfl
theorem hh79 : hints 79 = hint79 := rfl
@[simp] theorem hS79 (t : Nat) : hint79.soft t = [] := rfl
attribute [simp] free79 pairs79
@[simp] theorem hF79 : hint79.free = free79 := rfl
@[simp] theorem hP79 : hint79.pairs = pairs79 := rfl
attribute [simp] keep80 head80
@[simp] theorem hK80 : hint80.keep = keep80 := rfl
@[simp] theorem hH80 : hint80.head = head80 := rfl
@[simp] theorem hB80 (t : Nat) : hint80.box t = ([] : List Nat).contains t := rfl
@[simp] theorem hD80 (t : Nat) : hint80.dies t = ([12, 15] : List Nat).contains t := rfl
@[simp] theorem ow80 : (hints 80).own = none := rfl
theorem hh80 : hints 80 = hint80 := rfl
@[simp] theorem hS80 (t : Nat) : hint80.soft t = [] := rfl
attribute [simp] keep81 head81
@[simp] theorem hK81 : hint81.keep = keep81 := rfl
@[simp] theorem hH81 : hint81.head = head81 := rfl
@[simp] theorem hB81 (t : Nat) : hint81.box t = ([] : List Nat).contains t := rfl
@[simp] theorem hD81 (t : Nat) : hint81.dies t = ([5, 6] : List Nat).contains t := rfl
@[simp] theorem ow81 : (hints 81).own = none := rfl
theorem hh81 : hints 81 = hint81 := rfl
@[simp] theorem hS81 (t : Nat) : hint81.soft t = [] := rfl
attribute [simp] keep82 head82
@[simp] theorem hK82 : hint82.keep = keep82 := rfl
@[simp] theorem hH82 : hint82.head = head82 := rfl
@[simp] theorem hB82 (t : Nat) : hint82.box t = ([2] : List Nat).contains t := rfl
@[simp] theorem hD82 (t : Nat) : hint82.dies t = ([6] : List Nat).contains t := rfl
@[simp] theorem ow82 : (hints 82).own = none := rfl
theorem hh82 : hints 82 = hint82 := rfl
@[simp] theorem hS82 (t : Nat) : hint82.soft t = [] := rfl
attribute [simp] keep83 head83
@[simp] theorem hK83 : hint83.keep = keep83 := rfl
@[simp] theorem hH83 : hint83.head = head83 := rfl
@[simp] theorem hB83 (t : Nat) : hint83.box t = ([2, 3, 5, 7] : List Nat).contains t := rfl
@[simp] theorem hD83 (t : Nat) : hint83.dies t = ([9, 23, 42, 49, 50, 52, 53] : List Nat).contains t := rfl
@[simp] theorem ow83 : (hints 83).own = none := rfl
theorem hh83 : hints 83 = hint83 := rfl
@[simp] theorem hS83 (t : Nat) : hint83.soft t = [] := rfl
attribute [simp] free83 pairs83
@[simp] theorem hF83 : hint83.free = free83 := rfl
@[simp] theorem hP83 : hint83.pairs = pairs83 := rfl
attribute [simp] keep84 head84
@[simp] theorem hK84 : hint84.keep = keep84 := rfl
@[simp] theorem hH84 : hint84.head = head84 := rfl
@[simp] theorem hB84 (t : Nat) : hint84.box t = ([] : List Nat).contains t := rfl
@[simp] theorem hD84 (t : Nat) : hint84.dies t = ([8, 17] : List Nat).contains t := rfl
@[simp] theorem ow84 : (hints 84).own = none := rfl
theorem hh84 : hints 84 = hint84 := rfl
@[simp] theorem hS84 (t : Nat) : hint84.soft t = [] := rfl
attribute [simp] keep85 head85
@[simp] theorem hK85 : hint85.keep = keep85 := rfl
@[simp] theorem hH85 : hint85.head = head85 := rfl
@[simp] theorem hB85 (t : Nat) : hint85.box t = ([] : List Nat).contains t := rfl
@[simp] theorem hD85 (t : Nat) : hint85.dies t = ([8, 17] : List Nat).contains t := rfl
@[simp] theorem ow85 : (hints 85).own = none := rfl
theorem hh85 : hints 85 = hint85 := rfl
@[simp] theorem hS85 (t : Nat) : hint85.soft t = [] := rfl
attribute [simp] keep86 head86
@[simp] theorem hK86 : hint86.keep = keep86 := rfl
@[simp] theorem hH86 : hint86.head = head86 := rfl
@[simp] theorem hB86 (t : Nat) : hint86.box t = ([4] : List Nat).contains t := rfl
@[simp] theorem hD86 (t : Nat) : hint86.dies t = ([6, 7] : List Nat).contains t := rfl
@[simp] theorem ow86 : (hints 86).own = none := rfl
theorem hh86 : hints 86 = hint86 := rfl
@[simp] theorem hS86 (t : Nat) : hint86.soft t = [] := rfl
theorem clone45 : CallSound Try.prog fun f args hp => if f = 45 then primCall (1, 4) args hp else none :=
  clone_sound tabs mixedC Try.func45 (by simp [Try.f45]) rfl rfl rfl Try.underlying70 sz73 ze73 rfl (fun m hm => by rw [fi73]; simp; omega)
theorem clone46 : CallSound Try.prog fun f args hp => if f = 46 then primCall (1, 3) args hp else none :=
  clone_sound tabs mixedC Try.func46 (by simp [Try.f46]) rfl rfl rfl Try.underlying48 sz90 ze90 rfl (fun m hm => by rw [fi90]; simp; omega)
theorem prims : PrimSound Try.prog hints := fun f k h => by
  unfold hints at h
  split at h <;> first | (cases h; done) | (cases h; exact clone45) | (cases h; exact clone46)
end Go.Proofs.Ytolhandckojljaa
