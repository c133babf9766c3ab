/-
  What the evaluator asks of the types of this program and of the hints, as rules.
-/
import Derived.Test.YtehemoachikpgaaHints
set_option linter.all false
namespace Go.Proofs.Ytehemoachikpgaa
open Go Go.PS
attribute [simp] Try.underlying1
@[simp] theorem sz1 : sizeT Try.prog 1 = 1 := by kernel_rfl
@[simp] theorem ag1 : isAggT Try.prog 1 = false := by kernel_rfl
@[simp] theorem in1 : (Try.prog.info? 1).isSome = true := by kernel_rfl
@[simp] theorem ze1 : zeroT Try.prog 1 = some [.raw .nilFunc] := by kernel_rfl
@[simp] theorem fi1 (m : Nat) : fits Try.prog 1 m = decide (m * 8 ≤ 140737488355328) := fits_at ze1 (by kernel_rfl) m
@[simp] theorem an1 (n : Int) : (Try.prog.info? 1).any (fun i => decide ((i.bytes : Int) * n ≤ 140737488355328)) = decide (8 * n ≤ 140737488355328) := any_at (by kernel_rfl) n
attribute [simp] Try.underlying2
@[simp] theorem sz2 : sizeT Try.prog 2 = 1 := by kernel_rfl
@[simp] theorem ag2 : isAggT Try.prog 2 = false := by kernel_rfl
@[simp] theorem in2 : (Try.prog.info? 2).isSome = true := by kernel_rfl
@[simp] theorem ze2 : zeroT Try.prog 2 = some [.int .i64 0] := by kernel_rfl
@[simp] theorem fi2 (m : Nat) : fits Try.prog 2 m = decide (m * 8 ≤ 140737488355328) := fits_at ze2 (by kernel_rfl) m
@[simp] theorem an2 (n : Int) : (Try.prog.info? 2).any (fun i => decide ((i.bytes : Int) * n ≤ 140737488355328)) = decide (8 * n ≤ 140737488355328) := any_at (by kernel_rfl) n
attribute [simp] Try.underlying3
@[simp] theorem sz3 : sizeT Try.prog 3 = 1 := by kernel_rfl
@[simp] theorem ag3 : isAggT Try.prog 3 = false := by kernel_rfl
@[simp] theorem in3 : (Try.prog.info? 3).isSome = true := by kernel_rfl
@[simp] theorem ze3 : zeroT Try.prog 3 = some [.int .i64 0] := by kernel_rfl
@[simp] theorem fi3 (m : Nat) : fits Try.prog 3 m = decide (m * 8 ≤ 140737488355328) := fits_at ze3 (by kernel_rfl) m
@[simp] theorem an3 (n : Int) : (Try.prog.info? 3).any (fun i => decide ((i.bytes : Int) * n ≤ 140737488355328)) = decide (8 * n ≤ 140737488355328) := any_at (by kernel_rfl) n
attribute [simp] Try.underlying4
@[simp] theorem sz4 : sizeT Try.prog 4 = 1 := by kernel_rfl
@[simp] theorem ag4 : isAggT Try.prog 4 = false := by kernel_rfl
@[simp] theorem in4 : (Try.prog.info? 4).isSome = true := by kernel_rfl
@[simp] theorem ze4 : zeroT Try.prog 4 = some [.bool false] := by kernel_rfl
@[simp] theorem fi4 (m : Nat) : fits Try.prog 4 m = decide (m * 1 ≤ 140737488355328) := fits_at ze4 (by kernel_rfl) m
@[simp] theorem an4 (n : Int) : (Try.prog.info? 4).any (fun i => decide ((i.bytes : Int) * n ≤ 140737488355328)) = decide (1 * n ≤ 140737488355328) := any_at (by kernel_rfl) n
attribute [simp] Try.underlying5
@[simp] theorem sz5 : sizeT Try.prog 5 = 1 := by kernel_rfl
@[simp] theorem ag5 : isAggT Try.prog 5 = false := by kernel_rfl
@[simp] theorem in5 : (Try.prog.info? 5).isSome = true := by kernel_rfl
@[simp] theorem ze5 : zeroT Try.prog 5 = some [.int .u8 0] := by kernel_rfl
@[simp] theorem fi5 (m : Nat) : fits Try.prog 5 m = decide (m * 1 ≤ 140737488355328) := fits_at ze5 (by kernel_rfl) m
@[simp] theorem an5 (n : Int) : (Try.prog.info? 5).any (fun i => decide ((i.bytes : Int) * n ≤ 140737488355328)) = decide (1 * n ≤ 140737488355328) := any_at (by kernel_rfl) n
attribute [simp] Try.underlying6
@[simp] theorem sz6 : sizeT Try.prog 6 = 1 := by kernel_rfl
@[simp] theorem ag6 : isAggT Try.prog 6 = false := by kernel_rfl
@[simp] theorem in6 : (Try.prog.info? 6).isSome = true := by kernel_rfl
@[simp] theorem ze6 : zeroT Try.prog 6 = some [.int .u8 0] := by kernel_rfl
@[simp] theorem fi6 (m : Nat) : fits Try.prog 6 m = decide (m * 1 ≤ 140737488355328) := fits_at ze6 (by kernel_rfl) m
@[simp] theorem an6 (n : Int) : (Try.prog.info? 6).any (fun i => decide ((i.bytes : Int) * n ≤ 140737488355328)) = decide (1 * n ≤ 140737488355328) := any_at (by kernel_rfl) n
attribute [simp] Try.underlying7
@[simp] theorem sz7 : sizeT Try.prog 7 = 4 := by kernel_rfl
@[simp] theorem ag7 : isAggT Try.prog 7 = true := by kernel_rfl
@[simp] theorem in7 : (Try.prog.info? 7).isSome = true := by kernel_rfl
@[simp] theorem ze7 : zeroT Try.prog 7 = some [.int .i64 0, .int .i64 0, .bool false, .int .u8 0] := by kernel_rfl
@[simp] theorem fi7 (m : Nat) : fits Try.prog 7 m = decide (m * 24 ≤ 140737488355328) := fits_at ze7 (by kernel_rfl) m
@[simp] theorem an7 (n : Int) : (Try.prog.info? 7).any (fun i => decide ((i.bytes : Int) * n ≤ 140737488355328)) = decide (24 * n ≤ 140737488355328) := any_at (by kernel_rfl) n
attribute [simp] Try.underlying8
@[simp] theorem sz8 : sizeT Try.prog 8 = 4 := by kernel_rfl
@[simp] theorem ag8 : isAggT Try.prog 8 = true := by kernel_rfl
@[simp] theorem in8 : (Try.prog.info? 8).isSome = true := by kernel_rfl
@[simp] theorem ze8 : zeroT Try.prog 8 = some [.int .i64 0, .int .i64 0, .bool false, .int .u8 0] := by kernel_rfl
@[simp] theorem fi8 (m : Nat) : fits Try.prog 8 m = decide (m * 24 ≤ 140737488355328) := fits_at ze8 (by kernel_rfl) m
@[simp] theorem an8 (n : Int) : (Try.prog.info? 8).any (fun i => decide ((i.bytes : Int) * n ≤ 140737488355328)) = decide (24 * n ≤ 140737488355328) := any_at (by kernel_rfl) n
attribute [simp] Try.underlying9
@[simp] theorem sz9 : sizeT Try.prog 9 = 1 := by kernel_rfl
@[simp] theorem ag9 : isAggT Try.prog 9 = false := by kernel_rfl
@[simp] theorem in9 : (Try.prog.info? 9).isSome = true := by kernel_rfl
@[simp] theorem ze9 : zeroT Try.prog 9 = some [.str []] := by kernel_rfl
@[simp] theorem fi9 (m : Nat) : fits Try.prog 9 m = decide (m * 16 ≤ 140737488355328) := fits_at ze9 (by kernel_rfl) m
@[simp] theorem an9 (n : Int) : (Try.prog.info? 9).any (fun i => decide ((i.bytes : Int) * n ≤ 140737488355328)) = decide (16 * n ≤ 140737488355328) := any_at (by kernel_rfl) n
attribute [simp] Try.underlying10
@[simp] theorem sz10 : sizeT Try.prog 10 = 1 := by kernel_rfl
@[simp] theorem ag10 : isAggT Try.prog 10 = false := by kernel_rfl
@[simp] theorem in10 : (Try.prog.info? 10).isSome = true := by kernel_rfl
@[simp] theorem ze10 : zeroT Try.prog 10 = some [.str []] := by kernel_rfl
@[simp] theorem fi10 (m : Nat) : fits Try.prog 10 m = decide (m * 16 ≤ 140737488355328) := fits_at ze10 (by kernel_rfl) m
@[simp] theorem an10 (n : Int) : (Try.prog.info? 10).any (fun i => decide ((i.bytes : Int) * n ≤ 140737488355328)) = decide (16 * n ≤ 140737488355328) := any_at (by kernel_rfl) n
attribute [simp] Try.underlying11
@[simp] theorem sz11 : sizeT Try.prog 11 = 1 := by kernel_rfl
@[simp] theorem ag11 : isAggT Try.prog 11 = false := by kernel_rfl
@[simp] theorem in11 : (Try.prog.info? 11).isSome = true := by kernel_rfl
@[simp] theorem ze11 : zeroT Try.prog 11 = some [.str []] := by kernel_rfl
@[simp] theorem fi11 (m : Nat) : fits Try.prog 11 m = decide (m * 16 ≤ 140737488355328) := fits_at ze11 (by kernel_rfl) m
@[simp] theorem an11 (n : Int) : (Try.prog.info? 11).any (fun i => decide ((i.bytes : Int) * n ≤ 140737488355328)) = decide (16 * n ≤ 140737488355328) := any_at (by kernel_rfl) n
attribute [simp] Try.underlying12
@[simp] theorem sz12 : sizeT Try.prog 12 = 1 := by kernel_rfl
@[simp] theorem ag12 : isAggT Try.prog 12 = false := by kernel_rfl
@[simp] theorem in12 : (Try.prog.info? 12).isSome = true := by kernel_rfl
@[simp] theorem ze12 : zeroT Try.prog 12 = some [.int .u64 0] := by kernel_rfl
@[simp] theorem fi12 (m : Nat) : fits Try.prog 12 m = decide (m * 8 ≤ 140737488355328) := fits_at ze12 (by kernel_rfl) m
@[simp] theorem an12 (n : Int) : (Try.prog.info? 12).any (fun i => decide ((i.bytes : Int) * n ≤ 140737488355328)) = decide (8 * n ≤ 140737488355328) := any_at (by kernel_rfl) n
attribute [simp] Try.underlying13
@[simp] theorem sz13 : sizeT Try.prog 13 = 2 := by kernel_rfl
@[simp] theorem ag13 : isAggT Try.prog 13 = true := by kernel_rfl
@[simp] theorem in13 : (Try.prog.info? 13).isSome = true := by kernel_rfl
@[simp] theorem ze13 : zeroT Try.prog 13 = some [.str [], .int .u64 0] := by kernel_rfl
@[simp] theorem fi13 (m : Nat) : fits Try.prog 13 m = decide (m * 24 ≤ 140737488355328) := fits_at ze13 (by kernel_rfl) m
@[simp] theorem an13 (n : Int) : (Try.prog.info? 13).any (fun i => decide ((i.bytes : Int) * n ≤ 140737488355328)) = decide (24 * n ≤ 140737488355328) := any_at (by kernel_rfl) n
attribute [simp] Try.underlying14
@[simp] theorem sz14 : sizeT Try.prog 14 = 2 := by kernel_rfl
@[simp] theorem ag14 : isAggT Try.prog 14 = true := by kernel_rfl
@[simp] theorem in14 : (Try.prog.info? 14).isSome = true := by kernel_rfl
@[simp] theorem ze14 : zeroT Try.prog 14 = some [.str [], .int .u64 0] := by kernel_rfl
@[simp] theorem fi14 (m : Nat) : fits Try.prog 14 m = decide (m * 24 ≤ 140737488355328) := fits_at ze14 (by kernel_rfl) m
@[simp] theorem an14 (n : Int) : (Try.prog.info? 14).any (fun i => decide ((i.bytes : Int) * n ≤ 140737488355328)) = decide (24 * n ≤ 140737488355328) := any_at (by kernel_rfl) n
attribute [simp] Try.underlying15
@[simp] theorem sz15 : sizeT Try.prog 15 = 1 := by kernel_rfl
@[simp] theorem ag15 : isAggT Try.prog 15 = false := by kernel_rfl
@[simp] theorem in15 : (Try.prog.info? 15).isSome = true := by kernel_rfl
@[simp] theorem ze15 : zeroT Try.prog 15 = some [.nilp] := by kernel_rfl
@[simp] theorem fi15 (m : Nat) : fits Try.prog 15 m = decide (m * 8 ≤ 140737488355328) := fits_at ze15 (by kernel_rfl) m
@[simp] theorem an15 (n : Int) : (Try.prog.info? 15).any (fun i => decide ((i.bytes : Int) * n ≤ 140737488355328)) = decide (8 * n ≤ 140737488355328) := any_at (by kernel_rfl) n
attribute [simp] Try.underlying16
@[simp] theorem sz16 : sizeT Try.prog 16 = 1 := by kernel_rfl
@[simp] theorem ag16 : isAggT Try.prog 16 = false := by kernel_rfl
@[simp] theorem in16 : (Try.prog.info? 16).isSome = true := by kernel_rfl
@[simp] theorem ze16 : zeroT Try.prog 16 = some [.nilp] := by kernel_rfl
@[simp] theorem fi16 (m : Nat) : fits Try.prog 16 m = decide (m * 8 ≤ 140737488355328) := fits_at ze16 (by kernel_rfl) m
@[simp] theorem an16 (n : Int) : (Try.prog.info? 16).any (fun i => decide ((i.bytes : Int) * n ≤ 140737488355328)) = decide (8 * n ≤ 140737488355328) := any_at (by kernel_rfl) n
attribute [simp] Try.underlying17
@[simp] theorem sz17 : sizeT Try.prog 17 = 1 := by kernel_rfl
@[simp] theorem ag17 : isAggT Try.prog 17 = false := by kernel_rfl
@[simp] theorem in17 : (Try.prog.info? 17).isSome = true := by kernel_rfl
@[simp] theorem ze17 : zeroT Try.prog 17 = some [.nilp] := by kernel_rfl
@[simp] theorem fi17 (m : Nat) : fits Try.prog 17 m = decide (m * 8 ≤ 140737488355328) := fits_at ze17 (by kernel_rfl) m
@[simp] theorem an17 (n : Int) : (Try.prog.info? 17).any (fun i => decide ((i.bytes : Int) * n ≤ 140737488355328)) = decide (8 * n ≤ 140737488355328) := any_at (by kernel_rfl) n
attribute [simp] Try.underlying18
@[simp] theorem sz18 : sizeT Try.prog 18 = 1 := by kernel_rfl
@[simp] theorem ag18 : isAggT Try.prog 18 = true := by kernel_rfl
@[simp] theorem in18 : (Try.prog.info? 18).isSome = true := by kernel_rfl
@[simp] theorem ze18 : zeroT Try.prog 18 = some [.nilp] := by kernel_rfl
@[simp] theorem fi18 (m : Nat) : fits Try.prog 18 m = decide (m * 8 ≤ 140737488355328) := fits_at ze18 (by kernel_rfl) m
@[simp] theorem an18 (n : Int) : (Try.prog.info? 18).any (fun i => decide ((i.bytes : Int) * n ≤ 140737488355328)) = decide (8 * n ≤ 140737488355328) := any_at (by kernel_rfl) n
attribute [simp] Try.underlying19
@[simp] theorem sz19 : sizeT Try.prog 19 = 1 := by kernel_rfl
@[simp] theorem ag19 : isAggT Try.prog 19 = true := by kernel_rfl
@[simp] theorem in19 : (Try.prog.info? 19).isSome = true := by kernel_rfl
@[simp] theorem ze19 : zeroT Try.prog 19 = some [.nilp] := by kernel_rfl
@[simp] theorem fi19 (m : Nat) : fits Try.prog 19 m = decide (m * 8 ≤ 140737488355328) := fits_at ze19 (by kernel_rfl) m
@[simp] theorem an19 (n : Int) : (Try.prog.info? 19).any (fun i => decide ((i.bytes : Int) * n ≤ 140737488355328)) = decide (8 * n ≤ 140737488355328) := any_at (by kernel_rfl) n
attribute [simp] Try.underlying20
@[simp] theorem sz20 : sizeT Try.prog 20 = 1 := by kernel_rfl
@[simp] theorem ag20 : isAggT Try.prog 20 = false := by kernel_rfl
@[simp] theorem in20 : (Try.prog.info? 20).isSome = true := by kernel_rfl
@[simp] theorem ze20 : zeroT Try.prog 20 = some [.raw .nilIface] := by kernel_rfl
@[simp] theorem fi20 (m : Nat) : fits Try.prog 20 m = decide (m * 16 ≤ 140737488355328) := fits_at ze20 (by kernel_rfl) m
@[simp] theorem an20 (n : Int) : (Try.prog.info? 20).any (fun i => decide ((i.bytes : Int) * n ≤ 140737488355328)) = decide (16 * n ≤ 140737488355328) := any_at (by kernel_rfl) n
attribute [simp] Try.underlying21
@[simp] theorem sz21 : sizeT Try.prog 21 = 1 := by kernel_rfl
@[simp] theorem ag21 : isAggT Try.prog 21 = false := by kernel_rfl
@[simp] theorem in21 : (Try.prog.info? 21).isSome = true := by kernel_rfl
@[simp] theorem ze21 : zeroT Try.prog 21 = some [.int .i32 0] := by kernel_rfl
@[simp] theorem fi21 (m : Nat) : fits Try.prog 21 m = decide (m * 4 ≤ 140737488355328) := fits_at ze21 (by kernel_rfl) m
@[simp] theorem an21 (n : Int) : (Try.prog.info? 21).any (fun i => decide ((i.bytes : Int) * n ≤ 140737488355328)) = decide (4 * n ≤ 140737488355328) := any_at (by kernel_rfl) n
attribute [simp] Try.underlying22
@[simp] theorem sz22 : sizeT Try.prog 22 = 1 := by kernel_rfl
@[simp] theorem ag22 : isAggT Try.prog 22 = false := by kernel_rfl
@[simp] theorem in22 : (Try.prog.info? 22).isSome = true := by kernel_rfl
@[simp] theorem ze22 : zeroT Try.prog 22 = some [.nilp] := by kernel_rfl
@[simp] theorem fi22 (m : Nat) : fits Try.prog 22 m = decide (m * 8 ≤ 140737488355328) := fits_at ze22 (by kernel_rfl) m
@[simp] theorem an22 (n : Int) : (Try.prog.info? 22).any (fun i => decide ((i.bytes : Int) * n ≤ 140737488355328)) = decide (8 * n ≤ 140737488355328) := any_at (by kernel_rfl) n
attribute [simp] Try.underlying23
@[simp] theorem sz23 : sizeT Try.prog 23 = 3 := by kernel_rfl
@[simp] theorem ag23 : isAggT Try.prog 23 = true := by kernel_rfl
@[simp] theorem in23 : (Try.prog.info? 23).isSome = true := by kernel_rfl
@[simp] theorem ze23 : zeroT Try.prog 23 = some [.int .i64 0, .int .i64 0, .int .i64 0] := by kernel_rfl
@[simp] theorem fi23 (m : Nat) : fits Try.prog 23 m = decide (m * 24 ≤ 140737488355328) := fits_at ze23 (by kernel_rfl) m
@[simp] theorem an23 (n : Int) : (Try.prog.info? 23).any (fun i => decide ((i.bytes : Int) * n ≤ 140737488355328)) = decide (24 * n ≤ 140737488355328) := any_at (by kernel_rfl) n
attribute [simp] Try.underlying24
@[simp] theorem sz24 : sizeT Try.prog 24 = 3 := by kernel_rfl
@[simp] theorem ag24 : isAggT Try.prog 24 = true := by kernel_rfl
@[simp] theorem in24 : (Try.prog.info? 24).isSome = true := by kernel_rfl
@[simp] theorem ze24 : zeroT Try.prog 24 = some [.int .i64 0, .int .i64 0, .int .i64 0] := by kernel_rfl
@[simp] theorem fi24 (m : Nat) : fits Try.prog 24 m = decide (m * 24 ≤ 140737488355328) := fits_at ze24 (by kernel_rfl) m
@[simp] theorem an24 (n : Int) : (Try.prog.info? 24).any (fun i => decide ((i.bytes : Int) * n ≤ 140737488355328)) = decide (24 * n ≤ 140737488355328) := any_at (by kernel_rfl) n
attribute [simp] Try.underlying25
@[simp] theorem sz25 : sizeT Try.prog 25 = 1 := by kernel_rfl
@[simp] theorem ag25 : isAggT Try.prog 25 = false := by kernel_rfl
@[simp] theorem in25 : (Try.prog.info? 25).isSome = true := by kernel_rfl
@[simp] theorem ze25 : zeroT Try.prog 25 = some [.int .i64 0] := by kernel_rfl
@[simp] theorem fi25 (m : Nat) : fits Try.prog 25 m = decide (m * 8 ≤ 140737488355328) := fits_at ze25 (by kernel_rfl) m
@[simp] theorem an25 (n : Int) : (Try.prog.info? 25).any (fun i => decide ((i.bytes : Int) * n ≤ 140737488355328)) = decide (8 * n ≤ 140737488355328) := any_at (by kernel_rfl) n
attribute [simp] Try.underlying27
@[simp] theorem sz27 : sizeT Try.prog 27 = 1 := by kernel_rfl
@[simp] theorem ag27 : isAggT Try.prog 27 = false := by kernel_rfl
@[simp] theorem in27 : (Try.prog.info? 27).isSome = true := by kernel_rfl
@[simp] theorem ze27 : zeroT Try.prog 27 = some [.raw .nilFunc] := by kernel_rfl
@[simp] theorem fi27 (m : Nat) : fits Try.prog 27 m = decide (m * 8 ≤ 140737488355328) := fits_at ze27 (by kernel_rfl) m
@[simp] theorem an27 (n : Int) : (Try.prog.info? 27).any (fun i => decide ((i.bytes : Int) * n ≤ 140737488355328)) = decide (8 * n ≤ 140737488355328) := any_at (by kernel_rfl) n
attribute [simp] Try.underlying29
@[simp] theorem sz29 : sizeT Try.prog 29 = 1 := by kernel_rfl
@[simp] theorem ag29 : isAggT Try.prog 29 = false := by kernel_rfl
@[simp] theorem in29 : (Try.prog.info? 29).isSome = true := by kernel_rfl
@[simp] theorem ze29 : zeroT Try.prog 29 = some [.raw .nilFunc] := by kernel_rfl
@[simp] theorem fi29 (m : Nat) : fits Try.prog 29 m = decide (m * 8 ≤ 140737488355328) := fits_at ze29 (by kernel_rfl) m
@[simp] theorem an29 (n : Int) : (Try.prog.info? 29).any (fun i => decide ((i.bytes : Int) * n ≤ 140737488355328)) = decide (8 * n ≤ 140737488355328) := any_at (by kernel_rfl) n
attribute [simp] Try.underlying31
@[simp] theorem sz31 : sizeT Try.prog 31 = 1 := by kernel_rfl
@[simp] theorem ag31 : isAggT Try.prog 31 = false := by kernel_rfl
@[simp] theorem in31 : (Try.prog.info? 31).isSome = true := by kernel_rfl
@[simp] theorem ze31 : zeroT Try.prog 31 = some [.raw .nilFunc] := by kernel_rfl
@[simp] theorem fi31 (m : Nat) : fits Try.prog 31 m = decide (m * 8 ≤ 140737488355328) := fits_at ze31 (by kernel_rfl) m
@[simp] theorem an31 (n : Int) : (Try.prog.info? 31).any (fun i => decide ((i.bytes : Int) * n ≤ 140737488355328)) = decide (8 * n ≤ 140737488355328) := any_at (by kernel_rfl) n
attribute [simp] Try.underlying32
@[simp] theorem sz32 : sizeT Try.prog 32 = 1 := by kernel_rfl
@[simp] theorem ag32 : isAggT Try.prog 32 = false := by kernel_rfl
@[simp] theorem in32 : (Try.prog.info? 32).isSome = true := by kernel_rfl
@[simp] theorem ze32 : zeroT Try.prog 32 = some [.raw .nilFunc] := by kernel_rfl
@[simp] theorem fi32 (m : Nat) : fits Try.prog 32 m = decide (m * 8 ≤ 140737488355328) := fits_at ze32 (by kernel_rfl) m
@[simp] theorem an32 (n : Int) : (Try.prog.info? 32).any (fun i => decide ((i.bytes : Int) * n ≤ 140737488355328)) = decide (8 * n ≤ 140737488355328) := any_at (by kernel_rfl) n
attribute [simp] Try.underlying33
@[simp] theorem sz33 : sizeT Try.prog 33 = 1 := by kernel_rfl
@[simp] theorem ag33 : isAggT Try.prog 33 = false := by kernel_rfl
@[simp] theorem in33 : (Try.prog.info? 33).isSome = true := by kernel_rfl
@[simp] theorem el33 : elemT Try.prog 33 = some 24 := by kernel_rfl
@[simp] theorem ze33 : zeroT Try.prog 33 = some [.sl (.mu 0) 0 []] := by kernel_rfl
@[simp] theorem fi33 (m : Nat) : fits Try.prog 33 m = decide (m * 24 ≤ 140737488355328) := fits_at ze33 (by kernel_rfl) m
@[simp] theorem an33 (n : Int) : (Try.prog.info? 33).any (fun i => decide ((i.bytes : Int) * n ≤ 140737488355328)) = decide (24 * n ≤ 140737488355328) := any_at (by kernel_rfl) n
attribute [simp] Try.underlying34
@[simp] theorem sz34 : sizeT Try.prog 34 = 1 := by kernel_rfl
@[simp] theorem ag34 : isAggT Try.prog 34 = false := by kernel_rfl
@[simp] theorem in34 : (Try.prog.info? 34).isSome = true := by kernel_rfl
@[simp] theorem ze34 : zeroT Try.prog 34 = some [.raw .nilFunc] := by kernel_rfl
@[simp] theorem fi34 (m : Nat) : fits Try.prog 34 m = decide (m * 8 ≤ 140737488355328) := fits_at ze34 (by kernel_rfl) m
@[simp] theorem an34 (n : Int) : (Try.prog.info? 34).any (fun i => decide ((i.bytes : Int) * n ≤ 140737488355328)) = decide (8 * n ≤ 140737488355328) := any_at (by kernel_rfl) n
attribute [simp] Try.underlying35
@[simp] theorem sz35 : sizeT Try.prog 35 = 2 := by kernel_rfl
@[simp] theorem ag35 : isAggT Try.prog 35 = true := by kernel_rfl
@[simp] theorem in35 : (Try.prog.info? 35).isSome = true := by kernel_rfl
@[simp] theorem ze35 : zeroT Try.prog 35 = some [.int .i64 0, .int .i64 0] := by kernel_rfl
@[simp] theorem fi35 (m : Nat) : fits Try.prog 35 m = decide (m * 16 ≤ 140737488355328) := fits_at ze35 (by kernel_rfl) m
@[simp] theorem an35 (n : Int) : (Try.prog.info? 35).any (fun i => decide ((i.bytes : Int) * n ≤ 140737488355328)) = decide (16 * n ≤ 140737488355328) := any_at (by kernel_rfl) n
attribute [simp] Try.underlying36
@[simp] theorem sz36 : sizeT Try.prog 36 = 2 := by kernel_rfl
@[simp] theorem ag36 : isAggT Try.prog 36 = true := by kernel_rfl
@[simp] theorem in36 : (Try.prog.info? 36).isSome = true := by kernel_rfl
@[simp] theorem ze36 : zeroT Try.prog 36 = some [.int .i64 0, .int .i64 0] := by kernel_rfl
@[simp] theorem fi36 (m : Nat) : fits Try.prog 36 m = decide (m * 16 ≤ 140737488355328) := fits_at ze36 (by kernel_rfl) m
@[simp] theorem an36 (n : Int) : (Try.prog.info? 36).any (fun i => decide ((i.bytes : Int) * n ≤ 140737488355328)) = decide (16 * n ≤ 140737488355328) := any_at (by kernel_rfl) n
attribute [simp] Try.underlying37
@[simp] theorem sz37 : sizeT Try.prog 37 = 1 := by kernel_rfl
@[simp] theorem ag37 : isAggT Try.prog 37 = false := by kernel_rfl
@[simp] theorem in37 : (Try.prog.info? 37).isSome = true := by kernel_rfl
@[simp] theorem ze37 : zeroT Try.prog 37 = some [.raw .nilFunc] := by kernel_rfl
@[simp] theorem fi37 (m : Nat) : fits Try.prog 37 m = decide (m * 8 ≤ 140737488355328) := fits_at ze37 (by kernel_rfl) m
@[simp] theorem an37 (n : Int) : (Try.prog.info? 37).any (fun i => decide ((i.bytes : Int) * n ≤ 140737488355328)) = decide (8 * n ≤ 140737488355328) := any_at (by kernel_rfl) n
attribute [simp] Try.underlying38
@[simp] theorem sz38 : sizeT Try.prog 38 = 1 := by kernel_rfl
@[simp] theorem ag38 : isAggT Try.prog 38 = false := by kernel_rfl
@[simp] theorem in38 : (Try.prog.info? 38).isSome = true := by kernel_rfl
@[simp] theorem ze38 : zeroT Try.prog 38 = some [.raw .nilFunc] := by kernel_rfl
@[simp] theorem fi38 (m : Nat) : fits Try.prog 38 m = decide (m * 8 ≤ 140737488355328) := fits_at ze38 (by kernel_rfl) m
@[simp] theorem an38 (n : Int) : (Try.prog.info? 38).any (fun i => decide ((i.bytes : Int) * n ≤ 140737488355328)) = decide (8 * n ≤ 140737488355328) := any_at (by kernel_rfl) n
attribute [simp] Try.underlying40
@[simp] theorem sz40 : sizeT Try.prog 40 = 1 := by kernel_rfl
@[simp] theorem ag40 : isAggT Try.prog 40 = false := by kernel_rfl
@[simp] theorem in40 : (Try.prog.info? 40).isSome = true := by kernel_rfl
@[simp] theorem ze40 : zeroT Try.prog 40 = some [.raw .nilFunc] := by kernel_rfl
@[simp] theorem fi40 (m : Nat) : fits Try.prog 40 m = decide (m * 8 ≤ 140737488355328) := fits_at ze40 (by kernel_rfl) m
@[simp] theorem an40 (n : Int) : (Try.prog.info? 40).any (fun i => decide ((i.bytes : Int) * n ≤ 140737488355328)) = decide (8 * n ≤ 140737488355328) := any_at (by kernel_rfl) n
attribute [simp] Try.underlying41
@[simp] theorem sz41 : sizeT Try.prog 41 = 1 := by kernel_rfl
@[simp] theorem ag41 : isAggT Try.prog 41 = false := by kernel_rfl
@[simp] theorem in41 : (Try.prog.info? 41).isSome = true := by kernel_rfl
@[simp] theorem ze41 : zeroT Try.prog 41 = some [.raw .nilFunc] := by kernel_rfl
@[simp] theorem fi41 (m : Nat) : fits Try.prog 41 m = decide (m * 8 ≤ 140737488355328) := fits_at ze41 (by kernel_rfl) m
@[simp] theorem an41 (n : Int) : (Try.prog.info? 41).any (fun i => decide ((i.bytes : Int) * n ≤ 140737488355328)) = decide (8 * n ≤ 140737488355328) := any_at (by kernel_rfl) n
attribute [simp] Try.underlying42
@[simp] theorem sz42 : sizeT Try.prog 42 = 1 := by kernel_rfl
@[simp] theorem ag42 : isAggT Try.prog 42 = false := by kernel_rfl
@[simp] theorem in42 : (Try.prog.info? 42).isSome = true := by kernel_rfl
@[simp] theorem ze42 : zeroT Try.prog 42 = some [.raw .nilFunc] := by kernel_rfl
@[simp] theorem fi42 (m : Nat) : fits Try.prog 42 m = decide (m * 8 ≤ 140737488355328) := fits_at ze42 (by kernel_rfl) m
@[simp] theorem an42 (n : Int) : (Try.prog.info? 42).any (fun i => decide ((i.bytes : Int) * n ≤ 140737488355328)) = decide (8 * n ≤ 140737488355328) := any_at (by kernel_rfl) n
attribute [simp] Try.underlying43
@[simp] theorem sz43 : sizeT Try.prog 43 = 1 := by kernel_rfl
@[simp] theorem ag43 : isAggT Try.prog 43 = false := by kernel_rfl
@[simp] theorem in43 : (Try.prog.info? 43).isSome = true := by kernel_rfl
@[simp] theorem ze43 : zeroT Try.prog 43 = some [.raw .nilFunc] := by kernel_rfl
@[simp] theorem fi43 (m : Nat) : fits Try.prog 43 m = decide (m * 8 ≤ 140737488355328) := fits_at ze43 (by kernel_rfl) m
@[simp] theorem an43 (n : Int) : (Try.prog.info? 43).any (fun i => decide ((i.bytes : Int) * n ≤ 140737488355328)) = decide (8 * n ≤ 140737488355328) := any_at (by kernel_rfl) n
attribute [simp] Try.underlying44
@[simp] theorem sz44 : sizeT Try.prog 44 = 1 := by kernel_rfl
@[simp] theorem ag44 : isAggT Try.prog 44 = false := by kernel_rfl
@[simp] theorem in44 : (Try.prog.info? 44).isSome = true := by kernel_rfl
@[simp] theorem ze44 : zeroT Try.prog 44 = some [.raw .nilFunc] := by kernel_rfl
@[simp] theorem fi44 (m : Nat) : fits Try.prog 44 m = decide (m * 8 ≤ 140737488355328) := fits_at ze44 (by kernel_rfl) m
@[simp] theorem an44 (n : Int) : (Try.prog.info? 44).any (fun i => decide ((i.bytes : Int) * n ≤ 140737488355328)) = decide (8 * n ≤ 140737488355328) := any_at (by kernel_rfl) n
attribute [simp] Try.underlying45
@[simp] theorem sz45 : sizeT Try.prog 45 = 1 := by kernel_rfl
@[simp] theorem ag45 : isAggT Try.prog 45 = false := by kernel_rfl
@[simp] theorem in45 : (Try.prog.info? 45).isSome = true := by kernel_rfl
@[simp] theorem ze45 : zeroT Try.prog 45 = some [.raw .nilFunc] := by kernel_rfl
@[simp] theorem fi45 (m : Nat) : fits Try.prog 45 m = decide (m * 8 ≤ 140737488355328) := fits_at ze45 (by kernel_rfl) m
@[simp] theorem an45 (n : Int) : (Try.prog.info? 45).any (fun i => decide ((i.bytes : Int) * n ≤ 140737488355328)) = decide (8 * n ≤ 140737488355328) := any_at (by kernel_rfl) n
attribute [simp] Try.underlying46
@[simp] theorem sz46 : sizeT Try.prog 46 = 1 := by kernel_rfl
@[simp] theorem ag46 : isAggT Try.prog 46 = false := by kernel_rfl
@[simp] theorem in46 : (Try.prog.info? 46).isSome = true := by kernel_rfl
@[simp] theorem ze46 : zeroT Try.prog 46 = some [.raw .nilFunc] := by kernel_rfl
@[simp] theorem fi46 (m : Nat) : fits Try.prog 46 m = decide (m * 8 ≤ 140737488355328) := fits_at ze46 (by kernel_rfl) m
@[simp] theorem an46 (n : Int) : (Try.prog.info? 46).any (fun i => decide ((i.bytes : Int) * n ≤ 140737488355328)) = decide (8 * n ≤ 140737488355328) := any_at (by kernel_rfl) n
attribute [simp] Try.underlying47
@[simp] theorem sz47 : sizeT Try.prog 47 = 1 := by kernel_rfl
@[simp] theorem ag47 : isAggT Try.prog 47 = false := by kernel_rfl
@[simp] theorem in47 : (Try.prog.info? 47).isSome = true := by kernel_rfl
@[simp] theorem ze47 : zeroT Try.prog 47 = some [.raw .nilFunc] := by kernel_rfl
@[simp] theorem fi47 (m : Nat) : fits Try.prog 47 m = decide (m * 8 ≤ 140737488355328) := fits_at ze47 (by kernel_rfl) m
@[simp] theorem an47 (n : Int) : (Try.prog.info? 47).any (fun i => decide ((i.bytes : Int) * n ≤ 140737488355328)) = decide (8 * n ≤ 140737488355328) := any_at (by kernel_rfl) n
attribute [simp] Try.underlying48
@[simp] theorem sz48 : sizeT Try.prog 48 = 1 := by kernel_rfl
@[simp] theorem ag48 : isAggT Try.prog 48 = false := by kernel_rfl
@[simp] theorem in48 : (Try.prog.info? 48).isSome = true := by kernel_rfl
@[simp] theorem ze48 : zeroT Try.prog 48 = some [.raw .nilFunc] := by kernel_rfl
@[simp] theorem fi48 (m : Nat) : fits Try.prog 48 m = decide (m * 8 ≤ 140737488355328) := fits_at ze48 (by kernel_rfl) m
@[simp] theorem an48 (n : Int) : (Try.prog.info? 48).any (fun i => decide ((i.bytes : Int) * n ≤ 140737488355328)) = decide (8 * n ≤ 140737488355328) := any_at (by kernel_rfl) n
attribute [simp] Try.underlying49
@[simp] theorem sz49 : sizeT Try.prog 49 = 1 := by kernel_rfl
@[simp] theorem ag49 : isAggT Try.prog 49 = false := by kernel_rfl
@[simp] theorem in49 : (Try.prog.info? 49).isSome = true := by kernel_rfl
@[simp] theorem el49 : elemT Try.prog 49 = some 63 := by kernel_rfl
@[simp] theorem ze49 : zeroT Try.prog 49 = some [.sl (.mu 0) 0 []] := by kernel_rfl
@[simp] theorem fi49 (m : Nat) : fits Try.prog 49 m = decide (m * 24 ≤ 140737488355328) := fits_at ze49 (by kernel_rfl) m
@[simp] theorem an49 (n : Int) : (Try.prog.info? 49).any (fun i => decide ((i.bytes : Int) * n ≤ 140737488355328)) = decide (24 * n ≤ 140737488355328) := any_at (by kernel_rfl) n
attribute [simp] Try.underlying50
@[simp] theorem sz50 : sizeT Try.prog 50 = 1 := by kernel_rfl
@[simp] theorem ag50 : isAggT Try.prog 50 = false := by kernel_rfl
@[simp] theorem in50 : (Try.prog.info? 50).isSome = true := by kernel_rfl
@[simp] theorem el50 : elemT Try.prog 50 = some 64 := by kernel_rfl
@[simp] theorem ze50 : zeroT Try.prog 50 = some [.sl (.mu 0) 0 []] := by kernel_rfl
@[simp] theorem fi50 (m : Nat) : fits Try.prog 50 m = decide (m * 24 ≤ 140737488355328) := fits_at ze50 (by kernel_rfl) m
@[simp] theorem an50 (n : Int) : (Try.prog.info? 50).any (fun i => decide ((i.bytes : Int) * n ≤ 140737488355328)) = decide (24 * n ≤ 140737488355328) := any_at (by kernel_rfl) n
attribute [simp] Try.underlying51
@[simp] theorem sz51 : sizeT Try.prog 51 = 1 := by kernel_rfl
@[simp] theorem ag51 : isAggT Try.prog 51 = false := by kernel_rfl
@[simp] theorem in51 : (Try.prog.info? 51).isSome = true := by kernel_rfl
@[simp] theorem el51 : elemT Try.prog 51 = some 58 := by kernel_rfl
@[simp] theorem ze51 : zeroT Try.prog 51 = some [.sl (.mu 0) 0 []] := by kernel_rfl
@[simp] theorem fi51 (m : Nat) : fits Try.prog 51 m = decide (m * 24 ≤ 140737488355328) := fits_at ze51 (by kernel_rfl) m
@[simp] theorem an51 (n : Int) : (Try.prog.info? 51).any (fun i => decide ((i.bytes : Int) * n ≤ 140737488355328)) = decide (24 * n ≤ 140737488355328) := any_at (by kernel_rfl) n
attribute [simp] Try.underlying52
@[simp] theorem sz52 : sizeT Try.prog 52 = 4 := by kernel_rfl
@[simp] theorem ag52 : isAggT Try.prog 52 = true := by kernel_rfl
@[simp] theorem in52 : (Try.prog.info? 52).isSome = true := by kernel_rfl
@[simp] theorem ze52 : zeroT Try.prog 52 = some [.int .i64 0, .sl (.mu 0) 0 [], .sl (.mu 0) 0 [], .sl (.mu 0) 0 []] := by kernel_rfl
@[simp] theorem fi52 (m : Nat) : fits Try.prog 52 m = decide (m * 80 ≤ 140737488355328) := fits_at ze52 (by kernel_rfl) m
@[simp] theorem an52 (n : Int) : (Try.prog.info? 52).any (fun i => decide ((i.bytes : Int) * n ≤ 140737488355328)) = decide (80 * n ≤ 140737488355328) := any_at (by kernel_rfl) n
attribute [simp] Try.underlying53
@[simp] theorem sz53 : sizeT Try.prog 53 = 4 := by kernel_rfl
@[simp] theorem ag53 : isAggT Try.prog 53 = true := by kernel_rfl
@[simp] theorem in53 : (Try.prog.info? 53).isSome = true := by kernel_rfl
@[simp] theorem ze53 : zeroT Try.prog 53 = some [.int .i64 0, .sl (.mu 0) 0 [], .sl (.mu 0) 0 [], .sl (.mu 0) 0 []] := by kernel_rfl
@[simp] theorem fi53 (m : Nat) : fits Try.prog 53 m = decide (m * 80 ≤ 140737488355328) := fits_at ze53 (by kernel_rfl) m
@[simp] theorem an53 (n : Int) : (Try.prog.info? 53).any (fun i => decide ((i.bytes : Int) * n ≤ 140737488355328)) = decide (80 * n ≤ 140737488355328) := any_at (by kernel_rfl) n
attribute [simp] Try.underlying54
@[simp] theorem sz54 : sizeT Try.prog 54 = 1 := by kernel_rfl
@[simp] theorem ag54 : isAggT Try.prog 54 = false := by kernel_rfl
@[simp] theorem in54 : (Try.prog.info? 54).isSome = true := by kernel_rfl
@[simp] theorem el54 : elemT Try.prog 54 = some 106 := by kernel_rfl
@[simp] theorem ze54 : zeroT Try.prog 54 = some [.sl (.mu 0) 0 []] := by kernel_rfl
@[simp] theorem fi54 (m : Nat) : fits Try.prog 54 m = decide (m * 24 ≤ 140737488355328) := fits_at ze54 (by kernel_rfl) m
@[simp] theorem an54 (n : Int) : (Try.prog.info? 54).any (fun i => decide ((i.bytes : Int) * n ≤ 140737488355328)) = decide (24 * n ≤ 140737488355328) := any_at (by kernel_rfl) n
attribute [simp] Try.underlying55
@[simp] theorem sz55 : sizeT Try.prog 55 = 1 := by kernel_rfl
@[simp] theorem ag55 : isAggT Try.prog 55 = false := by kernel_rfl
@[simp] theorem in55 : (Try.prog.info? 55).isSome = true := by kernel_rfl
@[simp] theorem ze55 : zeroT Try.prog 55 = some [.raw .nilFunc] := by kernel_rfl
@[simp] theorem fi55 (m : Nat) : fits Try.prog 55 m = decide (m * 8 ≤ 140737488355328) := fits_at ze55 (by kernel_rfl) m
@[simp] theorem an55 (n : Int) : (Try.prog.info? 55).any (fun i => decide ((i.bytes : Int) * n ≤ 140737488355328)) = decide (8 * n ≤ 140737488355328) := any_at (by kernel_rfl) n
attribute [simp] Try.underlying56
@[simp] theorem sz56 : sizeT Try.prog 56 = 1 := by kernel_rfl
@[simp] theorem ag56 : isAggT Try.prog 56 = false := by kernel_rfl
@[simp] theorem in56 : (Try.prog.info? 56).isSome = true := by kernel_rfl
@[simp] theorem ze56 : zeroT Try.prog 56 = some [.raw .nilFunc] := by kernel_rfl
@[simp] theorem fi56 (m : Nat) : fits Try.prog 56 m = decide (m * 8 ≤ 140737488355328) := fits_at ze56 (by kernel_rfl) m
@[simp] theorem an56 (n : Int) : (Try.prog.info? 56).any (fun i => decide ((i.bytes : Int) * n ≤ 140737488355328)) = decide (8 * n ≤ 140737488355328) := any_at (by kernel_rfl) n
attribute [simp] Try.underlying57
@[simp] theorem sz57 : sizeT Try.prog 57 = 10 := by kernel_rfl
@[simp] theorem ag57 : isAggT Try.prog 57 = true := by kernel_rfl
@[simp] theorem in57 : (Try.prog.info? 57).isSome = true := by kernel_rfl
@[simp] theorem ze57 : zeroT Try.prog 57 = some [.int .i64 0, .int .i64 0, .int .i64 0, .int .i64 0, .int .i64 0, .int .i64 0, .int .i64 0, .int .i64 0, .int .i64 0, .int .i64 0] := by kernel_rfl
@[simp] theorem fi57 (m : Nat) : fits Try.prog 57 m = decide (m * 80 ≤ 140737488355328) := fits_at ze57 (by kernel_rfl) m
@[simp] theorem an57 (n : Int) : (Try.prog.info? 57).any (fun i => decide ((i.bytes : Int) * n ≤ 140737488355328)) = decide (80 * n ≤ 140737488355328) := any_at (by kernel_rfl) n
attribute [simp] Try.underlying58
@[simp] theorem sz58 : sizeT Try.prog 58 = 10 := by kernel_rfl
@[simp] theorem ag58 : isAggT Try.prog 58 = true := by kernel_rfl
@[simp] theorem in58 : (Try.prog.info? 58).isSome = true := by kernel_rfl
@[simp] theorem ze58 : zeroT Try.prog 58 = some [.int .i64 0, .int .i64 0, .int .i64 0, .int .i64 0, .int .i64 0, .int .i64 0, .int .i64 0, .int .i64 0, .int .i64 0, .int .i64 0] := by kernel_rfl
@[simp] theorem fi58 (m : Nat) : fits Try.prog 58 m = decide (m * 80 ≤ 140737488355328) := fits_at ze58 (by kernel_rfl) m
@[simp] theorem an58 (n : Int) : (Try.prog.info? 58).any (fun i => decide ((i.bytes : Int) * n ≤ 140737488355328)) = decide (80 * n ≤ 140737488355328) := any_at (by kernel_rfl) n
attribute [simp] Try.underlying59
@[simp] theorem sz59 : sizeT Try.prog 59 = 1 := by kernel_rfl
@[simp] theorem ag59 : isAggT Try.prog 59 = false := by kernel_rfl
@[simp] theorem in59 : (Try.prog.info? 59).isSome = true := by kernel_rfl
@[simp] theorem ze59 : zeroT Try.prog 59 = some [.raw .nilFunc] := by kernel_rfl
@[simp] theorem fi59 (m : Nat) : fits Try.prog 59 m = decide (m * 8 ≤ 140737488355328) := fits_at ze59 (by kernel_rfl) m
@[simp] theorem an59 (n : Int) : (Try.prog.info? 59).any (fun i => decide ((i.bytes : Int) * n ≤ 140737488355328)) = decide (8 * n ≤ 140737488355328) := any_at (by kernel_rfl) n
attribute [simp] Try.underlying60
@[simp] theorem sz60 : sizeT Try.prog 60 = 1 := by kernel_rfl
@[simp] theorem ag60 : isAggT Try.prog 60 = false := by kernel_rfl
@[simp] theorem in60 : (Try.prog.info? 60).isSome = true := by kernel_rfl
@[simp] theorem el60 : elemT Try.prog 60 = some 36 := by kernel_rfl
@[simp] theorem ze60 : zeroT Try.prog 60 = some [.sl (.mu 0) 0 []] := by kernel_rfl
@[simp] theorem fi60 (m : Nat) : fits Try.prog 60 m = decide (m * 24 ≤ 140737488355328) := fits_at ze60 (by kernel_rfl) m
@[simp] theorem an60 (n : Int) : (Try.prog.info? 60).any (fun i => decide ((i.bytes : Int) * n ≤ 140737488355328)) = decide (24 * n ≤ 140737488355328) := any_at (by kernel_rfl) n
attribute [simp] Try.underlying61
@[simp] theorem sz61 : sizeT Try.prog 61 = 1 := by kernel_rfl
@[simp] theorem ag61 : isAggT Try.prog 61 = false := by kernel_rfl
@[simp] theorem in61 : (Try.prog.info? 61).isSome = true := by kernel_rfl
@[simp] theorem el61 : elemT Try.prog 61 = some 3 := by kernel_rfl
@[simp] theorem ze61 : zeroT Try.prog 61 = some [.sl (.mu 0) 0 []] := by kernel_rfl
@[simp] theorem fi61 (m : Nat) : fits Try.prog 61 m = decide (m * 24 ≤ 140737488355328) := fits_at ze61 (by kernel_rfl) m
@[simp] theorem an61 (n : Int) : (Try.prog.info? 61).any (fun i => decide ((i.bytes : Int) * n ≤ 140737488355328)) = decide (24 * n ≤ 140737488355328) := any_at (by kernel_rfl) n
attribute [simp] Try.underlying62
@[simp] theorem sz62 : sizeT Try.prog 62 = 3 := by kernel_rfl
@[simp] theorem ag62 : isAggT Try.prog 62 = true := by kernel_rfl
@[simp] theorem in62 : (Try.prog.info? 62).isSome = true := by kernel_rfl
@[simp] theorem ze62 : zeroT Try.prog 62 = some [.int .i64 0, .int .i64 0, .int .i64 0] := by kernel_rfl
@[simp] theorem fi62 (m : Nat) : fits Try.prog 62 m = decide (m * 24 ≤ 140737488355328) := fits_at ze62 (by kernel_rfl) m
@[simp] theorem an62 (n : Int) : (Try.prog.info? 62).any (fun i => decide ((i.bytes : Int) * n ≤ 140737488355328)) = decide (24 * n ≤ 140737488355328) := any_at (by kernel_rfl) n
attribute [simp] Try.underlying63
@[simp] theorem sz63 : sizeT Try.prog 63 = 3 := by kernel_rfl
@[simp] theorem ag63 : isAggT Try.prog 63 = true := by kernel_rfl
@[simp] theorem in63 : (Try.prog.info? 63).isSome = true := by kernel_rfl
@[simp] theorem ze63 : zeroT Try.prog 63 = some [.int .i64 0, .int .i64 0, .int .i64 0] := by kernel_rfl
@[simp] theorem fi63 (m : Nat) : fits Try.prog 63 m = decide (m * 24 ≤ 140737488355328) := fits_at ze63 (by kernel_rfl) m
@[simp] theorem an63 (n : Int) : (Try.prog.info? 63).any (fun i => decide ((i.bytes : Int) * n ≤ 140737488355328)) = decide (24 * n ≤ 140737488355328) := any_at (by kernel_rfl) n
attribute [simp] Try.underlying64
@[simp] theorem sz64 : sizeT Try.prog 64 = 3 := by kernel_rfl
@[simp] theorem ag64 : isAggT Try.prog 64 = true := by kernel_rfl
@[simp] theorem in64 : (Try.prog.info? 64).isSome = true := by kernel_rfl
@[simp] theorem ze64 : zeroT Try.prog 64 = some [.int .i64 0, .int .i64 0, .int .i64 0] := by kernel_rfl
@[simp] theorem fi64 (m : Nat) : fits Try.prog 64 m = decide (m * 24 ≤ 140737488355328) := fits_at ze64 (by kernel_rfl) m
@[simp] theorem an64 (n : Int) : (Try.prog.info? 64).any (fun i => decide ((i.bytes : Int) * n ≤ 140737488355328)) = decide (24 * n ≤ 140737488355328) := any_at (by kernel_rfl) n
attribute [simp] Try.underlying65
@[simp] theorem sz65 : sizeT Try.prog 65 = 1 := by kernel_rfl
@[simp] theorem ag65 : isAggT Try.prog 65 = false := by kernel_rfl
@[simp] theorem in65 : (Try.prog.info? 65).isSome = true := by kernel_rfl
@[simp] theorem ze65 : zeroT Try.prog 65 = some [.raw .nilFunc] := by kernel_rfl
@[simp] theorem fi65 (m : Nat) : fits Try.prog 65 m = decide (m * 8 ≤ 140737488355328) := fits_at ze65 (by kernel_rfl) m
@[simp] theorem an65 (n : Int) : (Try.prog.info? 65).any (fun i => decide ((i.bytes : Int) * n ≤ 140737488355328)) = decide (8 * n ≤ 140737488355328) := any_at (by kernel_rfl) n
attribute [simp] Try.underlying66
@[simp] theorem sz66 : sizeT Try.prog 66 = 1 := by kernel_rfl
@[simp] theorem ag66 : isAggT Try.prog 66 = false := by kernel_rfl
@[simp] theorem in66 : (Try.prog.info? 66).isSome = true := by kernel_rfl
@[simp] theorem ze66 : zeroT Try.prog 66 = some [.raw .nilFunc] := by kernel_rfl
@[simp] theorem fi66 (m : Nat) : fits Try.prog 66 m = decide (m * 8 ≤ 140737488355328) := fits_at ze66 (by kernel_rfl) m
@[simp] theorem an66 (n : Int) : (Try.prog.info? 66).any (fun i => decide ((i.bytes : Int) * n ≤ 140737488355328)) = decide (8 * n ≤ 140737488355328) := any_at (by kernel_rfl) n
attribute [simp] Try.underlying67
@[simp] theorem sz67 : sizeT Try.prog 67 = 1 := by kernel_rfl
@[simp] theorem ag67 : isAggT Try.prog 67 = false := by kernel_rfl
@[simp] theorem in67 : (Try.prog.info? 67).isSome = true := by kernel_rfl
@[simp] theorem ze67 : zeroT Try.prog 67 = some [.raw .nilFunc] := by kernel_rfl
@[simp] theorem fi67 (m : Nat) : fits Try.prog 67 m = decide (m * 8 ≤ 140737488355328) := fits_at ze67 (by kernel_rfl) m
@[simp] theorem an67 (n : Int) : (Try.prog.info? 67).any (fun i => decide ((i.bytes : Int) * n ≤ 140737488355328)) = decide (8 * n ≤ 140737488355328) := any_at (by kernel_rfl) n
attribute [simp] Try.underlying68
@[simp] theorem sz68 : sizeT Try.prog 68 = 1 := by kernel_rfl
@[simp] theorem ag68 : isAggT Try.prog 68 = false := by kernel_rfl
@[simp] theorem in68 : (Try.prog.info? 68).isSome = true := by kernel_rfl
@[simp] theorem ze68 : zeroT Try.prog 68 = some [.nilp] := by kernel_rfl
@[simp] theorem fi68 (m : Nat) : fits Try.prog 68 m = decide (m * 8 ≤ 140737488355328) := fits_at ze68 (by kernel_rfl) m
@[simp] theorem an68 (n : Int) : (Try.prog.info? 68).any (fun i => decide ((i.bytes : Int) * n ≤ 140737488355328)) = decide (8 * n ≤ 140737488355328) := any_at (by kernel_rfl) n
attribute [simp] Try.underlying70
@[simp] theorem sz70 : sizeT Try.prog 70 = 1 := by kernel_rfl
@[simp] theorem ag70 : isAggT Try.prog 70 = false := by kernel_rfl
@[simp] theorem in70 : (Try.prog.info? 70).isSome = true := by kernel_rfl
@[simp] theorem ze70 : zeroT Try.prog 70 = some [.raw .nilFunc] := by kernel_rfl
@[simp] theorem fi70 (m : Nat) : fits Try.prog 70 m = decide (m * 8 ≤ 140737488355328) := fits_at ze70 (by kernel_rfl) m
@[simp] theorem an70 (n : Int) : (Try.prog.info? 70).any (fun i => decide ((i.bytes : Int) * n ≤ 140737488355328)) = decide (8 * n ≤ 140737488355328) := any_at (by kernel_rfl) n
attribute [simp] Try.underlying71
@[simp] theorem sz71 : sizeT Try.prog 71 = 1 := by kernel_rfl
@[simp] theorem ag71 : isAggT Try.prog 71 = false := by kernel_rfl
@[simp] theorem in71 : (Try.prog.info? 71).isSome = true := by kernel_rfl
@[simp] theorem ze71 : zeroT Try.prog 71 = some [.raw .nilFunc] := by kernel_rfl
@[simp] theorem fi71 (m : Nat) : fits Try.prog 71 m = decide (m * 8 ≤ 140737488355328) := fits_at ze71 (by kernel_rfl) m
@[simp] theorem an71 (n : Int) : (Try.prog.info? 71).any (fun i => decide ((i.bytes : Int) * n ≤ 140737488355328)) = decide (8 * n ≤ 140737488355328) := any_at (by kernel_rfl) n
attribute [simp] Try.underlying73
@[simp] theorem sz73 : sizeT Try.prog 73 = 1 := by kernel_rfl
@[simp] theorem ag73 : isAggT Try.prog 73 = false := by kernel_rfl
@[simp] theorem in73 : (Try.prog.info? 73).isSome = true := by kernel_rfl
@[simp] theorem ze73 : zeroT Try.prog 73 = some [.raw .nilFunc] := by kernel_rfl
@[simp] theorem fi73 (m : Nat) : fits Try.prog 73 m = decide (m * 8 ≤ 140737488355328) := fits_at ze73 (by kernel_rfl) m
@[simp] theorem an73 (n : Int) : (Try.prog.info? 73).any (fun i => decide ((i.bytes : Int) * n ≤ 140737488355328)) = decide (8 * n ≤ 140737488355328) := any_at (by kernel_rfl) n
attribute [simp] Try.underlying74
@[simp] theorem sz74 : sizeT Try.prog 74 = 1 := by kernel_rfl
@[simp] theorem ag74 : isAggT Try.prog 74 = false := by kernel_rfl
@[simp] theorem in74 : (Try.prog.info? 74).isSome = true := by kernel_rfl
@[simp] theorem ze74 : zeroT Try.prog 74 = some [.raw .nilFunc] := by kernel_rfl
@[simp] theorem fi74 (m : Nat) : fits Try.prog 74 m = decide (m * 8 ≤ 140737488355328) := fits_at ze74 (by kernel_rfl) m
@[simp] theorem an74 (n : Int) : (Try.prog.info? 74).any (fun i => decide ((i.bytes : Int) * n ≤ 140737488355328)) = decide (8 * n ≤ 140737488355328) := any_at (by kernel_rfl) n
attribute [simp] Try.underlying75
@[simp] theorem sz75 : sizeT Try.prog 75 = 1 := by kernel_rfl
@[simp] theorem ag75 : isAggT Try.prog 75 = false := by kernel_rfl
@[simp] theorem in75 : (Try.prog.info? 75).isSome = true := by kernel_rfl
@[simp] theorem ze75 : zeroT Try.prog 75 = some [.raw .nilFunc] := by kernel_rfl
@[simp] theorem fi75 (m : Nat) : fits Try.prog 75 m = decide (m * 8 ≤ 140737488355328) := fits_at ze75 (by kernel_rfl) m
@[simp] theorem an75 (n : Int) : (Try.prog.info? 75).any (fun i => decide ((i.bytes : Int) * n ≤ 140737488355328)) = decide (8 * n ≤ 140737488355328) := any_at (by kernel_rfl) n
attribute [simp] Try.underlying76
@[simp] theorem sz76 : sizeT Try.prog 76 = 1 := by kernel_rfl
@[simp] theorem ag76 : isAggT Try.prog 76 = false := by kernel_rfl
@[simp] theorem in76 : (Try.prog.info? 76).isSome = true := by kernel_rfl
@[simp] theorem ze76 : zeroT Try.prog 76 = some [.raw .nilFunc] := by kernel_rfl
@[simp] theorem fi76 (m : Nat) : fits Try.prog 76 m = decide (m * 8 ≤ 140737488355328) := fits_at ze76 (by kernel_rfl) m
@[simp] theorem an76 (n : Int) : (Try.prog.info? 76).any (fun i => decide ((i.bytes : Int) * n ≤ 140737488355328)) = decide (8 * n ≤ 140737488355328) := any_at (by kernel_rfl) n
attribute [simp] Try.underlying77
@[simp] theorem sz77 : sizeT Try.prog 77 = 1 := by kernel_rfl
@[simp] theorem ag77 : isAggT Try.prog 77 = false := by kernel_rfl
@[simp] theorem in77 : (Try.prog.info? 77).isSome = true := by kernel_rfl
@[simp] theorem ze77 : zeroT Try.prog 77 = some [.raw .nilFunc] := by kernel_rfl
@[simp] theorem fi77 (m : Nat) : fits Try.prog 77 m = decide (m * 8 ≤ 140737488355328) := fits_at ze77 (by kernel_rfl) m
@[simp] theorem an77 (n : Int) : (Try.prog.info? 77).any (fun i => decide ((i.bytes : Int) * n ≤ 140737488355328)) = decide (8 * n ≤ 140737488355328) := any_at (by kernel_rfl) n
attribute [simp] Try.underlying78
@[simp] theorem sz78 : sizeT Try.prog 78 = 1 := by kernel_rfl
@[simp] theorem ag78 : isAggT Try.prog 78 = false := by kernel_rfl
@[simp] theorem in78 : (Try.prog.info? 78).isSome = true := by kernel_rfl
@[simp] theorem ze78 : zeroT Try.prog 78 = some [.raw .nilFunc] := by kernel_rfl
@[simp] theorem fi78 (m : Nat) : fits Try.prog 78 m = decide (m * 8 ≤ 140737488355328) := fits_at ze78 (by kernel_rfl) m
@[simp] theorem an78 (n : Int) : (Try.prog.info? 78).any (fun i => decide ((i.bytes : Int) * n ≤ 140737488355328)) = decide (8 * n ≤ 140737488355328) := any_at (by kernel_rfl) n
attribute [simp] Try.underlying79
@[simp] theorem sz79 : sizeT Try.prog 79 = 1 := by kernel_rfl
@[simp] theorem ag79 : isAggT Try.prog 79 = false := by kernel_rfl
@[simp] theorem in79 : (Try.prog.info? 79).isSome = true := by kernel_rfl
@[simp] theorem ze79 : zeroT Try.prog 79 = some [.raw .nilFunc] := by kernel_rfl
@[simp] theorem fi79 (m : Nat) : fits Try.prog 79 m = decide (m * 8 ≤ 140737488355328) := fits_at ze79 (by kernel_rfl) m
@[simp] theorem an79 (n : Int) : (Try.prog.info? 79).any (fun i => decide ((i.bytes : Int) * n ≤ 140737488355328)) = decide (8 * n ≤ 140737488355328) := any_at (by kernel_rfl) n
attribute [simp] Try.underlying80
@[simp] theorem sz80 : sizeT Try.prog 80 = 3 := by kernel_rfl
@[simp] theorem ag80 : isAggT Try.prog 80 = true := by kernel_rfl
@[simp] theorem in80 : (Try.prog.info? 80).isSome = true := by kernel_rfl
@[simp] theorem ze80 : zeroT Try.prog 80 = some [.int .i64 0, .int .i64 0, .int .i64 0] := by kernel_rfl
@[simp] theorem fi80 (m : Nat) : fits Try.prog 80 m = decide (m * 24 ≤ 140737488355328) := fits_at ze80 (by kernel_rfl) m
@[simp] theorem an80 (n : Int) : (Try.prog.info? 80).any (fun i => decide ((i.bytes : Int) * n ≤ 140737488355328)) = decide (24 * n ≤ 140737488355328) := any_at (by kernel_rfl) n
attribute [simp] Try.underlying81
@[simp] theorem sz81 : sizeT Try.prog 81 = 3 := by kernel_rfl
@[simp] theorem ag81 : isAggT Try.prog 81 = true := by kernel_rfl
@[simp] theorem in81 : (Try.prog.info? 81).isSome = true := by kernel_rfl
@[simp] theorem ze81 : zeroT Try.prog 81 = some [.int .i64 0, .int .i64 0, .int .i64 0] := by kernel_rfl
@[simp] theorem fi81 (m : Nat) : fits Try.prog 81 m = decide (m * 24 ≤ 140737488355328) := fits_at ze81 (by kernel_rfl) m
@[simp] theorem an81 (n : Int) : (Try.prog.info? 81).any (fun i => decide ((i.bytes : Int) * n ≤ 140737488355328)) = decide (24 * n ≤ 140737488355328) := any_at (by kernel_rfl) n
attribute [simp] Try.underlying82
@[simp] theorem sz82 : sizeT Try.prog 82 = 1 := by kernel_rfl
@[simp] theorem ag82 : isAggT Try.prog 82 = false := by kernel_rfl
@[simp] theorem in82 : (Try.prog.info? 82).isSome = true := by kernel_rfl
@[simp] theorem ze82 : zeroT Try.prog 82 = some [.raw .nilFunc] := by kernel_rfl
@[simp] theorem fi82 (m : Nat) : fits Try.prog 82 m = decide (m * 8 ≤ 140737488355328) := fits_at ze82 (by kernel_rfl) m
@[simp] theorem an82 (n : Int) : (Try.prog.info? 82).any (fun i => decide ((i.bytes : Int) * n ≤ 140737488355328)) = decide (8 * n ≤ 140737488355328) := any_at (by kernel_rfl) n
attribute [simp] Try.underlying83
@[simp] theorem sz83 : sizeT Try.prog 83 = 3 := by kernel_rfl
@[simp] theorem ag83 : isAggT Try.prog 83 = true := by kernel_rfl
@[simp] theorem in83 : (Try.prog.info? 83).isSome = true := by kernel_rfl
@[simp] theorem ze83 : zeroT Try.prog 83 = some [.int .i64 0, .int .i64 0, .int .i64 0] := by kernel_rfl
@[simp] theorem fi83 (m : Nat) : fits Try.prog 83 m = decide (m * 24 ≤ 140737488355328) := fits_at ze83 (by kernel_rfl) m
@[simp] theorem an83 (n : Int) : (Try.prog.info? 83).any (fun i => decide ((i.bytes : Int) * n ≤ 140737488355328)) = decide (24 * n ≤ 140737488355328) := any_at (by kernel_rfl) n
attribute [simp] Try.underlying84
@[simp] theorem sz84 : sizeT Try.prog 84 = 1 := by kernel_rfl
@[simp] theorem ag84 : isAggT Try.prog 84 = false := by kernel_rfl
@[simp] theorem in84 : (Try.prog.info? 84).isSome = true := by kernel_rfl
@[simp] theorem ze84 : zeroT Try.prog 84 = some [.raw .nilFunc] := by kernel_rfl
@[simp] theorem fi84 (m : Nat) : fits Try.prog 84 m = decide (m * 8 ≤ 140737488355328) := fits_at ze84 (by kernel_rfl) m
@[simp] theorem an84 (n : Int) : (Try.prog.info? 84).any (fun i => decide ((i.bytes : Int) * n ≤ 140737488355328)) = decide (8 * n ≤ 140737488355328) := any_at (by kernel_rfl) n
attribute [simp] Try.underlying85
@[simp] theorem sz85 : sizeT Try.prog 85 = 1 := by kernel_rfl
@[simp] theorem ag85 : isAggT Try.prog 85 = false := by kernel_rfl
@[simp] theorem in85 : (Try.prog.info? 85).isSome = true := by kernel_rfl
@[simp] theorem ze85 : zeroT Try.prog 85 = some [.raw .nilFunc] := by kernel_rfl
@[simp] theorem fi85 (m : Nat) : fits Try.prog 85 m = decide (m * 8 ≤ 140737488355328) := fits_at ze85 (by kernel_rfl) m
@[simp] theorem an85 (n : Int) : (Try.prog.info? 85).any (fun i => decide ((i.bytes : Int) * n ≤ 140737488355328)) = decide (8 * n ≤ 140737488355328) := any_at (by kernel_rfl) n
attribute [simp] Try.underlying86
@[simp] theorem sz86 : sizeT Try.prog 86 = 2 := by kernel_rfl
@[simp] theorem ag86 : isAggT Try.prog 86 = true := by kernel_rfl
@[simp] theorem in86 : (Try.prog.info? 86).isSome = true := by kernel_rfl
@[simp] theorem ze86 : zeroT Try.prog 86 = some [.int .i64 0, .int .i64 0] := by kernel_rfl
@[simp] theorem fi86 (m : Nat) : fits Try.prog 86 m = decide (m * 16 ≤ 140737488355328) := fits_at ze86 (by kernel_rfl) m
@[simp] theorem an86 (n : Int) : (Try.prog.info? 86).any (fun i => decide ((i.bytes : Int) * n ≤ 140737488355328)) = decide (16 * n ≤ 140737488355328) := any_at (by kernel_rfl) n
attribute [simp] Try.underlying87
@[simp] theorem sz87 : sizeT Try.prog 87 = 2 := by kernel_rfl
@[simp] theorem ag87 : isAggT Try.prog 87 = true := by kernel_rfl
@[simp] theorem in87 : (Try.prog.info? 87).isSome = true := by kernel_rfl
@[simp] theorem ze87 : zeroT Try.prog 87 = some [.int .i64 0, .int .i64 0] := by kernel_rfl
@[simp] theorem fi87 (m : Nat) : fits Try.prog 87 m = decide (m * 16 ≤ 140737488355328) := fits_at ze87 (by kernel_rfl) m
@[simp] theorem an87 (n : Int) : (Try.prog.info? 87).any (fun i => decide ((i.bytes : Int) * n ≤ 140737488355328)) = decide (16 * n ≤ 140737488355328) := any_at (by kernel_rfl) n
attribute [simp] Try.underlying88
@[simp] theorem sz88 : sizeT Try.prog 88 = 1 := by kernel_rfl
@[simp] theorem ag88 : isAggT Try.prog 88 = false := by kernel_rfl
@[simp] theorem in88 : (Try.prog.info? 88).isSome = true := by kernel_rfl
@[simp] theorem ze88 : zeroT Try.prog 88 = some [.raw .nilFunc] := by kernel_rfl
@[simp] theorem fi88 (m : Nat) : fits Try.prog 88 m = decide (m * 8 ≤ 140737488355328) := fits_at ze88 (by kernel_rfl) m
@[simp] theorem an88 (n : Int) : (Try.prog.info? 88).any (fun i => decide ((i.bytes : Int) * n ≤ 140737488355328)) = decide (8 * n ≤ 140737488355328) := any_at (by kernel_rfl) n
attribute [simp] Try.underlying89
@[simp] theorem sz89 : sizeT Try.prog 89 = 1 := by kernel_rfl
@[simp] theorem ag89 : isAggT Try.prog 89 = false := by kernel_rfl
@[simp] theorem in89 : (Try.prog.info? 89).isSome = true := by kernel_rfl
@[simp] theorem ze89 : zeroT Try.prog 89 = some [.raw .nilFunc] := by kernel_rfl
@[simp] theorem fi89 (m : Nat) : fits Try.prog 89 m = decide (m * 8 ≤ 140737488355328) := fits_at ze89 (by kernel_rfl) m
@[simp] theorem an89 (n : Int) : (Try.prog.info? 89).any (fun i => decide ((i.bytes : Int) * n ≤ 140737488355328)) = decide (8 * n ≤ 140737488355328) := any_at (by kernel_rfl) n
attribute [simp] Try.underlying90
@[simp] theorem sz90 : sizeT Try.prog 90 = 9 := by kernel_rfl
@[simp] theorem ag90 : isAggT Try.prog 90 = true := by kernel_rfl
@[simp] theorem in90 : (Try.prog.info? 90).isSome = true := by kernel_rfl
@[simp] theorem ze90 : zeroT Try.prog 90 = some [.int .i64 0, .int .i64 0, .int .i64 0, .int .i64 0, .int .i64 0, .int .i64 0, .int .i64 0, .int .i64 0, .int .i64 0] := by kernel_rfl
@[simp] theorem fi90 (m : Nat) : fits Try.prog 90 m = decide (m * 72 ≤ 140737488355328) := fits_at ze90 (by kernel_rfl) m
@[simp] theorem an90 (n : Int) : (Try.prog.info? 90).any (fun i => decide ((i.bytes : Int) * n ≤ 140737488355328)) = decide (72 * n ≤ 140737488355328) := any_at (by kernel_rfl) n
attribute [simp] Try.underlying91
@[simp] theorem sz91 : sizeT Try.prog 91 = 1 := by kernel_rfl
@[simp] theorem ag91 : isAggT Try.prog 91 = false := by kernel_rfl
@[simp] theorem in91 : (Try.prog.info? 91).isSome = true := by kernel_rfl
@[simp] theorem ze91 : zeroT Try.prog 91 = some [.raw .nilFunc] := by kernel_rfl
@[simp] theorem fi91 (m : Nat) : fits Try.prog 91 m = decide (m * 8 ≤ 140737488355328) := fits_at ze91 (by kernel_rfl) m
@[simp] theorem an91 (n : Int) : (Try.prog.info? 91).any (fun i => decide ((i.bytes : Int) * n ≤ 140737488355328)) = decide (8 * n ≤ 140737488355328) := any_at (by kernel_rfl) n
attribute [simp] Try.underlying93
@[simp] theorem sz93 : sizeT Try.prog 93 = 1 := by kernel_rfl
@[simp] theorem ag93 : isAggT Try.prog 93 = false := by kernel_rfl
@[simp] theorem in93 : (Try.prog.info? 93).isSome = true := by kernel_rfl
@[simp] theorem ze93 : zeroT Try.prog 93 = some [.raw .nilFunc] := by kernel_rfl
@[simp] theorem fi93 (m : Nat) : fits Try.prog 93 m = decide (m * 8 ≤ 140737488355328) := fits_at ze93 (by kernel_rfl) m
@[simp] theorem an93 (n : Int) : (Try.prog.info? 93).any (fun i => decide ((i.bytes : Int) * n ≤ 140737488355328)) = decide (8 * n ≤ 140737488355328) := any_at (by kernel_rfl) n
attribute [simp] Try.underlying94
@[simp] theorem sz94 : sizeT Try.prog 94 = 1 := by kernel_rfl
@[simp] theorem ag94 : isAggT Try.prog 94 = false := by kernel_rfl
@[simp] theorem in94 : (Try.prog.info? 94).isSome = true := by kernel_rfl
@[simp] theorem ze94 : zeroT Try.prog 94 = some [.raw .nilFunc] := by kernel_rfl
@[simp] theorem fi94 (m : Nat) : fits Try.prog 94 m = decide (m * 8 ≤ 140737488355328) := fits_at ze94 (by kernel_rfl) m
@[simp] theorem an94 (n : Int) : (Try.prog.info? 94).any (fun i => decide ((i.bytes : Int) * n ≤ 140737488355328)) = decide (8 * n ≤ 140737488355328) := any_at (by kernel_rfl) n
attribute [simp] Try.underlying96
@[simp] theorem sz96 : sizeT Try.prog 96 = 1 := by kernel_rfl
@[simp] theorem ag96 : isAggT Try.prog 96 = false := by kernel_rfl
@[simp] theorem in96 : (Try.prog.info? 96).isSome = true := by kernel_rfl
@[simp] theorem ze96 : zeroT Try.prog 96 = some [.raw (.map none)] := by kernel_rfl
@[simp] theorem zv24 : zeroV Try.prog 24 = some (.agg [.int .i64 0, .int .i64 0, .int .i64 0]) := by kernel_rfl
attribute [simp] Try.underlying97
@[simp] theorem sz97 : sizeT Try.prog 97 = 1 := by kernel_rfl
@[simp] theorem ag97 : isAggT Try.prog 97 = true := by kernel_rfl
@[simp] theorem in97 : (Try.prog.info? 97).isSome = true := by kernel_rfl
@[simp] theorem ze97 : zeroT Try.prog 97 = some [.raw (.map none)] := by kernel_rfl
@[simp] theorem fi97 (m : Nat) : fits Try.prog 97 m = decide (m * 8 ≤ 140737488355328) := fits_at ze97 (by kernel_rfl) m
@[simp] theorem an97 (n : Int) : (Try.prog.info? 97).any (fun i => decide ((i.bytes : Int) * n ≤ 140737488355328)) = decide (8 * n ≤ 140737488355328) := any_at (by kernel_rfl) n
attribute [simp] Try.underlying98
@[simp] theorem sz98 : sizeT Try.prog 98 = 1 := by kernel_rfl
@[simp] theorem ag98 : isAggT Try.prog 98 = true := by kernel_rfl
@[simp] theorem in98 : (Try.prog.info? 98).isSome = true := by kernel_rfl
@[simp] theorem ze98 : zeroT Try.prog 98 = some [.raw (.map none)] := by kernel_rfl
@[simp] theorem fi98 (m : Nat) : fits Try.prog 98 m = decide (m * 8 ≤ 140737488355328) := fits_at ze98 (by kernel_rfl) m
@[simp] theorem an98 (n : Int) : (Try.prog.info? 98).any (fun i => decide ((i.bytes : Int) * n ≤ 140737488355328)) = decide (8 * n ≤ 140737488355328) := any_at (by kernel_rfl) n
attribute [simp] Try.underlying99
@[simp] theorem sz99 : sizeT Try.prog 99 = 1 := by kernel_rfl
@[simp] theorem ag99 : isAggT Try.prog 99 = false := by kernel_rfl
@[simp] theorem in99 : (Try.prog.info? 99).isSome = true := by kernel_rfl
@[simp] theorem ze99 : zeroT Try.prog 99 = some [.raw .nilFunc] := by kernel_rfl
@[simp] theorem fi99 (m : Nat) : fits Try.prog 99 m = decide (m * 8 ≤ 140737488355328) := fits_at ze99 (by kernel_rfl) m
@[simp] theorem an99 (n : Int) : (Try.prog.info? 99).any (fun i => decide ((i.bytes : Int) * n ≤ 140737488355328)) = decide (8 * n ≤ 140737488355328) := any_at (by kernel_rfl) n
attribute [simp] Try.underlying100
@[simp] theorem sz100 : sizeT Try.prog 100 = 1 := by kernel_rfl
@[simp] theorem ag100 : isAggT Try.prog 100 = false := by kernel_rfl
@[simp] theorem in100 : (Try.prog.info? 100).isSome = true := by kernel_rfl
@[simp] theorem ze100 : zeroT Try.prog 100 = some [.raw .nilFunc] := by kernel_rfl
@[simp] theorem fi100 (m : Nat) : fits Try.prog 100 m = decide (m * 8 ≤ 140737488355328) := fits_at ze100 (by kernel_rfl) m
@[simp] theorem an100 (n : Int) : (Try.prog.info? 100).any (fun i => decide ((i.bytes : Int) * n ≤ 140737488355328)) = decide (8 * n ≤ 140737488355328) := any_at (by kernel_rfl) n
attribute [simp] Try.underlying101
@[simp] theorem sz101 : sizeT Try.prog 101 = 1 := by kernel_rfl
@[simp] theorem ag101 : isAggT Try.prog 101 = false := by kernel_rfl
@[simp] theorem in101 : (Try.prog.info? 101).isSome = true := by kernel_rfl
@[simp] theorem ze101 : zeroT Try.prog 101 = some [.raw .nilFunc] := by kernel_rfl
@[simp] theorem fi101 (m : Nat) : fits Try.prog 101 m = decide (m * 8 ≤ 140737488355328) := fits_at ze101 (by kernel_rfl) m
@[simp] theorem an101 (n : Int) : (Try.prog.info? 101).any (fun i => decide ((i.bytes : Int) * n ≤ 140737488355328)) = decide (8 * n ≤ 140737488355328) := any_at (by kernel_rfl) n
attribute [simp] Try.underlying102
@[simp] theorem sz102 : sizeT Try.prog 102 = 1 := by kernel_rfl
@[simp] theorem ag102 : isAggT Try.prog 102 = false := by kernel_rfl
@[simp] theorem in102 : (Try.prog.info? 102).isSome = true := by kernel_rfl
@[simp] theorem ze102 : zeroT Try.prog 102 = some [.raw .nilFunc] := by kernel_rfl
@[simp] theorem fi102 (m : Nat) : fits Try.prog 102 m = decide (m * 8 ≤ 140737488355328) := fits_at ze102 (by kernel_rfl) m
@[simp] theorem an102 (n : Int) : (Try.prog.info? 102).any (fun i => decide ((i.bytes : Int) * n ≤ 140737488355328)) = decide (8 * n ≤ 140737488355328) := any_at (by kernel_rfl) n
attribute [simp] Try.underlying103
@[simp] theorem sz103 : sizeT Try.prog 103 = 1 := by kernel_rfl
@[simp] theorem ag103 : isAggT Try.prog 103 = false := by kernel_rfl
@[simp] theorem in103 : (Try.prog.info? 103).isSome = true := by kernel_rfl
@[simp] theorem ze103 : zeroT Try.prog 103 = some [.raw .nilFunc] := by kernel_rfl
@[simp] theorem fi103 (m : Nat) : fits Try.prog 103 m = decide (m * 8 ≤ 140737488355328) := fits_at ze103 (by kernel_rfl) m
@[simp] theorem an103 (n : Int) : (Try.prog.info? 103).any (fun i => decide ((i.bytes : Int) * n ≤ 140737488355328)) = decide (8 * n ≤ 140737488355328) := any_at (by kernel_rfl) n
attribute [simp] Try.underlying104
@[simp] theorem sz104 : sizeT Try.prog 104 = 1 := by kernel_rfl
@[simp] theorem ag104 : isAggT Try.prog 104 = false := by kernel_rfl
@[simp] theorem in104 : (Try.prog.info? 104).isSome = true := by kernel_rfl
@[simp] theorem ze104 : zeroT Try.prog 104 = some [.raw .nilFunc] := by kernel_rfl
@[simp] theorem fi104 (m : Nat) : fits Try.prog 104 m = decide (m * 8 ≤ 140737488355328) := fits_at ze104 (by kernel_rfl) m
@[simp] theorem an104 (n : Int) : (Try.prog.info? 104).any (fun i => decide ((i.bytes : Int) * n ≤ 140737488355328)) = decide (8 * n ≤ 140737488355328) := any_at (by kernel_rfl) n
attribute [simp] Try.underlying105
@[simp] theorem sz105 : sizeT Try.prog 105 = 2 := by kernel_rfl
@[simp] theorem ag105 : isAggT Try.prog 105 = true := by kernel_rfl
@[simp] theorem in105 : (Try.prog.info? 105).isSome = true := by kernel_rfl
@[simp] theorem ze105 : zeroT Try.prog 105 = some [.int .i64 0, .int .i64 0] := by kernel_rfl
@[simp] theorem fi105 (m : Nat) : fits Try.prog 105 m = decide (m * 16 ≤ 140737488355328) := fits_at ze105 (by kernel_rfl) m
@[simp] theorem an105 (n : Int) : (Try.prog.info? 105).any (fun i => decide ((i.bytes : Int) * n ≤ 140737488355328)) = decide (16 * n ≤ 140737488355328) := any_at (by kernel_rfl) n
attribute [simp] Try.underlying106
@[simp] theorem sz106 : sizeT Try.prog 106 = 2 := by kernel_rfl
@[simp] theorem ag106 : isAggT Try.prog 106 = true := by kernel_rfl
@[simp] theorem in106 : (Try.prog.info? 106).isSome = true := by kernel_rfl
@[simp] theorem ze106 : zeroT Try.prog 106 = some [.int .i64 0, .int .i64 0] := by kernel_rfl
@[simp] theorem fi106 (m : Nat) : fits Try.prog 106 m = decide (m * 16 ≤ 140737488355328) := fits_at ze106 (by kernel_rfl) m
@[simp] theorem an106 (n : Int) : (Try.prog.info? 106).any (fun i => decide ((i.bytes : Int) * n ≤ 140737488355328)) = decide (16 * n ≤ 140737488355328) := any_at (by kernel_rfl) n
attribute [simp] Try.underlying107
@[simp] theorem sz107 : sizeT Try.prog 107 = 1 := by kernel_rfl
@[simp] theorem ag107 : isAggT Try.prog 107 = false := by kernel_rfl
@[simp] theorem in107 : (Try.prog.info? 107).isSome = true := by kernel_rfl
@[simp] theorem ze107 : zeroT Try.prog 107 = some [.raw .nilFunc] := by kernel_rfl
@[simp] theorem fi107 (m : Nat) : fits Try.prog 107 m = decide (m * 8 ≤ 140737488355328) := fits_at ze107 (by kernel_rfl) m
@[simp] theorem an107 (n : Int) : (Try.prog.info? 107).any (fun i => decide ((i.bytes : Int) * n ≤ 140737488355328)) = decide (8 * n ≤ 140737488355328) := any_at (by kernel_rfl) n
attribute [simp] Try.underlying108
@[simp] theorem sz108 : sizeT Try.prog 108 = 18 := by kernel_rfl
@[simp] theorem ag108 : isAggT Try.prog 108 = true := by kernel_rfl
@[simp] theorem in108 : (Try.prog.info? 108).isSome = true := by kernel_rfl
@[simp] theorem ze108 : zeroT Try.prog 108 = some [.int .i64 0, .int .i64 0, .int .i64 0, .int .i64 0, .int .i64 0, .int .i64 0, .int .i64 0, .int .i64 0, .int .i64 0, .int .i64 0, .int .i64 0, .int .i64 0, .int .i64 0, .int .i64 0, .int .i64 0, .int .i64 0, .int .i64 0, .int .i64 0] := by kernel_rfl
@[simp] theorem fi108 (m : Nat) : fits Try.prog 108 m = decide (m * 144 ≤ 140737488355328) := fits_at ze108 (by kernel_rfl) m
@[simp] theorem an108 (n : Int) : (Try.prog.info? 108).any (fun i => decide ((i.bytes : Int) * n ≤ 140737488355328)) = decide (144 * n ≤ 140737488355328) := any_at (by kernel_rfl) n
attribute [simp] Try.underlying109
@[simp] theorem sz109 : sizeT Try.prog 109 = 1 := by kernel_rfl
@[simp] theorem ag109 : isAggT Try.prog 109 = false := by kernel_rfl
@[simp] theorem in109 : (Try.prog.info? 109).isSome = true := by kernel_rfl
@[simp] theorem ze109 : zeroT Try.prog 109 = some [.nilp] := by kernel_rfl
@[simp] theorem fi109 (m : Nat) : fits Try.prog 109 m = decide (m * 8 ≤ 140737488355328) := fits_at ze109 (by kernel_rfl) m
@[simp] theorem an109 (n : Int) : (Try.prog.info? 109).any (fun i => decide ((i.bytes : Int) * n ≤ 140737488355328)) = decide (8 * n ≤ 140737488355328) := any_at (by kernel_rfl) n
attribute [simp] Try.underlying110
@[simp] theorem sz110 : sizeT Try.prog 110 = 24 := by kernel_rfl
@[simp] theorem ag110 : isAggT Try.prog 110 = true := by kernel_rfl
@[simp] theorem in110 : (Try.prog.info? 110).isSome = true := by kernel_rfl
@[simp] theorem ze110 : zeroT Try.prog 110 = some [.int .i64 0, .sl (.mu 0) 0 [], .sl (.mu 0) 0 [], .sl (.mu 0) 0 [], .int .i64 0, .int .i64 0, .int .i64 0, .int .i64 0, .int .i64 0, .int .i64 0, .int .i64 0, .int .i64 0, .int .i64 0, .int .i64 0, .int .i64 0, .int .i64 0, .int .i64 0, .int .i64 0, .int .i64 0, .int .i64 0, .int .i64 0, .int .i64 0, .nilp, .nilp] := by kernel_rfl
@[simp] theorem fi110 (m : Nat) : fits Try.prog 110 m = decide (m * 240 ≤ 140737488355328) := fits_at ze110 (by kernel_rfl) m
@[simp] theorem an110 (n : Int) : (Try.prog.info? 110).any (fun i => decide ((i.bytes : Int) * n ≤ 140737488355328)) = decide (240 * n ≤ 140737488355328) := any_at (by kernel_rfl) n
attribute [simp] Try.underlying111
@[simp] theorem sz111 : sizeT Try.prog 111 = 24 := by kernel_rfl
@[simp] theorem ag111 : isAggT Try.prog 111 = true := by kernel_rfl
@[simp] theorem in111 : (Try.prog.info? 111).isSome = true := by kernel_rfl
@[simp] theorem ze111 : zeroT Try.prog 111 = some [.int .i64 0, .sl (.mu 0) 0 [], .sl (.mu 0) 0 [], .sl (.mu 0) 0 [], .int .i64 0, .int .i64 0, .int .i64 0, .int .i64 0, .int .i64 0, .int .i64 0, .int .i64 0, .int .i64 0, .int .i64 0, .int .i64 0, .int .i64 0, .int .i64 0, .int .i64 0, .int .i64 0, .int .i64 0, .int .i64 0, .int .i64 0, .int .i64 0, .nilp, .nilp] := by kernel_rfl
@[simp] theorem fi111 (m : Nat) : fits Try.prog 111 m = decide (m * 240 ≤ 140737488355328) := fits_at ze111 (by kernel_rfl) m
@[simp] theorem an111 (n : Int) : (Try.prog.info? 111).any (fun i => decide ((i.bytes : Int) * n ≤ 140737488355328)) = decide (240 * n ≤ 140737488355328) := any_at (by kernel_rfl) n
attribute [simp] Try.underlying113
@[simp] theorem sz113 : sizeT Try.prog 113 = 1 := by kernel_rfl
@[simp] theorem ag113 : isAggT Try.prog 113 = false := by kernel_rfl
@[simp] theorem in113 : (Try.prog.info? 113).isSome = true := by kernel_rfl
@[simp] theorem ze113 : zeroT Try.prog 113 = some [.raw .nilFunc] := by kernel_rfl
@[simp] theorem fi113 (m : Nat) : fits Try.prog 113 m = decide (m * 8 ≤ 140737488355328) := fits_at ze113 (by kernel_rfl) m
@[simp] theorem an113 (n : Int) : (Try.prog.info? 113).any (fun i => decide ((i.bytes : Int) * n ≤ 140737488355328)) = decide (8 * n ≤ 140737488355328) := any_at (by kernel_rfl) n
attribute [simp] Try.underlying114
@[simp] theorem sz114 : sizeT Try.prog 114 = 1 := by kernel_rfl
@[simp] theorem ag114 : isAggT Try.prog 114 = false := by kernel_rfl
@[simp] theorem in114 : (Try.prog.info? 114).isSome = true := by kernel_rfl
@[simp] theorem ze114 : zeroT Try.prog 114 = some [.raw .nilFunc] := by kernel_rfl
@[simp] theorem fi114 (m : Nat) : fits Try.prog 114 m = decide (m * 8 ≤ 140737488355328) := fits_at ze114 (by kernel_rfl) m
@[simp] theorem an114 (n : Int) : (Try.prog.info? 114).any (fun i => decide ((i.bytes : Int) * n ≤ 140737488355328)) = decide (8 * n ≤ 140737488355328) := any_at (by kernel_rfl) n
attribute [simp] Try.underlying115
@[simp] theorem sz115 : sizeT Try.prog 115 = 1 := by kernel_rfl
@[simp] theorem ag115 : isAggT Try.prog 115 = false := by kernel_rfl
@[simp] theorem in115 : (Try.prog.info? 115).isSome = true := by kernel_rfl
@[simp] theorem ze115 : zeroT Try.prog 115 = some [.raw .nilFunc] := by kernel_rfl
@[simp] theorem fi115 (m : Nat) : fits Try.prog 115 m = decide (m * 8 ≤ 140737488355328) := fits_at ze115 (by kernel_rfl) m
@[simp] theorem an115 (n : Int) : (Try.prog.info? 115).any (fun i => decide ((i.bytes : Int) * n ≤ 140737488355328)) = decide (8 * n ≤ 140737488355328) := any_at (by kernel_rfl) n
attribute [simp] Try.underlying116
@[simp] theorem sz116 : sizeT Try.prog 116 = 1 := by kernel_rfl
@[simp] theorem ag116 : isAggT Try.prog 116 = false := by kernel_rfl
@[simp] theorem in116 : (Try.prog.info? 116).isSome = true := by kernel_rfl
@[simp] theorem ze116 : zeroT Try.prog 116 = some [.raw .nilFunc] := by kernel_rfl
@[simp] theorem fi116 (m : Nat) : fits Try.prog 116 m = decide (m * 8 ≤ 140737488355328) := fits_at ze116 (by kernel_rfl) m
@[simp] theorem an116 (n : Int) : (Try.prog.info? 116).any (fun i => decide ((i.bytes : Int) * n ≤ 140737488355328)) = decide (8 * n ≤ 140737488355328) := any_at (by kernel_rfl) n
attribute [simp] Try.underlying117
@[simp] theorem sz117 : sizeT Try.prog 117 = 1 := by kernel_rfl
@[simp] theorem ag117 : isAggT Try.prog 117 = false := by kernel_rfl
@[simp] theorem in117 : (Try.prog.info? 117).isSome = true := by kernel_rfl
@[simp] theorem el117 : elemT Try.prog 117 = some 120 := by kernel_rfl
@[simp] theorem ze117 : zeroT Try.prog 117 = some [.sl (.mu 0) 0 []] := by kernel_rfl
@[simp] theorem fi117 (m : Nat) : fits Try.prog 117 m = decide (m * 24 ≤ 140737488355328) := fits_at ze117 (by kernel_rfl) m
@[simp] theorem an117 (n : Int) : (Try.prog.info? 117).any (fun i => decide ((i.bytes : Int) * n ≤ 140737488355328)) = decide (24 * n ≤ 140737488355328) := any_at (by kernel_rfl) n
attribute [simp] Try.underlying118
@[simp] theorem sz118 : sizeT Try.prog 118 = 1 := by kernel_rfl
@[simp] theorem ag118 : isAggT Try.prog 118 = false := by kernel_rfl
@[simp] theorem in118 : (Try.prog.info? 118).isSome = true := by kernel_rfl
@[simp] theorem ze118 : zeroT Try.prog 118 = some [.raw .nilFunc] := by kernel_rfl
@[simp] theorem fi118 (m : Nat) : fits Try.prog 118 m = decide (m * 8 ≤ 140737488355328) := fits_at ze118 (by kernel_rfl) m
@[simp] theorem an118 (n : Int) : (Try.prog.info? 118).any (fun i => decide ((i.bytes : Int) * n ≤ 140737488355328)) = decide (8 * n ≤ 140737488355328) := any_at (by kernel_rfl) n
attribute [simp] Try.underlying119
@[simp] theorem sz119 : sizeT Try.prog 119 = 2 := by kernel_rfl
@[simp] theorem ag119 : isAggT Try.prog 119 = true := by kernel_rfl
@[simp] theorem in119 : (Try.prog.info? 119).isSome = true := by kernel_rfl
@[simp] theorem ze119 : zeroT Try.prog 119 = some [.int .i64 0, .int .i64 0] := by kernel_rfl
@[simp] theorem fi119 (m : Nat) : fits Try.prog 119 m = decide (m * 16 ≤ 140737488355328) := fits_at ze119 (by kernel_rfl) m
@[simp] theorem an119 (n : Int) : (Try.prog.info? 119).any (fun i => decide ((i.bytes : Int) * n ≤ 140737488355328)) = decide (16 * n ≤ 140737488355328) := any_at (by kernel_rfl) n
attribute [simp] Try.underlying120
@[simp] theorem sz120 : sizeT Try.prog 120 = 2 := by kernel_rfl
@[simp] theorem ag120 : isAggT Try.prog 120 = true := by kernel_rfl
@[simp] theorem in120 : (Try.prog.info? 120).isSome = true := by kernel_rfl
@[simp] theorem ze120 : zeroT Try.prog 120 = some [.int .i64 0, .int .i64 0] := by kernel_rfl
@[simp] theorem fi120 (m : Nat) : fits Try.prog 120 m = decide (m * 16 ≤ 140737488355328) := fits_at ze120 (by kernel_rfl) m
@[simp] theorem an120 (n : Int) : (Try.prog.info? 120).any (fun i => decide ((i.bytes : Int) * n ≤ 140737488355328)) = decide (16 * n ≤ 140737488355328) := any_at (by kernel_rfl) n
attribute [simp] Try.underlying121
@[simp] theorem sz121 : sizeT Try.prog 121 = 1 := by kernel_rfl
@[simp] theorem ag121 : isAggT Try.prog 121 = false := by kernel_rfl
@[simp] theorem in121 : (Try.prog.info? 121).isSome = true := by kernel_rfl
@[simp] theorem ze121 : zeroT Try.prog 121 = some [.raw .nilFunc] := by kernel_rfl
@[simp] theorem fi121 (m : Nat) : fits Try.prog 121 m = decide (m * 8 ≤ 140737488355328) := fits_at ze121 (by kernel_rfl) m
@[simp] theorem an121 (n : Int) : (Try.prog.info? 121).any (fun i => decide ((i.bytes : Int) * n ≤ 140737488355328)) = decide (8 * n ≤ 140737488355328) := any_at (by kernel_rfl) n
attribute [simp] Try.underlying122
@[simp] theorem sz122 : sizeT Try.prog 122 = 1 := by kernel_rfl
@[simp] theorem ag122 : isAggT Try.prog 122 = false := by kernel_rfl
@[simp] theorem in122 : (Try.prog.info? 122).isSome = true := by kernel_rfl
@[simp] theorem ze122 : zeroT Try.prog 122 = some [.raw .nilFunc] := by kernel_rfl
@[simp] theorem fi122 (m : Nat) : fits Try.prog 122 m = decide (m * 8 ≤ 140737488355328) := fits_at ze122 (by kernel_rfl) m
@[simp] theorem an122 (n : Int) : (Try.prog.info? 122).any (fun i => decide ((i.bytes : Int) * n ≤ 140737488355328)) = decide (8 * n ≤ 140737488355328) := any_at (by kernel_rfl) n
attribute [simp] Try.underlying123
@[simp] theorem sz123 : sizeT Try.prog 123 = 1 := by kernel_rfl
@[simp] theorem ag123 : isAggT Try.prog 123 = false := by kernel_rfl
@[simp] theorem in123 : (Try.prog.info? 123).isSome = true := by kernel_rfl
@[simp] theorem ze123 : zeroT Try.prog 123 = some [.raw .nilFunc] := by kernel_rfl
@[simp] theorem fi123 (m : Nat) : fits Try.prog 123 m = decide (m * 8 ≤ 140737488355328) := fits_at ze123 (by kernel_rfl) m
@[simp] theorem an123 (n : Int) : (Try.prog.info? 123).any (fun i => decide ((i.bytes : Int) * n ≤ 140737488355328)) = decide (8 * n ≤ 140737488355328) := any_at (by kernel_rfl) n
attribute [simp] Try.underlying124
@[simp] theorem sz124 : sizeT Try.prog 124 = 1 := by kernel_rfl
@[simp] theorem ag124 : isAggT Try.prog 124 = false := by kernel_rfl
@[simp] theorem in124 : (Try.prog.info? 124).isSome = true := by kernel_rfl
@[simp] theorem ze124 : zeroT Try.prog 124 = some [.int .u64 0] := by kernel_rfl
@[simp] theorem fi124 (m : Nat) : fits Try.prog 124 m = decide (m * 8 ≤ 140737488355328) := fits_at ze124 (by kernel_rfl) m
@[simp] theorem an124 (n : Int) : (Try.prog.info? 124).any (fun i => decide ((i.bytes : Int) * n ≤ 140737488355328)) = decide (8 * n ≤ 140737488355328) := any_at (by kernel_rfl) n
attribute [simp] Try.underlying125
@[simp] theorem sz125 : sizeT Try.prog 125 = 1 := by kernel_rfl
@[simp] theorem ag125 : isAggT Try.prog 125 = false := by kernel_rfl
@[simp] theorem in125 : (Try.prog.info? 125).isSome = true := by kernel_rfl
@[simp] theorem ze125 : zeroT Try.prog 125 = some [.raw .nilFunc] := by kernel_rfl
@[simp] theorem fi125 (m : Nat) : fits Try.prog 125 m = decide (m * 8 ≤ 140737488355328) := fits_at ze125 (by kernel_rfl) m
@[simp] theorem an125 (n : Int) : (Try.prog.info? 125).any (fun i => decide ((i.bytes : Int) * n ≤ 140737488355328)) = decide (8 * n ≤ 140737488355328) := any_at (by kernel_rfl) n
attribute [simp] Try.underlying126
@[simp] theorem sz126 : sizeT Try.prog 126 = 1 := by kernel_rfl
@[simp] theorem ag126 : isAggT Try.prog 126 = false := by kernel_rfl
@[simp] theorem in126 : (Try.prog.info? 126).isSome = true := by kernel_rfl
@[simp] theorem ze126 : zeroT Try.prog 126 = some [.raw .nilFunc] := by kernel_rfl
@[simp] theorem fi126 (m : Nat) : fits Try.prog 126 m = decide (m * 8 ≤ 140737488355328) := fits_at ze126 (by kernel_rfl) m
@[simp] theorem an126 (n : Int) : (Try.prog.info? 126).any (fun i => decide ((i.bytes : Int) * n ≤ 140737488355328)) = decide (8 * n ≤ 140737488355328) := any_at (by kernel_rfl) n
attribute [simp] Try.underlying127
@[simp] theorem sz127 : sizeT Try.prog 127 = 1 := by kernel_rfl
@[simp] theorem ag127 : isAggT Try.prog 127 = false := by kernel_rfl
@[simp] theorem in127 : (Try.prog.info? 127).isSome = true := by kernel_rfl
@[simp] theorem ze127 : zeroT Try.prog 127 = some [.raw .nilFunc] := by kernel_rfl
@[simp] theorem fi127 (m : Nat) : fits Try.prog 127 m = decide (m * 8 ≤ 140737488355328) := fits_at ze127 (by kernel_rfl) m
@[simp] theorem an127 (n : Int) : (Try.prog.info? 127).any (fun i => decide ((i.bytes : Int) * n ≤ 140737488355328)) = decide (8 * n ≤ 140737488355328) := any_at (by kernel_rfl) n
attribute [simp] Try.underlying128
@[simp] theorem sz128 : sizeT Try.prog 128 = 1 := by kernel_rfl
@[simp] theorem ag128 : isAggT Try.prog 128 = false := by kernel_rfl
@[simp] theorem in128 : (Try.prog.info? 128).isSome = true := by kernel_rfl
@[simp] theorem ze128 : zeroT Try.prog 128 = some [.raw .nilFunc] := by kernel_rfl
@[simp] theorem fi128 (m : Nat) : fits Try.prog 128 m = decide (m * 8 ≤ 140737488355328) := fits_at ze128 (by kernel_rfl) m
@[simp] theorem an128 (n : Int) : (Try.prog.info? 128).any (fun i => decide ((i.bytes : Int) * n ≤ 140737488355328)) = decide (8 * n ≤ 140737488355328) := any_at (by kernel_rfl) n
attribute [simp] Try.underlying129
@[simp] theorem sz129 : sizeT Try.prog 129 = 1 := by kernel_rfl
@[simp] theorem ag129 : isAggT Try.prog 129 = false := by kernel_rfl
@[simp] theorem in129 : (Try.prog.info? 129).isSome = true := by kernel_rfl
@[simp] theorem ze129 : zeroT Try.prog 129 = some [.raw .nilFunc] := by kernel_rfl
@[simp] theorem fi129 (m : Nat) : fits Try.prog 129 m = decide (m * 8 ≤ 140737488355328) := fits_at ze129 (by kernel_rfl) m
@[simp] theorem an129 (n : Int) : (Try.prog.info? 129).any (fun i => decide ((i.bytes : Int) * n ≤ 140737488355328)) = decide (8 * n ≤ 140737488355328) := any_at (by kernel_rfl) n
attribute [simp] Try.underlying130
@[simp] theorem sz130 : sizeT Try.prog 130 = 1 := by kernel_rfl
@[simp] theorem ag130 : isAggT Try.prog 130 = false := by kernel_rfl
@[simp] theorem in130 : (Try.prog.info? 130).isSome = true := by kernel_rfl
@[simp] theorem ze130 : zeroT Try.prog 130 = some [.raw .nilFunc] := by kernel_rfl
@[simp] theorem fi130 (m : Nat) : fits Try.prog 130 m = decide (m * 8 ≤ 140737488355328) := fits_at ze130 (by kernel_rfl) m
@[simp] theorem an130 (n : Int) : (Try.prog.info? 130).any (fun i => decide ((i.bytes : Int) * n ≤ 140737488355328)) = decide (8 * n ≤ 140737488355328) := any_at (by kernel_rfl) n
attribute [simp] Try.underlying131
@[simp] theorem sz131 : sizeT Try.prog 131 = 1 := by kernel_rfl
@[simp] theorem ag131 : isAggT Try.prog 131 = false := by kernel_rfl
@[simp] theorem in131 : (Try.prog.info? 131).isSome = true := by kernel_rfl
@[simp] theorem ze131 : zeroT Try.prog 131 = some [.raw .nilFunc] := by kernel_rfl
@[simp] theorem fi131 (m : Nat) : fits Try.prog 131 m = decide (m * 8 ≤ 140737488355328) := fits_at ze131 (by kernel_rfl) m
@[simp] theorem an131 (n : Int) : (Try.prog.info? 131).any (fun i => decide ((i.bytes : Int) * n ≤ 140737488355328)) = decide (8 * n ≤ 140737488355328) := any_at (by kernel_rfl) n
attribute [simp] Try.underlying132
@[simp] theorem sz132 : sizeT Try.prog 132 = 1 := by kernel_rfl
@[simp] theorem ag132 : isAggT Try.prog 132 = false := by kernel_rfl
@[simp] theorem in132 : (Try.prog.info? 132).isSome = true := by kernel_rfl
@[simp] theorem ze132 : zeroT Try.prog 132 = some [.raw .nilFunc] := by kernel_rfl
@[simp] theorem fi132 (m : Nat) : fits Try.prog 132 m = decide (m * 8 ≤ 140737488355328) := fits_at ze132 (by kernel_rfl) m
@[simp] theorem an132 (n : Int) : (Try.prog.info? 132).any (fun i => decide ((i.bytes : Int) * n ≤ 140737488355328)) = decide (8 * n ≤ 140737488355328) := any_at (by kernel_rfl) n
attribute [simp] Try.underlying133
@[simp] theorem sz133 : sizeT Try.prog 133 = 2 := by kernel_rfl
@[simp] theorem ag133 : isAggT Try.prog 133 = true := by kernel_rfl
@[simp] theorem in133 : (Try.prog.info? 133).isSome = true := by kernel_rfl
@[simp] theorem ze133 : zeroT Try.prog 133 = some [.int .i64 0, .sl (.mu 0) 0 []] := by kernel_rfl
@[simp] theorem fi133 (m : Nat) : fits Try.prog 133 m = decide (m * 32 ≤ 140737488355328) := fits_at ze133 (by kernel_rfl) m
@[simp] theorem an133 (n : Int) : (Try.prog.info? 133).any (fun i => decide ((i.bytes : Int) * n ≤ 140737488355328)) = decide (32 * n ≤ 140737488355328) := any_at (by kernel_rfl) n
attribute [simp] Try.underlying134
@[simp] theorem sz134 : sizeT Try.prog 134 = 2 := by kernel_rfl
@[simp] theorem ag134 : isAggT Try.prog 134 = true := by kernel_rfl
@[simp] theorem in134 : (Try.prog.info? 134).isSome = true := by kernel_rfl
@[simp] theorem ze134 : zeroT Try.prog 134 = some [.int .i64 0, .sl (.mu 0) 0 []] := by kernel_rfl
@[simp] theorem fi134 (m : Nat) : fits Try.prog 134 m = decide (m * 32 ≤ 140737488355328) := fits_at ze134 (by kernel_rfl) m
@[simp] theorem an134 (n : Int) : (Try.prog.info? 134).any (fun i => decide ((i.bytes : Int) * n ≤ 140737488355328)) = decide (32 * n ≤ 140737488355328) := any_at (by kernel_rfl) n
attribute [simp] Try.underlying135
@[simp] theorem sz135 : sizeT Try.prog 135 = 1 := by kernel_rfl
@[simp] theorem ag135 : isAggT Try.prog 135 = false := by kernel_rfl
@[simp] theorem in135 : (Try.prog.info? 135).isSome = true := by kernel_rfl
@[simp] theorem ze135 : zeroT Try.prog 135 = some [.raw .nilFunc] := by kernel_rfl
@[simp] theorem fi135 (m : Nat) : fits Try.prog 135 m = decide (m * 8 ≤ 140737488355328) := fits_at ze135 (by kernel_rfl) m
@[simp] theorem an135 (n : Int) : (Try.prog.info? 135).any (fun i => decide ((i.bytes : Int) * n ≤ 140737488355328)) = decide (8 * n ≤ 140737488355328) := any_at (by kernel_rfl) n
attribute [simp] Try.underlying136
@[simp] theorem sz136 : sizeT Try.prog 136 = 1 := by kernel_rfl
@[simp] theorem ag136 : isAggT Try.prog 136 = false := by kernel_rfl
@[simp] theorem in136 : (Try.prog.info? 136).isSome = true := by kernel_rfl
@[simp] theorem ze136 : zeroT Try.prog 136 = some [.raw .nilFunc] := by kernel_rfl
@[simp] theorem fi136 (m : Nat) : fits Try.prog 136 m = decide (m * 8 ≤ 140737488355328) := fits_at ze136 (by kernel_rfl) m
@[simp] theorem an136 (n : Int) : (Try.prog.info? 136).any (fun i => decide ((i.bytes : Int) * n ≤ 140737488355328)) = decide (8 * n ≤ 140737488355328) := any_at (by kernel_rfl) n
attribute [simp] Try.underlying138
@[simp] theorem sz138 : sizeT Try.prog 138 = 1 := by kernel_rfl
@[simp] theorem ag138 : isAggT Try.prog 138 = false := by kernel_rfl
@[simp] theorem in138 : (Try.prog.info? 138).isSome = true := by kernel_rfl
@[simp] theorem ze138 : zeroT Try.prog 138 = some [.raw .nilFunc] := by kernel_rfl
@[simp] theorem fi138 (m : Nat) : fits Try.prog 138 m = decide (m * 8 ≤ 140737488355328) := fits_at ze138 (by kernel_rfl) m
@[simp] theorem an138 (n : Int) : (Try.prog.info? 138).any (fun i => decide ((i.bytes : Int) * n ≤ 140737488355328)) = decide (8 * n ≤ 140737488355328) := any_at (by kernel_rfl) n
attribute [simp] Try.underlying139
@[simp] theorem sz139 : sizeT Try.prog 139 = 1 := by kernel_rfl
@[simp] theorem ag139 : isAggT Try.prog 139 = false := by kernel_rfl
@[simp] theorem in139 : (Try.prog.info? 139).isSome = true := by kernel_rfl
@[simp] theorem ze139 : zeroT Try.prog 139 = some [.raw .nilFunc] := by kernel_rfl
@[simp] theorem fi139 (m : Nat) : fits Try.prog 139 m = decide (m * 8 ≤ 140737488355328) := fits_at ze139 (by kernel_rfl) m
@[simp] theorem an139 (n : Int) : (Try.prog.info? 139).any (fun i => decide ((i.bytes : Int) * n ≤ 140737488355328)) = decide (8 * n ≤ 140737488355328) := any_at (by kernel_rfl) n
attribute [simp] Try.underlying140
@[simp] theorem sz140 : sizeT Try.prog 140 = 1 := by kernel_rfl
@[simp] theorem ag140 : isAggT Try.prog 140 = false := by kernel_rfl
@[simp] theorem in140 : (Try.prog.info? 140).isSome = true := by kernel_rfl
@[simp] theorem ze140 : zeroT Try.prog 140 = some [.raw .nilFunc] := by kernel_rfl
@[simp] theorem fi140 (m : Nat) : fits Try.prog 140 m = decide (m * 8 ≤ 140737488355328) := fits_at ze140 (by kernel_rfl) m
@[simp] theorem an140 (n : Int) : (Try.prog.info? 140).any (fun i => decide ((i.bytes : Int) * n ≤ 140737488355328)) = decide (8 * n ≤ 140737488355328) := any_at (by kernel_rfl) n
attribute [simp] Try.underlying141
@[simp] theorem sz141 : sizeT Try.prog 141 = 1 := by kernel_rfl
@[simp] theorem ag141 : isAggT Try.prog 141 = false := by kernel_rfl
@[simp] theorem in141 : (Try.prog.info? 141).isSome = true := by kernel_rfl
@[simp] theorem ze141 : zeroT Try.prog 141 = some [.raw .nilFunc] := by kernel_rfl
@[simp] theorem fi141 (m : Nat) : fits Try.prog 141 m = decide (m * 8 ≤ 140737488355328) := fits_at ze141 (by kernel_rfl) m
@[simp] theorem an141 (n : Int) : (Try.prog.info? 141).any (fun i => decide ((i.bytes : Int) * n ≤ 140737488355328)) = decide (8 * n ≤ 140737488355328) := any_at (by kernel_rfl) n
attribute [simp] Try.underlying142
@[simp] theorem sz142 : sizeT Try.prog 142 = 1 := by kernel_rfl
@[simp] theorem ag142 : isAggT Try.prog 142 = false := by kernel_rfl
@[simp] theorem in142 : (Try.prog.info? 142).isSome = true := by kernel_rfl
@[simp] theorem ze142 : zeroT Try.prog 142 = some [.raw .nilFunc] := by kernel_rfl
@[simp] theorem fi142 (m : Nat) : fits Try.prog 142 m = decide (m * 8 ≤ 140737488355328) := fits_at ze142 (by kernel_rfl) m
@[simp] theorem an142 (n : Int) : (Try.prog.info? 142).any (fun i => decide ((i.bytes : Int) * n ≤ 140737488355328)) = decide (8 * n ≤ 140737488355328) := any_at (by kernel_rfl) n
attribute [simp] Try.underlying143
@[simp] theorem sz143 : sizeT Try.prog 143 = 1 := by kernel_rfl
@[simp] theorem ag143 : isAggT Try.prog 143 = false := by kernel_rfl
@[simp] theorem in143 : (Try.prog.info? 143).isSome = true := by kernel_rfl
@[simp] theorem ze143 : zeroT Try.prog 143 = some [.int .i64 0] := by kernel_rfl
@[simp] theorem fi143 (m : Nat) : fits Try.prog 143 m = decide (m * 8 ≤ 140737488355328) := fits_at ze143 (by kernel_rfl) m
@[simp] theorem an143 (n : Int) : (Try.prog.info? 143).any (fun i => decide ((i.bytes : Int) * n ≤ 140737488355328)) = decide (8 * n ≤ 140737488355328) := any_at (by kernel_rfl) n
attribute [simp] Try.underlying145
@[simp] theorem sz145 : sizeT Try.prog 145 = 1 := by kernel_rfl
@[simp] theorem ag145 : isAggT Try.prog 145 = false := by kernel_rfl
@[simp] theorem in145 : (Try.prog.info? 145).isSome = true := by kernel_rfl
@[simp] theorem ze145 : zeroT Try.prog 145 = some [.raw .nilFunc] := by kernel_rfl
@[simp] theorem fi145 (m : Nat) : fits Try.prog 145 m = decide (m * 8 ≤ 140737488355328) := fits_at ze145 (by kernel_rfl) m
@[simp] theorem an145 (n : Int) : (Try.prog.info? 145).any (fun i => decide ((i.bytes : Int) * n ≤ 140737488355328)) = decide (8 * n ≤ 140737488355328) := any_at (by kernel_rfl) n
attribute [simp] Try.underlying146
@[simp] theorem sz146 : sizeT Try.prog 146 = 1 := by kernel_rfl
@[simp] theorem ag146 : isAggT Try.prog 146 = false := by kernel_rfl
@[simp] theorem in146 : (Try.prog.info? 146).isSome = true := by kernel_rfl
@[simp] theorem ze146 : zeroT Try.prog 146 = some [.raw .nilFunc] := by kernel_rfl
@[simp] theorem fi146 (m : Nat) : fits Try.prog 146 m = decide (m * 8 ≤ 140737488355328) := fits_at ze146 (by kernel_rfl) m
@[simp] theorem an146 (n : Int) : (Try.prog.info? 146).any (fun i => decide ((i.bytes : Int) * n ≤ 140737488355328)) = decide (8 * n ≤ 140737488355328) := any_at (by kernel_rfl) n
attribute [simp] Try.underlying147
@[simp] theorem sz147 : sizeT Try.prog 147 = 1 := by kernel_rfl
@[simp] theorem ag147 : isAggT Try.prog 147 = false := by kernel_rfl
@[simp] theorem in147 : (Try.prog.info? 147).isSome = true := by kernel_rfl
@[simp] theorem ze147 : zeroT Try.prog 147 = some [.raw .nilFunc] := by kernel_rfl
@[simp] theorem fi147 (m : Nat) : fits Try.prog 147 m = decide (m * 8 ≤ 140737488355328) := fits_at ze147 (by kernel_rfl) m
@[simp] theorem an147 (n : Int) : (Try.prog.info? 147).any (fun i => decide ((i.bytes : Int) * n ≤ 140737488355328)) = decide (8 * n ≤ 140737488355328) := any_at (by kernel_rfl) n
attribute [simp] Try.underlying149
@[simp] theorem sz149 : sizeT Try.prog 149 = 1 := by kernel_rfl
@[simp] theorem ag149 : isAggT Try.prog 149 = false := by kernel_rfl
@[simp] theorem in149 : (Try.prog.info? 149).isSome = true := by kernel_rfl
@[simp] theorem ze149 : zeroT Try.prog 149 = some [.raw .nilFunc] := by kernel_rfl
@[simp] theorem fi149 (m : Nat) : fits Try.prog 149 m = decide (m * 8 ≤ 140737488355328) := fits_at ze149 (by kernel_rfl) m
@[simp] theorem an149 (n : Int) : (Try.prog.info? 149).any (fun i => decide ((i.bytes : Int) * n ≤ 140737488355328)) = decide (8 * n ≤ 140737488355328) := any_at (by kernel_rfl) n
attribute [simp] Try.underlying150
@[simp] theorem sz150 : sizeT Try.prog 150 = 1 := by kernel_rfl
@[simp] theorem ag150 : isAggT Try.prog 150 = false := by kernel_rfl
@[simp] theorem in150 : (Try.prog.info? 150).isSome = true := by kernel_rfl
@[simp] theorem ze150 : zeroT Try.prog 150 = some [.raw .nilFunc] := by kernel_rfl
@[simp] theorem fi150 (m : Nat) : fits Try.prog 150 m = decide (m * 8 ≤ 140737488355328) := fits_at ze150 (by kernel_rfl) m
@[simp] theorem an150 (n : Int) : (Try.prog.info? 150).any (fun i => decide ((i.bytes : Int) * n ≤ 140737488355328)) = decide (8 * n ≤ 140737488355328) := any_at (by kernel_rfl) n
attribute [simp] Try.underlying151
@[simp] theorem sz151 : sizeT Try.prog 151 = 1 := by kernel_rfl
@[simp] theorem ag151 : isAggT Try.prog 151 = false := by kernel_rfl
@[simp] theorem in151 : (Try.prog.info? 151).isSome = true := by kernel_rfl
@[simp] theorem ze151 : zeroT Try.prog 151 = some [.int .u32 0] := by kernel_rfl
@[simp] theorem fi151 (m : Nat) : fits Try.prog 151 m = decide (m * 4 ≤ 140737488355328) := fits_at ze151 (by kernel_rfl) m
@[simp] theorem an151 (n : Int) : (Try.prog.info? 151).any (fun i => decide ((i.bytes : Int) * n ≤ 140737488355328)) = decide (4 * n ≤ 140737488355328) := any_at (by kernel_rfl) n
attribute [simp] Try.underlying152
@[simp] theorem sz152 : sizeT Try.prog 152 = 1 := by kernel_rfl
@[simp] theorem ag152 : isAggT Try.prog 152 = false := by kernel_rfl
@[simp] theorem in152 : (Try.prog.info? 152).isSome = true := by kernel_rfl
@[simp] theorem ze152 : zeroT Try.prog 152 = some [.raw .nilFunc] := by kernel_rfl
@[simp] theorem fi152 (m : Nat) : fits Try.prog 152 m = decide (m * 8 ≤ 140737488355328) := fits_at ze152 (by kernel_rfl) m
@[simp] theorem an152 (n : Int) : (Try.prog.info? 152).any (fun i => decide ((i.bytes : Int) * n ≤ 140737488355328)) = decide (8 * n ≤ 140737488355328) := any_at (by kernel_rfl) n
attribute [simp] Try.underlying153
@[simp] theorem sz153 : sizeT Try.prog 153 = 1 := by kernel_rfl
@[simp] theorem ag153 : isAggT Try.prog 153 = false := by kernel_rfl
@[simp] theorem in153 : (Try.prog.info? 153).isSome = true := by kernel_rfl
@[simp] theorem ze153 : zeroT Try.prog 153 = some [.int .u64 0] := by kernel_rfl
@[simp] theorem fi153 (m : Nat) : fits Try.prog 153 m = decide (m * 8 ≤ 140737488355328) := fits_at ze153 (by kernel_rfl) m
@[simp] theorem an153 (n : Int) : (Try.prog.info? 153).any (fun i => decide ((i.bytes : Int) * n ≤ 140737488355328)) = decide (8 * n ≤ 140737488355328) := any_at (by kernel_rfl) n
attribute [simp] Try.underlying154
@[simp] theorem sz154 : sizeT Try.prog 154 = 1 := by kernel_rfl
@[simp] theorem ag154 : isAggT Try.prog 154 = false := by kernel_rfl
@[simp] theorem in154 : (Try.prog.info? 154).isSome = true := by kernel_rfl
@[simp] theorem ze154 : zeroT Try.prog 154 = some [.raw .nilFunc] := by kernel_rfl
@[simp] theorem fi154 (m : Nat) : fits Try.prog 154 m = decide (m * 8 ≤ 140737488355328) := fits_at ze154 (by kernel_rfl) m
@[simp] theorem an154 (n : Int) : (Try.prog.info? 154).any (fun i => decide ((i.bytes : Int) * n ≤ 140737488355328)) = decide (8 * n ≤ 140737488355328) := any_at (by kernel_rfl) n
attribute [simp] Try.underlying155
@[simp] theorem sz155 : sizeT Try.prog 155 = 1 := by kernel_rfl
@[simp] theorem ag155 : isAggT Try.prog 155 = false := by kernel_rfl
@[simp] theorem in155 : (Try.prog.info? 155).isSome = true := by kernel_rfl
@[simp] theorem ze155 : zeroT Try.prog 155 = some [.raw .nilFunc] := by kernel_rfl
@[simp] theorem fi155 (m : Nat) : fits Try.prog 155 m = decide (m * 8 ≤ 140737488355328) := fits_at ze155 (by kernel_rfl) m
@[simp] theorem an155 (n : Int) : (Try.prog.info? 155).any (fun i => decide ((i.bytes : Int) * n ≤ 140737488355328)) = decide (8 * n ≤ 140737488355328) := any_at (by kernel_rfl) n
attribute [simp] Try.underlying156
@[simp] theorem sz156 : sizeT Try.prog 156 = 1 := by kernel_rfl
@[simp] theorem ag156 : isAggT Try.prog 156 = false := by kernel_rfl
@[simp] theorem in156 : (Try.prog.info? 156).isSome = true := by kernel_rfl
@[simp] theorem ze156 : zeroT Try.prog 156 = some [.raw .nilFunc] := by kernel_rfl
@[simp] theorem fi156 (m : Nat) : fits Try.prog 156 m = decide (m * 8 ≤ 140737488355328) := fits_at ze156 (by kernel_rfl) m
@[simp] theorem an156 (n : Int) : (Try.prog.info? 156).any (fun i => decide ((i.bytes : Int) * n ≤ 140737488355328)) = decide (8 * n ≤ 140737488355328) := any_at (by kernel_rfl) n
attribute [simp] Try.underlying157
@[simp] theorem sz157 : sizeT Try.prog 157 = 1 := by kernel_rfl
@[simp] theorem ag157 : isAggT Try.prog 157 = false := by kernel_rfl
@[simp] theorem in157 : (Try.prog.info? 157).isSome = true := by kernel_rfl
@[simp] theorem ze157 : zeroT Try.prog 157 = some [.raw .nilFunc] := by kernel_rfl
@[simp] theorem fi157 (m : Nat) : fits Try.prog 157 m = decide (m * 8 ≤ 140737488355328) := fits_at ze157 (by kernel_rfl) m
@[simp] theorem an157 (n : Int) : (Try.prog.info? 157).any (fun i => decide ((i.bytes : Int) * n ≤ 140737488355328)) = decide (8 * n ≤ 140737488355328) := any_at (by kernel_rfl) n
attribute [simp] Try.underlying158
@[simp] theorem sz158 : sizeT Try.prog 158 = 1 := by kernel_rfl
@[simp] theorem ag158 : isAggT Try.prog 158 = false := by kernel_rfl
@[simp] theorem in158 : (Try.prog.info? 158).isSome = true := by kernel_rfl
@[simp] theorem ze158 : zeroT Try.prog 158 = some [.raw .nilFunc] := by kernel_rfl
@[simp] theorem fi158 (m : Nat) : fits Try.prog 158 m = decide (m * 8 ≤ 140737488355328) := fits_at ze158 (by kernel_rfl) m
@[simp] theorem an158 (n : Int) : (Try.prog.info? 158).any (fun i => decide ((i.bytes : Int) * n ≤ 140737488355328)) = decide (8 * n ≤ 140737488355328) := any_at (by kernel_rfl) n
attribute [simp] Try.underlying159
@[simp] theorem sz159 : sizeT Try.prog 159 = 1 := by kernel_rfl
@[simp] theorem ag159 : isAggT Try.prog 159 = false := by kernel_rfl
@[simp] theorem in159 : (Try.prog.info? 159).isSome = true := by kernel_rfl
@[simp] theorem ze159 : zeroT Try.prog 159 = some [.raw .nilFunc] := by kernel_rfl
@[simp] theorem fi159 (m : Nat) : fits Try.prog 159 m = decide (m * 8 ≤ 140737488355328) := fits_at ze159 (by kernel_rfl) m
@[simp] theorem an159 (n : Int) : (Try.prog.info? 159).any (fun i => decide ((i.bytes : Int) * n ≤ 140737488355328)) = decide (8 * n ≤ 140737488355328) := any_at (by kernel_rfl) n
attribute [simp] Try.underlying160
@[simp] theorem sz160 : sizeT Try.prog 160 = 1 := by kernel_rfl
@[simp] theorem ag160 : isAggT Try.prog 160 = false := by kernel_rfl
@[simp] theorem in160 : (Try.prog.info? 160).isSome = true := by kernel_rfl
@[simp] theorem ze160 : zeroT Try.prog 160 = some [.raw .nilFunc] := by kernel_rfl
@[simp] theorem fi160 (m : Nat) : fits Try.prog 160 m = decide (m * 8 ≤ 140737488355328) := fits_at ze160 (by kernel_rfl) m
@[simp] theorem an160 (n : Int) : (Try.prog.info? 160).any (fun i => decide ((i.bytes : Int) * n ≤ 140737488355328)) = decide (8 * n ≤ 140737488355328) := any_at (by kernel_rfl) n
attribute [simp] Try.underlying161
@[simp] theorem sz161 : sizeT Try.prog 161 = 1 := by kernel_rfl
@[simp] theorem ag161 : isAggT Try.prog 161 = false := by kernel_rfl
@[simp] theorem in161 : (Try.prog.info? 161).isSome = true := by kernel_rfl
@[simp] theorem ze161 : zeroT Try.prog 161 = some [.int .u64 0] := by kernel_rfl
@[simp] theorem fi161 (m : Nat) : fits Try.prog 161 m = decide (m * 8 ≤ 140737488355328) := fits_at ze161 (by kernel_rfl) m
@[simp] theorem an161 (n : Int) : (Try.prog.info? 161).any (fun i => decide ((i.bytes : Int) * n ≤ 140737488355328)) = decide (8 * n ≤ 140737488355328) := any_at (by kernel_rfl) n
attribute [simp] Try.underlying162
@[simp] theorem sz162 : sizeT Try.prog 162 = 1 := by kernel_rfl
@[simp] theorem ag162 : isAggT Try.prog 162 = false := by kernel_rfl
@[simp] theorem in162 : (Try.prog.info? 162).isSome = true := by kernel_rfl
@[simp] theorem ze162 : zeroT Try.prog 162 = some [.raw .nilFunc] := by kernel_rfl
@[simp] theorem fi162 (m : Nat) : fits Try.prog 162 m = decide (m * 8 ≤ 140737488355328) := fits_at ze162 (by kernel_rfl) m
@[simp] theorem an162 (n : Int) : (Try.prog.info? 162).any (fun i => decide ((i.bytes : Int) * n ≤ 140737488355328)) = decide (8 * n ≤ 140737488355328) := any_at (by kernel_rfl) n
attribute [simp] Try.underlying163
@[simp] theorem sz163 : sizeT Try.prog 163 = 1 := by kernel_rfl
@[simp] theorem ag163 : isAggT Try.prog 163 = false := by kernel_rfl
@[simp] theorem in163 : (Try.prog.info? 163).isSome = true := by kernel_rfl
@[simp] theorem ze163 : zeroT Try.prog 163 = some [.raw .nilFunc] := by kernel_rfl
@[simp] theorem fi163 (m : Nat) : fits Try.prog 163 m = decide (m * 8 ≤ 140737488355328) := fits_at ze163 (by kernel_rfl) m
@[simp] theorem an163 (n : Int) : (Try.prog.info? 163).any (fun i => decide ((i.bytes : Int) * n ≤ 140737488355328)) = decide (8 * n ≤ 140737488355328) := any_at (by kernel_rfl) n
attribute [simp] Try.underlying164
@[simp] theorem sz164 : sizeT Try.prog 164 = 1 := by kernel_rfl
@[simp] theorem ag164 : isAggT Try.prog 164 = false := by kernel_rfl
@[simp] theorem in164 : (Try.prog.info? 164).isSome = true := by kernel_rfl
@[simp] theorem ze164 : zeroT Try.prog 164 = some [.raw .nilFunc] := by kernel_rfl
@[simp] theorem fi164 (m : Nat) : fits Try.prog 164 m = decide (m * 8 ≤ 140737488355328) := fits_at ze164 (by kernel_rfl) m
@[simp] theorem an164 (n : Int) : (Try.prog.info? 164).any (fun i => decide ((i.bytes : Int) * n ≤ 140737488355328)) = decide (8 * n ≤ 140737488355328) := any_at (by kernel_rfl) n
attribute [simp] Try.underlying165
@[simp] theorem sz165 : sizeT Try.prog 165 = 1 := by kernel_rfl
@[simp] theorem ag165 : isAggT Try.prog 165 = false := by kernel_rfl
@[simp] theorem in165 : (Try.prog.info? 165).isSome = true := by kernel_rfl
@[simp] theorem ze165 : zeroT Try.prog 165 = some [.nilp] := by kernel_rfl
@[simp] theorem fi165 (m : Nat) : fits Try.prog 165 m = decide (m * 8 ≤ 140737488355328) := fits_at ze165 (by kernel_rfl) m
@[simp] theorem an165 (n : Int) : (Try.prog.info? 165).any (fun i => decide ((i.bytes : Int) * n ≤ 140737488355328)) = decide (8 * n ≤ 140737488355328) := any_at (by kernel_rfl) n
attribute [simp] Try.underlying166
@[simp] theorem sz166 : sizeT Try.prog 166 = 1 := by kernel_rfl
@[simp] theorem ag166 : isAggT Try.prog 166 = false := by kernel_rfl
@[simp] theorem in166 : (Try.prog.info? 166).isSome = true := by kernel_rfl
@[simp] theorem ze166 : zeroT Try.prog 166 = some [.raw .nilFunc] := by kernel_rfl
@[simp] theorem fi166 (m : Nat) : fits Try.prog 166 m = decide (m * 8 ≤ 140737488355328) := fits_at ze166 (by kernel_rfl) m
@[simp] theorem an166 (n : Int) : (Try.prog.info? 166).any (fun i => decide ((i.bytes : Int) * n ≤ 140737488355328)) = decide (8 * n ≤ 140737488355328) := any_at (by kernel_rfl) n
attribute [simp] Try.underlying167
@[simp] theorem sz167 : sizeT Try.prog 167 = 1 := by kernel_rfl
@[simp] theorem ag167 : isAggT Try.prog 167 = false := by kernel_rfl
@[simp] theorem in167 : (Try.prog.info? 167).isSome = true := by kernel_rfl
@[simp] theorem ze167 : zeroT Try.prog 167 = some [.raw .nilFunc] := by kernel_rfl
@[simp] theorem fi167 (m : Nat) : fits Try.prog 167 m = decide (m * 8 ≤ 140737488355328) := fits_at ze167 (by kernel_rfl) m
@[simp] theorem an167 (n : Int) : (Try.prog.info? 167).any (fun i => decide ((i.bytes : Int) * n ≤ 140737488355328)) = decide (8 * n ≤ 140737488355328) := any_at (by kernel_rfl) n
attribute [simp] Try.underlying168
@[simp] theorem sz168 : sizeT Try.prog 168 = 1 := by kernel_rfl
@[simp] theorem ag168 : isAggT Try.prog 168 = false := by kernel_rfl
@[simp] theorem in168 : (Try.prog.info? 168).isSome = true := by kernel_rfl
@[simp] theorem ze168 : zeroT Try.prog 168 = some [.nilp] := by kernel_rfl
@[simp] theorem fi168 (m : Nat) : fits Try.prog 168 m = decide (m * 8 ≤ 140737488355328) := fits_at ze168 (by kernel_rfl) m
@[simp] theorem an168 (n : Int) : (Try.prog.info? 168).any (fun i => decide ((i.bytes : Int) * n ≤ 140737488355328)) = decide (8 * n ≤ 140737488355328) := any_at (by kernel_rfl) n
attribute [simp] Try.underlying169
@[simp] theorem sz169 : sizeT Try.prog 169 = 1 := by kernel_rfl
@[simp] theorem ag169 : isAggT Try.prog 169 = false := by kernel_rfl
@[simp] theorem in169 : (Try.prog.info? 169).isSome = true := by kernel_rfl
@[simp] theorem ze169 : zeroT Try.prog 169 = some [.raw .nilFunc] := by kernel_rfl
@[simp] theorem fi169 (m : Nat) : fits Try.prog 169 m = decide (m * 8 ≤ 140737488355328) := fits_at ze169 (by kernel_rfl) m
@[simp] theorem an169 (n : Int) : (Try.prog.info? 169).any (fun i => decide ((i.bytes : Int) * n ≤ 140737488355328)) = decide (8 * n ≤ 140737488355328) := any_at (by kernel_rfl) n
attribute [simp] Try.underlying170
@[simp] theorem sz170 : sizeT Try.prog 170 = 1 := by kernel_rfl
@[simp] theorem ag170 : isAggT Try.prog 170 = false := by kernel_rfl
@[simp] theorem in170 : (Try.prog.info? 170).isSome = true := by kernel_rfl
@[simp] theorem ze170 : zeroT Try.prog 170 = some [.raw .nilFunc] := by kernel_rfl
@[simp] theorem fi170 (m : Nat) : fits Try.prog 170 m = decide (m * 8 ≤ 140737488355328) := fits_at ze170 (by kernel_rfl) m
@[simp] theorem an170 (n : Int) : (Try.prog.info? 170).any (fun i => decide ((i.bytes : Int) * n ≤ 140737488355328)) = decide (8 * n ≤ 140737488355328) := any_at (by kernel_rfl) n
attribute [simp] Try.underlying171
@[simp] theorem sz171 : sizeT Try.prog 171 = 4 := by kernel_rfl
@[simp] theorem ag171 : isAggT Try.prog 171 = true := by kernel_rfl
@[simp] theorem in171 : (Try.prog.info? 171).isSome = true := by kernel_rfl
@[simp] theorem ze171 : zeroT Try.prog 171 = some [.nilp, .nilp, .nilp, .str []] := by kernel_rfl
@[simp] theorem fi171 (m : Nat) : fits Try.prog 171 m = decide (m * 40 ≤ 140737488355328) := fits_at ze171 (by kernel_rfl) m
@[simp] theorem an171 (n : Int) : (Try.prog.info? 171).any (fun i => decide ((i.bytes : Int) * n ≤ 140737488355328)) = decide (40 * n ≤ 140737488355328) := any_at (by kernel_rfl) n
attribute [simp] Try.underlying172
@[simp] theorem sz172 : sizeT Try.prog 172 = 4 := by kernel_rfl
@[simp] theorem ag172 : isAggT Try.prog 172 = true := by kernel_rfl
@[simp] theorem in172 : (Try.prog.info? 172).isSome = true := by kernel_rfl
@[simp] theorem ze172 : zeroT Try.prog 172 = some [.nilp, .nilp, .nilp, .str []] := by kernel_rfl
@[simp] theorem fi172 (m : Nat) : fits Try.prog 172 m = decide (m * 40 ≤ 140737488355328) := fits_at ze172 (by kernel_rfl) m
@[simp] theorem an172 (n : Int) : (Try.prog.info? 172).any (fun i => decide ((i.bytes : Int) * n ≤ 140737488355328)) = decide (40 * n ≤ 140737488355328) := any_at (by kernel_rfl) n
attribute [simp] Try.underlying173
@[simp] theorem sz173 : sizeT Try.prog 173 = 0 := by kernel_rfl
@[simp] theorem ag173 : isAggT Try.prog 173 = true := by kernel_rfl
@[simp] theorem in173 : (Try.prog.info? 173).isSome = true := by kernel_rfl
@[simp] theorem ze173 : zeroT Try.prog 173 = some [] := by kernel_rfl
attribute [simp] Try.underlying174
@[simp] theorem sz174 : sizeT Try.prog 174 = 0 := by kernel_rfl
@[simp] theorem ag174 : isAggT Try.prog 174 = true := by kernel_rfl
@[simp] theorem in174 : (Try.prog.info? 174).isSome = true := by kernel_rfl
@[simp] theorem ze174 : zeroT Try.prog 174 = some [] := by kernel_rfl
attribute [simp] Try.underlying175
@[simp] theorem sz175 : sizeT Try.prog 175 = 0 := by kernel_rfl
@[simp] theorem ag175 : isAggT Try.prog 175 = true := by kernel_rfl
@[simp] theorem in175 : (Try.prog.info? 175).isSome = true := by kernel_rfl
@[simp] theorem ze175 : zeroT Try.prog 175 = some [] := by kernel_rfl
attribute [simp] Try.underlying176
@[simp] theorem sz176 : sizeT Try.prog 176 = 1 := by kernel_rfl
@[simp] theorem ag176 : isAggT Try.prog 176 = false := by kernel_rfl
@[simp] theorem in176 : (Try.prog.info? 176).isSome = true := by kernel_rfl
@[simp] theorem ze176 : zeroT Try.prog 176 = some [.int .u8 0] := by kernel_rfl
@[simp] theorem fi176 (m : Nat) : fits Try.prog 176 m = decide (m * 1 ≤ 140737488355328) := fits_at ze176 (by kernel_rfl) m
@[simp] theorem an176 (n : Int) : (Try.prog.info? 176).any (fun i => decide ((i.bytes : Int) * n ≤ 140737488355328)) = decide (1 * n ≤ 140737488355328) := any_at (by kernel_rfl) n
attribute [simp] Try.underlying177
@[simp] theorem sz177 : sizeT Try.prog 177 = 1 := by kernel_rfl
@[simp] theorem ag177 : isAggT Try.prog 177 = false := by kernel_rfl
@[simp] theorem in177 : (Try.prog.info? 177).isSome = true := by kernel_rfl
@[simp] theorem ze177 : zeroT Try.prog 177 = some [.int .u8 0] := by kernel_rfl
@[simp] theorem fi177 (m : Nat) : fits Try.prog 177 m = decide (m * 1 ≤ 140737488355328) := fits_at ze177 (by kernel_rfl) m
@[simp] theorem an177 (n : Int) : (Try.prog.info? 177).any (fun i => decide ((i.bytes : Int) * n ≤ 140737488355328)) = decide (1 * n ≤ 140737488355328) := any_at (by kernel_rfl) n
attribute [simp] Try.underlying178
@[simp] theorem sz178 : sizeT Try.prog 178 = 1 := by kernel_rfl
@[simp] theorem ag178 : isAggT Try.prog 178 = false := by kernel_rfl
@[simp] theorem in178 : (Try.prog.info? 178).isSome = true := by kernel_rfl
@[simp] theorem ze178 : zeroT Try.prog 178 = some [.raw .nilFunc] := by kernel_rfl
@[simp] theorem fi178 (m : Nat) : fits Try.prog 178 m = decide (m * 8 ≤ 140737488355328) := fits_at ze178 (by kernel_rfl) m
@[simp] theorem an178 (n : Int) : (Try.prog.info? 178).any (fun i => decide ((i.bytes : Int) * n ≤ 140737488355328)) = decide (8 * n ≤ 140737488355328) := any_at (by kernel_rfl) n
attribute [simp] Try.underlying179
@[simp] theorem sz179 : sizeT Try.prog 179 = 1 := by kernel_rfl
@[simp] theorem ag179 : isAggT Try.prog 179 = false := by kernel_rfl
@[simp] theorem in179 : (Try.prog.info? 179).isSome = true := by kernel_rfl
@[simp] theorem ze179 : zeroT Try.prog 179 = some [.nilp] := by kernel_rfl
@[simp] theorem fi179 (m : Nat) : fits Try.prog 179 m = decide (m * 8 ≤ 140737488355328) := fits_at ze179 (by kernel_rfl) m
@[simp] theorem an179 (n : Int) : (Try.prog.info? 179).any (fun i => decide ((i.bytes : Int) * n ≤ 140737488355328)) = decide (8 * n ≤ 140737488355328) := any_at (by kernel_rfl) n
attribute [simp] Try.underlying180
@[simp] theorem sz180 : sizeT Try.prog 180 = 1 := by kernel_rfl
@[simp] theorem ag180 : isAggT Try.prog 180 = false := by kernel_rfl
@[simp] theorem in180 : (Try.prog.info? 180).isSome = true := by kernel_rfl
@[simp] theorem ze180 : zeroT Try.prog 180 = some [.int .i32 0] := by kernel_rfl
@[simp] theorem fi180 (m : Nat) : fits Try.prog 180 m = decide (m * 4 ≤ 140737488355328) := fits_at ze180 (by kernel_rfl) m
@[simp] theorem an180 (n : Int) : (Try.prog.info? 180).any (fun i => decide ((i.bytes : Int) * n ≤ 140737488355328)) = decide (4 * n ≤ 140737488355328) := any_at (by kernel_rfl) n
attribute [simp] Try.underlying181
@[simp] theorem sz181 : sizeT Try.prog 181 = 1 := by kernel_rfl
@[simp] theorem ag181 : isAggT Try.prog 181 = false := by kernel_rfl
@[simp] theorem in181 : (Try.prog.info? 181).isSome = true := by kernel_rfl
@[simp] theorem ze181 : zeroT Try.prog 181 = some [.int .i32 0] := by kernel_rfl
@[simp] theorem fi181 (m : Nat) : fits Try.prog 181 m = decide (m * 4 ≤ 140737488355328) := fits_at ze181 (by kernel_rfl) m
@[simp] theorem an181 (n : Int) : (Try.prog.info? 181).any (fun i => decide ((i.bytes : Int) * n ≤ 140737488355328)) = decide (4 * n ≤ 140737488355328) := any_at (by kernel_rfl) n
attribute [simp] Try.underlying182
@[simp] theorem sz182 : sizeT Try.prog 182 = 11 := by kernel_rfl
@[simp] theorem ag182 : isAggT Try.prog 182 = true := by kernel_rfl
@[simp] theorem in182 : (Try.prog.info? 182).isSome = true := by kernel_rfl
@[simp] theorem ze182 : zeroT Try.prog 182 = some [.int .u64 0, .int .u64 0, .int .u32 0, .int .u8 0, .int .u8 0, .int .u8 0, .int .u8 0, .raw .nilFunc, .nilp, .int .i32 0, .int .i32 0] := by kernel_rfl
@[simp] theorem fi182 (m : Nat) : fits Try.prog 182 m = decide (m * 48 ≤ 140737488355328) := fits_at ze182 (by kernel_rfl) m
@[simp] theorem an182 (n : Int) : (Try.prog.info? 182).any (fun i => decide ((i.bytes : Int) * n ≤ 140737488355328)) = decide (48 * n ≤ 140737488355328) := any_at (by kernel_rfl) n
attribute [simp] Try.underlying183
@[simp] theorem sz183 : sizeT Try.prog 183 = 11 := by kernel_rfl
@[simp] theorem ag183 : isAggT Try.prog 183 = true := by kernel_rfl
@[simp] theorem in183 : (Try.prog.info? 183).isSome = true := by kernel_rfl
@[simp] theorem ze183 : zeroT Try.prog 183 = some [.int .u64 0, .int .u64 0, .int .u32 0, .int .u8 0, .int .u8 0, .int .u8 0, .int .u8 0, .raw .nilFunc, .nilp, .int .i32 0, .int .i32 0] := by kernel_rfl
@[simp] theorem fi183 (m : Nat) : fits Try.prog 183 m = decide (m * 48 ≤ 140737488355328) := fits_at ze183 (by kernel_rfl) m
@[simp] theorem an183 (n : Int) : (Try.prog.info? 183).any (fun i => decide ((i.bytes : Int) * n ≤ 140737488355328)) = decide (48 * n ≤ 140737488355328) := any_at (by kernel_rfl) n
attribute [simp] keep2 head2
@[simp] theorem hK2 : hint2.keep = keep2 := rfl
@[simp] theorem hH2 : hint2.head = head2 := rfl
@[simp] theorem hB2 (t : Nat) : hint2.box t = ([] : List Nat).contains t := rfl
@[simp] theorem hD2 (t : Nat) : hint2.dies t = ([] : List Nat).contains t := rfl
@[simp] theorem ow2 : (hints 2).own = none := rfl
theorem hh2 : hints 2 = hint2 := rfl
@[simp] theorem hS2 (t : Nat) : hint2.soft t = [] := rfl
@[simp] theorem hL2 (t : Nat) : hint2.lazy t = none := rfl
attribute [simp] keep3 head3
@[simp] theorem hK3 : hint3.keep = keep3 := rfl
@[simp] theorem hH3 : hint3.head = head3 := rfl
@[simp] theorem hB3 (t : Nat) : hint3.box t = ([8] : List Nat).contains t := rfl
@[simp] theorem hD3 (t : Nat) : hint3.dies t = ([14, 20, 24, 28, 30, 35, 36, 39, 40, 43, 44, 47, 48, 51, 57, 58, 59] : List Nat).contains t := rfl
@[simp] theorem ow3 : (hints 3).own = none := rfl
theorem hh3 : hints 3 = hint3 := rfl
@[simp] theorem hS3 (t : Nat) : hint3.soft t = [] := rfl
@[simp] theorem hL3 (t : Nat) : hint3.lazy t = none := rfl
attribute [simp] keep4 head4
@[simp] theorem hK4 : hint4.keep = keep4 := rfl
@[simp] theorem hH4 : hint4.head = head4 := rfl
@[simp] theorem hB4 (t : Nat) : hint4.box t = ([8, 10] : List Nat).contains t := rfl
@[simp] theorem hD4 (t : Nat) : hint4.dies t = ([15, 19, 29, 30, 33, 34, 35, 38, 40, 44, 55, 66, 79, 85, 86, 89, 94, 95, 96, 102, 103, 106, 111, 112, 113] : List Nat).contains t := rfl
@[simp] theorem ow4 : (hints 4).own = none := rfl
theorem hh4 : hints 4 = hint4 := rfl
@[simp] theorem hS4 (t : Nat) : hint4.soft t = [] := rfl
@[simp] theorem hL4 (t : Nat) : hint4.lazy t = none := rfl
attribute [simp] free4 pairs4
@[simp] theorem hF4 : hint4.free = free4 := rfl
@[simp] theorem hP4 : hint4.pairs = pairs4 := rfl
attribute [simp] keep5 head5
@[simp] theorem hK5 : hint5.keep = keep5 := rfl
@[simp] theorem hH5 : hint5.head = head5 := rfl
@[simp] theorem hB5 (t : Nat) : hint5.box t = ([15] : List Nat).contains t := rfl
@[simp] theorem hD5 (t : Nat) : hint5.dies t = ([17, 21, 30, 31, 34, 42, 43, 45, 53, 55, 57, 60, 61, 64, 65, 67, 72, 78, 79, 82] : List Nat).contains t := rfl
@[simp] theorem ow5 : (hints 5).own = none := rfl
theorem hh5 : hints 5 = hint5 := rfl
@[simp] theorem hS5 (t : Nat) : hint5.soft t = [] := rfl
@[simp] theorem hL5 (t : Nat) : hint5.lazy t = none := rfl
attribute [simp] keep6 head6
@[simp] theorem hK6 : hint6.keep = keep6 := rfl
@[simp] theorem hH6 : hint6.head = head6 := rfl
@[simp] theorem hB6 (t : Nat) : hint6.box t = ([] : List Nat).contains t := rfl
@[simp] theorem hD6 (t : Nat) : hint6.dies t = ([14, 18, 27, 28, 31, 41, 50, 59, 73, 74, 77, 78, 81, 82, 83, 84, 89, 90, 93, 94, 97, 98, 99] : List Nat).contains t := rfl
@[simp] theorem ow6 : (hints 6).own = none := rfl
theorem hh6 : hints 6 = hint6 := rfl
@[simp] theorem hS6 (t : Nat) : hint6.soft t = [] := rfl
@[simp] theorem hL6 (t : Nat) : hint6.lazy t = none := rfl
attribute [simp] keep7 head7
@[simp] theorem hK7 : hint7.keep = keep7 := rfl
@[simp] theorem hH7 : hint7.head = head7 := rfl
@[simp] theorem hB7 (t : Nat) : hint7.box t = ([3, 8, 11, 12] : List Nat).contains t := rfl
@[simp] theorem hD7 (t : Nat) : hint7.dies t = ([18, 23, 43, 44, 59, 62, 77, 87, 98, 101] : List Nat).contains t := rfl
@[simp] theorem ow7 : (hints 7).own = none := rfl
theorem hh7 : hints 7 = hint7 := rfl
@[simp] theorem hS7 (t : Nat) : hint7.soft t = [] := rfl
@[simp] theorem hL7 (t : Nat) : hint7.lazy t = none := rfl
attribute [simp] free7 pairs7
@[simp] theorem hF7 : hint7.free = free7 := rfl
@[simp] theorem hP7 : hint7.pairs = pairs7 := rfl
attribute [simp] keep8 head8
@[simp] theorem hK8 : hint8.keep = keep8 := rfl
@[simp] theorem hH8 : hint8.head = head8 := rfl
@[simp] theorem hB8 (t : Nat) : hint8.box t = ([1] : List Nat).contains t := rfl
@[simp] theorem hD8 (t : Nat) : hint8.dies t = ([21, 40, 42, 65, 76, 102, 104, 132, 154, 167, 175, 195, 196, 200, 201, 205, 206, 211, 212, 215, 216, 219, 220, 223, 224] : List Nat).contains t := rfl
@[simp] theorem ow8 : (hints 8).own = none := rfl
theorem hh8 : hints 8 = hint8 := rfl
@[simp] theorem hS8 (t : Nat) : hint8.soft t = [] := rfl
@[simp] theorem hL8 (t : Nat) : hint8.lazy t = none := rfl
attribute [simp] free8 pairs8
@[simp] theorem hF8 : hint8.free = free8 := rfl
@[simp] theorem hP8 : hint8.pairs = pairs8 := rfl
attribute [simp] keep9 head9
@[simp] theorem hK9 : hint9.keep = keep9 := rfl
@[simp] theorem hH9 : hint9.head = head9 := rfl
@[simp] theorem hB9 (t : Nat) : hint9.box t = ([3, 9, 12, 14] : List Nat).contains t := rfl
@[simp] theorem hD9 (t : Nat) : hint9.dies t = ([16, 26, 27, 30, 31, 36, 37, 40, 47, 55, 63, 74, 76, 87, 90, 91, 93, 103, 110, 113, 122, 130, 133, 134, 135, 150, 157, 158, 159, 160, 162] : List Nat).contains t := rfl
@[simp] theorem ow9 : (hints 9).own = none := rfl
theorem hh9 : hints 9 = hint9 := rfl
@[simp] theorem hS9 (t : Nat) : hint9.soft t = [] := rfl
@[simp] theorem hL9 (t : Nat) : hint9.lazy t = none := rfl
attribute [simp] free9 pairs9
@[simp] theorem hF9 : hint9.free = free9 := rfl
@[simp] theorem hP9 : hint9.pairs = pairs9 := rfl
attribute [simp] keep10 head10
@[simp] theorem hK10 : hint10.keep = keep10 := rfl
@[simp] theorem hH10 : hint10.head = head10 := rfl
@[simp] theorem hB10 (t : Nat) : hint10.box t = ([2, 9, 10] : List Nat).contains t := rfl
@[simp] theorem hD10 (t : Nat) : hint10.dies t = ([11, 18, 19, 23, 29, 45, 54, 63, 64, 65, 67, 68, 72, 79, 86] : List Nat).contains t := rfl
@[simp] theorem ow10 : (hints 10).own = none := rfl
theorem hh10 : hints 10 = hint10 := rfl
@[simp] theorem hS10 (t : Nat) : hint10.soft t = [] := rfl
@[simp] theorem hL10 (t : Nat) : hint10.lazy t = none := rfl
attribute [simp] free10 pairs10
@[simp] theorem hF10 : hint10.free = free10 := rfl
@[simp] theorem hP10 : hint10.pairs = pairs10 := rfl
attribute [simp] keep11 head11
@[simp] theorem hK11 : hint11.keep = keep11 := rfl
@[simp] theorem hH11 : hint11.head = head11 := rfl
@[simp] theorem hB11 (t : Nat) : hint11.box t = ([2, 8, 9, 10, 11, 12, 14] : List Nat).contains t := rfl
@[simp] theorem hD11 (t : Nat) : hint11.dies t = ([17, 24, 30, 34, 41, 54, 64, 69, 73, 78, 84, 122, 136, 143, 149, 155] : List Nat).contains t := rfl
@[simp] theorem ow11 : (hints 11).own = none := rfl
theorem hh11 : hints 11 = hint11 := rfl
@[simp] theorem hS11 (t : Nat) : hint11.soft t = [] := rfl
@[simp] theorem hL11 (t : Nat) : hint11.lazy t = none := rfl
attribute [simp] keep12 head12
@[simp] theorem hK12 : hint12.keep = keep12 := rfl
@[simp] theorem hH12 : hint12.head = head12 := rfl
@[simp] theorem hB12 (t : Nat) : hint12.box t = ([2, 5, 7, 9] : List Nat).contains t := rfl
@[simp] theorem hD12 (t : Nat) : hint12.dies t = ([11, 17, 19, 23, 26, 32, 35, 41, 47, 48, 51] : List Nat).contains t := rfl
@[simp] theorem ow12 : (hints 12).own = none := rfl
theorem hh12 : hints 12 = hint12 := rfl
@[simp] theorem hS12 (t : Nat) : hint12.soft t = [] := rfl
@[simp] theorem hL12 (t : Nat) : hint12.lazy t = none := rfl
attribute [simp] keep13 head13
@[simp] theorem hK13 : hint13.keep = keep13 := rfl
@[simp] theorem hH13 : hint13.head = head13 := rfl
@[simp] theorem hB13 (t : Nat) : hint13.box t = ([4, 6] : List Nat).contains t := rfl
@[simp] theorem hD13 (t : Nat) : hint13.dies t = ([10, 11, 15, 19] : List Nat).contains t := rfl
@[simp] theorem ow13 : (hints 13).own = none := rfl
theorem hh13 : hints 13 = hint13 := rfl
@[simp] theorem hS13 (t : Nat) : hint13.soft t = [] := rfl
@[simp] theorem hL13 (t : Nat) : hint13.lazy t = none := rfl
attribute [simp] keep14 head14
@[simp] theorem hK14 : hint14.keep = keep14 := rfl
@[simp] theorem hH14 : hint14.head = head14 := rfl
@[simp] theorem hB14 (t : Nat) : hint14.box t = ([10] : List Nat).contains t := rfl
@[simp] theorem hD14 (t : Nat) : hint14.dies t = ([12, 13, 14, 21, 28, 34, 35, 44] : List Nat).contains t := rfl
@[simp] theorem ow14 : (hints 14).own = none := rfl
theorem hh14 : hints 14 = hint14 := rfl
@[simp] theorem hS14 (t : Nat) : hint14.soft t = [] := rfl
@[simp] theorem hL14 (t : Nat) : hint14.lazy t = none := rfl
attribute [simp] keep15 head15
@[simp] theorem hK15 : hint15.keep = keep15 := rfl
@[simp] theorem hH15 : hint15.head = head15 := rfl
@[simp] theorem hB15 (t : Nat) : hint15.box t = ([] : List Nat).contains t := rfl
@[simp] theorem hD15 (t : Nat) : hint15.dies t = ([8, 21, 22] : List Nat).contains t := rfl
@[simp] theorem ow15 : (hints 15).own = none := rfl
theorem hh15 : hints 15 = hint15 := rfl
@[simp] theorem hS15 (t : Nat) : hint15.soft t = [] := rfl
@[simp] theorem hL15 (t : Nat) : hint15.lazy t = none := rfl
attribute [simp] free15 pairs15
@[simp] theorem hF15 : hint15.free = free15 := rfl
@[simp] theorem hP15 : hint15.pairs = pairs15 := rfl
attribute [simp] keep16 head16
@[simp] theorem hK16 : hint16.keep = keep16 := rfl
@[simp] theorem hH16 : hint16.head = head16 := rfl
@[simp] theorem hB16 (t : Nat) : hint16.box t = ([] : List Nat).contains t := rfl
@[simp] theorem hD16 (t : Nat) : hint16.dies t = ([9, 15, 20, 25, 26, 30, 32, 33, 36, 37, 40, 41, 44, 45, 48, 49] : List Nat).contains t := rfl
@[simp] theorem ow16 : (hints 16).own = none := rfl
theorem hh16 : hints 16 = hint16 := rfl
@[simp] theorem hS16 (t : Nat) : hint16.soft t = [] := rfl
@[simp] theorem hL16 (t : Nat) : hint16.lazy t = none := rfl
attribute [simp] keep17 head17
@[simp] theorem hK17 : hint17.keep = keep17 := rfl
@[simp] theorem hH17 : hint17.head = head17 := rfl
@[simp] theorem hB17 (t : Nat) : hint17.box t = ([5] : List Nat).contains t := rfl
@[simp] theorem hD17 (t : Nat) : hint17.dies t = ([7, 10, 12, 16, 18, 25] : List Nat).contains t := rfl
@[simp] theorem ow17 : (hints 17).own = none := rfl
theorem hh17 : hints 17 = hint17 := rfl
@[simp] theorem hS17 (t : Nat) : hint17.soft t = [] := rfl
@[simp] theorem hL17 (t : Nat) : hint17.lazy t = none := rfl
attribute [simp] keep18 head18
@[simp] theorem hK18 : hint18.keep = keep18 := rfl
@[simp] theorem hH18 : hint18.head = head18 := rfl
@[simp] theorem hB18 (t : Nat) : hint18.box t = ([4, 5] : List Nat).contains t := rfl
@[simp] theorem hD18 (t : Nat) : hint18.dies t = ([7, 8, 9, 13] : List Nat).contains t := rfl
@[simp] theorem ow18 : (hints 18).own = none := rfl
theorem hh18 : hints 18 = hint18 := rfl
@[simp] theorem hS18 (t : Nat) : hint18.soft t = [] := rfl
@[simp] theorem hL18 (t : Nat) : hint18.lazy t = none := rfl
attribute [simp] keep19 head19
@[simp] theorem hK19 : hint19.keep = keep19 := rfl
@[simp] theorem hH19 : hint19.head = head19 := rfl
@[simp] theorem hB19 (t : Nat) : hint19.box t = ([7, 8] : List Nat).contains t := rfl
@[simp] theorem hD19 (t : Nat) : hint19.dies t = ([13, 15, 22, 32, 33, 49] : List Nat).contains t := rfl
@[simp] theorem ow19 : (hints 19).own = none := rfl
theorem hh19 : hints 19 = hint19 := rfl
@[simp] theorem hS19 (t : Nat) : hint19.soft t = [] := rfl
@[simp] theorem hL19 (t : Nat) : hint19.lazy t = none := rfl
attribute [simp] free19 pairs19
@[simp] theorem hF19 : hint19.free = free19 := rfl
@[simp] theorem hP19 : hint19.pairs = pairs19 := rfl
attribute [simp] keep20 head20
@[simp] theorem hK20 : hint20.keep = keep20 := rfl
@[simp] theorem hH20 : hint20.head = head20 := rfl
@[simp] theorem hB20 (t : Nat) : hint20.box t = ([4] : List Nat).contains t := rfl
@[simp] theorem hD20 (t : Nat) : hint20.dies t = ([11, 20, 25, 30, 35, 40, 51, 64] : List Nat).contains t := rfl
@[simp] theorem ow20 : (hints 20).own = none := rfl
theorem hh20 : hints 20 = hint20 := rfl
@[simp] theorem hS20 (t : Nat) : hint20.soft t = [] := rfl
@[simp] theorem hL20 (t : Nat) : hint20.lazy t = none := rfl
attribute [simp] free20 pairs20
@[simp] theorem hF20 : hint20.free = free20 := rfl
@[simp] theorem hP20 : hint20.pairs = pairs20 := rfl
attribute [simp] keep21 head21
@[simp] theorem hK21 : hint21.keep = keep21 := rfl
@[simp] theorem hH21 : hint21.head = head21 := rfl
@[simp] theorem hB21 (t : Nat) : hint21.box t = ([4] : List Nat).contains t := rfl
@[simp] theorem hD21 (t : Nat) : hint21.dies t = ([10, 19, 20] : List Nat).contains t := rfl
@[simp] theorem ow21 : (hints 21).own = none := rfl
theorem hh21 : hints 21 = hint21 := rfl
@[simp] theorem hS21 (t : Nat) : hint21.soft t = [] := rfl
@[simp] theorem hL21 (t : Nat) : hint21.lazy t = none := rfl
attribute [simp] keep22 head22
@[simp] theorem hK22 : hint22.keep = keep22 := rfl
@[simp] theorem hH22 : hint22.head = head22 := rfl
@[simp] theorem hB22 (t : Nat) : hint22.box t = ([] : List Nat).contains t := rfl
@[simp] theorem hD22 (t : Nat) : hint22.dies t = ([12, 18, 32, 39, 46, 47, 48, 51] : List Nat).contains t := rfl
@[simp] theorem ow22 : (hints 22).own = none := rfl
theorem hh22 : hints 22 = hint22 := rfl
@[simp] theorem hS22 (t : Nat) : hint22.soft t = [] := rfl
@[simp] theorem hL22 (t : Nat) : hint22.lazy t = none := rfl
attribute [simp] free22 pairs22
@[simp] theorem hF22 : hint22.free = free22 := rfl
@[simp] theorem hP22 : hint22.pairs = pairs22 := rfl
attribute [simp] keep23 head23
@[simp] theorem hK23 : hint23.keep = keep23 := rfl
@[simp] theorem hH23 : hint23.head = head23 := rfl
@[simp] theorem hB23 (t : Nat) : hint23.box t = ([1, 2] : List Nat).contains t := rfl
@[simp] theorem hD23 (t : Nat) : hint23.dies t = ([] : List Nat).contains t := rfl
@[simp] theorem ow23 : (hints 23).own = none := rfl
theorem hh23 : hints 23 = hint23 := rfl
@[simp] theorem hS23 (t : Nat) : hint23.soft t = [] := rfl
@[simp] theorem hL23 (t : Nat) : hint23.lazy t = none := rfl
attribute [simp] keep24 head24
@[simp] theorem hK24 : hint24.keep = keep24 := rfl
@[simp] theorem hH24 : hint24.head = head24 := rfl
@[simp] theorem hB24 (t : Nat) : hint24.box t = ([10] : List Nat).contains t := rfl
@[simp] theorem hD24 (t : Nat) : hint24.dies t = ([11, 12, 21, 27, 28, 37] : List Nat).contains t := rfl
@[simp] theorem ow24 : (hints 24).own = none := rfl
theorem hh24 : hints 24 = hint24 := rfl
@[simp] theorem hS24 (t : Nat) : hint24.soft t = [] := rfl
@[simp] theorem hL24 (t : Nat) : hint24.lazy t = none := rfl
attribute [simp] keep25 head25
@[simp] theorem hK25 : hint25.keep = keep25 := rfl
@[simp] theorem hH25 : hint25.head = head25 := rfl
@[simp] theorem hB25 (t : Nat) : hint25.box t = ([2] : List Nat).contains t := rfl
@[simp] theorem hD25 (t : Nat) : hint25.dies t = ([8, 14, 15] : List Nat).contains t := rfl
@[simp] theorem ow25 : (hints 25).own = none := rfl
theorem hh25 : hints 25 = hint25 := rfl
@[simp] theorem hS25 (t : Nat) : hint25.soft t = [] := rfl
@[simp] theorem hL25 (t : Nat) : hint25.lazy t = none := rfl
attribute [simp] keep26 head26
@[simp] theorem hK26 : hint26.keep = keep26 := rfl
@[simp] theorem hH26 : hint26.head = head26 := rfl
@[simp] theorem hB26 (t : Nat) : hint26.box t = ([1] : List Nat).contains t := rfl
@[simp] theorem hD26 (t : Nat) : hint26.dies t = ([14, 18, 24, 30] : List Nat).contains t := rfl
@[simp] theorem ow26 : (hints 26).own = none := rfl
theorem hh26 : hints 26 = hint26 := rfl
@[simp] theorem hS26 (t : Nat) : hint26.soft t = [] := rfl
@[simp] theorem hL26 (t : Nat) : hint26.lazy t = none := rfl
attribute [simp] keep27 head27
@[simp] theorem hK27 : hint27.keep = keep27 := rfl
@[simp] theorem hH27 : hint27.head = head27 := rfl
@[simp] theorem hB27 (t : Nat) : hint27.box t = ([1, 2] : List Nat).contains t := rfl
@[simp] theorem hD27 (t : Nat) : hint27.dies t = ([22, 23, 29, 33, 38] : List Nat).contains t := rfl
@[simp] theorem ow27 : (hints 27).own = none := rfl
theorem hh27 : hints 27 = hint27 := rfl
@[simp] theorem hS27 (t : Nat) : hint27.soft t = [] := rfl
attribute [simp] lazy27
@[simp] theorem hL27 : hint27.lazy = lazy27 := rfl
attribute [simp] keep28 head28
@[simp] theorem hK28 : hint28.keep = keep28 := rfl
@[simp] theorem hH28 : hint28.head = head28 := rfl
@[simp] theorem hB28 (t : Nat) : hint28.box t = ([1] : List Nat).contains t := rfl
@[simp] theorem hD28 (t : Nat) : hint28.dies t = ([] : List Nat).contains t := rfl
@[simp] theorem ow28 : (hints 28).own = none := rfl
theorem hh28 : hints 28 = hint28 := rfl
@[simp] theorem hS28 (t : Nat) : hint28.soft t = [] := rfl
@[simp] theorem hL28 (t : Nat) : hint28.lazy t = none := rfl
attribute [simp] keep29 head29
@[simp] theorem hK29 : hint29.keep = keep29 := rfl
@[simp] theorem hH29 : hint29.head = head29 := rfl
@[simp] theorem hB29 (t : Nat) : hint29.box t = ([1, 5] : List Nat).contains t := rfl
@[simp] theorem hD29 (t : Nat) : hint29.dies t = ([9, 14, 15, 25] : List Nat).contains t := rfl
@[simp] theorem ow29 : (hints 29).own = none := rfl
theorem hh29 : hints 29 = hint29 := rfl
@[simp] theorem hS29 (t : Nat) : hint29.soft t = [] := rfl
@[simp] theorem hL29 (t : Nat) : hint29.lazy t = none := rfl
attribute [simp] keep30 head30
@[simp] theorem hK30 : hint30.keep = keep30 := rfl
@[simp] theorem hH30 : hint30.head = head30 := rfl
@[simp] theorem hB30 (t : Nat) : hint30.box t = ([2, 7] : List Nat).contains t := rfl
@[simp] theorem hD30 (t : Nat) : hint30.dies t = ([13, 21, 26, 35] : List Nat).contains t := rfl
@[simp] theorem ow30 : (hints 30).own = none := rfl
theorem hh30 : hints 30 = hint30 := rfl
@[simp] theorem hS30 (t : Nat) : hint30.soft t = [] := rfl
@[simp] theorem hL30 (t : Nat) : hint30.lazy t = none := rfl
attribute [simp] keep31 head31
@[simp] theorem hK31 : hint31.keep = keep31 := rfl
@[simp] theorem hH31 : hint31.head = head31 := rfl
@[simp] theorem hB31 (t : Nat) : hint31.box t = ([] : List Nat).contains t := rfl
@[simp] theorem hD31 (t : Nat) : hint31.dies t = ([10, 15, 26, 27] : List Nat).contains t := rfl
@[simp] theorem ow31 : (hints 31).own = none := rfl
theorem hh31 : hints 31 = hint31 := rfl
@[simp] theorem hS31 (t : Nat) : hint31.soft t = [] := rfl
@[simp] theorem hL31 (t : Nat) : hint31.lazy t = none := rfl
attribute [simp] free31 pairs31
@[simp] theorem hF31 : hint31.free = free31 := rfl
@[simp] theorem hP31 : hint31.pairs = pairs31 := rfl
attribute [simp] keep32 head32
@[simp] theorem hK32 : hint32.keep = keep32 := rfl
@[simp] theorem hH32 : hint32.head = head32 := rfl
@[simp] theorem hB32 (t : Nat) : hint32.box t = ([1, 6] : List Nat).contains t := rfl
@[simp] theorem hD32 (t : Nat) : hint32.dies t = ([31, 47, 60, 61, 72, 73] : List Nat).contains t := rfl
@[simp] theorem ow32 : (hints 32).own = none := rfl
theorem hh32 : hints 32 = hint32 := rfl
@[simp] theorem hS32 (t : Nat) : hint32.soft t = [] := rfl
@[simp] theorem hL32 (t : Nat) : hint32.lazy t = none := rfl
attribute [simp] free32 pairs32
@[simp] theorem hF32 : hint32.free = free32 := rfl
@[simp] theorem hP32 : hint32.pairs = pairs32 := rfl
attribute [simp] keep33 head33
@[simp] theorem hK33 : hint33.keep = keep33 := rfl
@[simp] theorem hH33 : hint33.head = head33 := rfl
@[simp] theorem hB33 (t : Nat) : hint33.box t = ([1] : List Nat).contains t := rfl
@[simp] theorem hD33 (t : Nat) : hint33.dies t = ([5, 17, 19, 24, 29, 35, 40, 41] : List Nat).contains t := rfl
@[simp] theorem ow33 : (hints 33).own = none := rfl
theorem hh33 : hints 33 = hint33 := rfl
@[simp] theorem hS33 (t : Nat) : hint33.soft t = [] := rfl
@[simp] theorem hL33 (t : Nat) : hint33.lazy t = none := rfl
attribute [simp] keep34 head34
@[simp] theorem hK34 : hint34.keep = keep34 := rfl
@[simp] theorem hH34 : hint34.head = head34 := rfl
@[simp] theorem hB34 (t : Nat) : hint34.box t = ([] : List Nat).contains t := rfl
@[simp] theorem hD34 (t : Nat) : hint34.dies t = ([5] : List Nat).contains t := rfl
@[simp] theorem ow34 : (hints 34).own = none := rfl
theorem hh34 : hints 34 = hint34 := rfl
@[simp] theorem hS34 (t : Nat) : hint34.soft t = [] := rfl
@[simp] theorem hL34 (t : Nat) : hint34.lazy t = none := rfl
attribute [simp] keep35 head35
@[simp] theorem hK35 : hint35.keep = keep35 := rfl
@[simp] theorem hH35 : hint35.head = head35 := rfl
@[simp] theorem hB35 (t : Nat) : hint35.box t = ([] : List Nat).contains t := rfl
@[simp] theorem hD35 (t : Nat) : hint35.dies t = ([5] : List Nat).contains t := rfl
@[simp] theorem ow35 : (hints 35).own = none := rfl
theorem hh35 : hints 35 = hint35 := rfl
@[simp] theorem hS35 (t : Nat) : hint35.soft t = [] := rfl
@[simp] theorem hL35 (t : Nat) : hint35.lazy t = none := rfl
attribute [simp] keep36 head36
@[simp] theorem hK36 : hint36.keep = keep36 := rfl
@[simp] theorem hH36 : hint36.head = head36 := rfl
@[simp] theorem hB36 (t : Nat) : hint36.box t = ([4] : List Nat).contains t := rfl
@[simp] theorem hD36 (t : Nat) : hint36.dies t = ([8, 15, 20] : List Nat).contains t := rfl
@[simp] theorem ow36 : (hints 36).own = none := rfl
theorem hh36 : hints 36 = hint36 := rfl
@[simp] theorem hS36 (t : Nat) : hint36.soft t = [] := rfl
@[simp] theorem hL36 (t : Nat) : hint36.lazy t = none := rfl
attribute [simp] keep37 head37
@[simp] theorem hK37 : hint37.keep = keep37 := rfl
@[simp] theorem hH37 : hint37.head = head37 := rfl
@[simp] theorem hB37 (t : Nat) : hint37.box t = ([2, 4] : List Nat).contains t := rfl
@[simp] theorem hD37 (t : Nat) : hint37.dies t = ([11, 29] : List Nat).contains t := rfl
@[simp] theorem ow37 : (hints 37).own = none := rfl
theorem hh37 : hints 37 = hint37 := rfl
@[simp] theorem hS37 (t : Nat) : hint37.soft t = [] := rfl
@[simp] theorem hL37 (t : Nat) : hint37.lazy t = none := rfl
attribute [simp] free37 pairs37
@[simp] theorem hF37 : hint37.free = free37 := rfl
@[simp] theorem hP37 : hint37.pairs = pairs37 := rfl
attribute [simp] keep38 head38
@[simp] theorem hK38 : hint38.keep = keep38 := rfl
@[simp] theorem hH38 : hint38.head = head38 := rfl
@[simp] theorem hB38 (t : Nat) : hint38.box t = ([3] : List Nat).contains t := rfl
@[simp] theorem hD38 (t : Nat) : hint38.dies t = ([10, 14] : List Nat).contains t := rfl
@[simp] theorem ow38 : (hints 38).own = none := rfl
theorem hh38 : hints 38 = hint38 := rfl
@[simp] theorem hS38 (t : Nat) : hint38.soft t = [] := rfl
@[simp] theorem hL38 (t : Nat) : hint38.lazy t = none := rfl
attribute [simp] keep39 head39
@[simp] theorem hK39 : hint39.keep = keep39 := rfl
@[simp] theorem hH39 : hint39.head = head39 := rfl
@[simp] theorem hB39 (t : Nat) : hint39.box t = ([] : List Nat).contains t := rfl
@[simp] theorem hD39 (t : Nat) : hint39.dies t = ([5] : List Nat).contains t := rfl
@[simp] theorem ow39 : (hints 39).own = none := rfl
theorem hh39 : hints 39 = hint39 := rfl
@[simp] theorem hS39 (t : Nat) : hint39.soft t = [] := rfl
@[simp] theorem hL39 (t : Nat) : hint39.lazy t = none := rfl
attribute [simp] keep40 head40
@[simp] theorem hK40 : hint40.keep = keep40 := rfl
@[simp] theorem hH40 : hint40.head = head40 := rfl
@[simp] theorem hB40 (t : Nat) : hint40.box t = ([4] : List Nat).contains t := rfl
@[simp] theorem hD40 (t : Nat) : hint40.dies t = ([7, 11, 18, 19] : List Nat).contains t := rfl
@[simp] theorem ow40 : (hints 40).own = none := rfl
theorem hh40 : hints 40 = hint40 := rfl
@[simp] theorem hS40 (t : Nat) : hint40.soft t = [] := rfl
@[simp] theorem hL40 (t : Nat) : hint40.lazy t = none := rfl
attribute [simp] keep41 head41
@[simp] theorem hK41 : hint41.keep = keep41 := rfl
@[simp] theorem hH41 : hint41.head = head41 := rfl
@[simp] theorem hB41 (t : Nat) : hint41.box t = ([] : List Nat).contains t := rfl
@[simp] theorem hD41 (t : Nat) : hint41.dies t = ([10, 16, 19, 24, 30, 34, 36, 38] : List Nat).contains t := rfl
@[simp] theorem ow41 : (hints 41).own = none := rfl
theorem hh41 : hints 41 = hint41 := rfl
@[simp] theorem hS41 (t : Nat) : hint41.soft t = [] := rfl
@[simp] theorem hL41 (t : Nat) : hint41.lazy t = none := rfl
attribute [simp] keep42 head42
@[simp] theorem hK42 : hint42.keep = keep42 := rfl
@[simp] theorem hH42 : hint42.head = head42 := rfl
@[simp] theorem hB42 (t : Nat) : hint42.box t = ([2] : List Nat).contains t := rfl
@[simp] theorem hD42 (t : Nat) : hint42.dies t = ([13, 17, 21, 32, 33] : List Nat).contains t := rfl
@[simp] theorem ow42 : (hints 42).own = none := rfl
theorem hh42 : hints 42 = hint42 := rfl
@[simp] theorem hS42 (t : Nat) : hint42.soft t = [] := rfl
@[simp] theorem hL42 (t : Nat) : hint42.lazy t = none := rfl
attribute [simp] free42 pairs42
@[simp] theorem hF42 : hint42.free = free42 := rfl
@[simp] theorem hP42 : hint42.pairs = pairs42 := rfl
attribute [simp] keep43 head43
@[simp] theorem hK43 : hint43.keep = keep43 := rfl
@[simp] theorem hH43 : hint43.head = head43 := rfl
@[simp] theorem hB43 (t : Nat) : hint43.box t = ([4] : List Nat).contains t := rfl
@[simp] theorem hD43 (t : Nat) : hint43.dies t = ([5, 7] : List Nat).contains t := rfl
@[simp] theorem ow43 : (hints 43).own = none := rfl
theorem hh43 : hints 43 = hint43 := rfl
@[simp] theorem hS43 (t : Nat) : hint43.soft t = [] := rfl
@[simp] theorem hL43 (t : Nat) : hint43.lazy t = none := rfl
attribute [simp] keep44 head44
@[simp] theorem hK44 : hint44.keep = keep44 := rfl
@[simp] theorem hH44 : hint44.head = head44 := rfl
@[simp] theorem hB44 (t : Nat) : hint44.box t = ([6] : List Nat).contains t := rfl
@[simp] theorem hD44 (t : Nat) : hint44.dies t = ([14, 15, 21, 30, 52, 58, 59, 63, 64, 65, 68, 70, 71] : List Nat).contains t := rfl
@[simp] theorem ow44 : (hints 44).own = none := rfl
theorem hh44 : hints 44 = hint44 := rfl
@[simp] theorem hS44 (t : Nat) : hint44.soft t = [] := rfl
@[simp] theorem hL44 (t : Nat) : hint44.lazy t = none := rfl
attribute [simp] keep45 head45
@[simp] theorem hK45 : hint45.keep = keep45 := rfl
@[simp] theorem hH45 : hint45.head = head45 := rfl
@[simp] theorem hB45 (t : Nat) : hint45.box t = ([] : List Nat).contains t := rfl
@[simp] theorem hD45 (t : Nat) : hint45.dies t = ([5, 6] : List Nat).contains t := rfl
@[simp] theorem ow45 : (hints 45).own = none := rfl
theorem hh45 : hints 45 = hint45 := rfl
@[simp] theorem hS45 (t : Nat) : hint45.soft t = [] := rfl
@[simp] theorem hL45 (t : Nat) : hint45.lazy t = none := rfl
attribute [simp] keep46 head46
@[simp] theorem hK46 : hint46.keep = keep46 := rfl
@[simp] theorem hH46 : hint46.head = head46 := rfl
@[simp] theorem hB46 (t : Nat) : hint46.box t = ([2] : List Nat).contains t := rfl
@[simp] theorem hD46 (t : Nat) : hint46.dies t = ([12, 16, 29, 39, 40, 51] : List Nat).contains t := rfl
@[simp] theorem ow46 : (hints 46).own = none := rfl
theorem hh46 : hints 46 = hint46 := rfl
@[simp] theorem hS46 (t : Nat) : hint46.soft t = [] := rfl
@[simp] theorem hL46 (t : Nat) : hint46.lazy t = none := rfl
attribute [simp] keep47 head47
@[simp] theorem hK47 : hint47.keep = keep47 := rfl
@[simp] theorem hH47 : hint47.head = head47 := rfl
@[simp] theorem hB47 (t : Nat) : hint47.box t = ([] : List Nat).contains t := rfl
@[simp] theorem hD47 (t : Nat) : hint47.dies t = ([5, 6] : List Nat).contains t := rfl
@[simp] theorem ow47 : (hints 47).own = none := rfl
theorem hh47 : hints 47 = hint47 := rfl
@[simp] theorem hS47 (t : Nat) : hint47.soft t = [] := rfl
@[simp] theorem hL47 (t : Nat) : hint47.lazy t = none := rfl
attribute [simp] keep48 head48
@[simp] theorem hK48 : hint48.keep = keep48 := rfl
@[simp] theorem hH48 : hint48.head = head48 := rfl
@[simp] theorem hB48 (t : Nat) : hint48.box t = ([2] : List Nat).contains t := rfl
@[simp] theorem hD48 (t : Nat) : hint48.dies t = ([11, 15, 24, 39] : List Nat).contains t := rfl
@[simp] theorem ow48 : (hints 48).own = none := rfl
theorem hh48 : hints 48 = hint48 := rfl
@[simp] theorem hS48 (t : Nat) : hint48.soft t = [] := rfl
@[simp] theorem hL48 (t : Nat) : hint48.lazy t = none := rfl
attribute [simp] free48 pairs48
@[simp] theorem hF48 : hint48.free = free48 := rfl
@[simp] theorem hP48 : hint48.pairs = pairs48 := rfl
attribute [simp] keep49 head49
@[simp] theorem hK49 : hint49.keep = keep49 := rfl
@[simp] theorem hH49 : hint49.head = head49 := rfl
@[simp] theorem hB49 (t : Nat) : hint49.box t = ([4] : List Nat).contains t := rfl
@[simp] theorem hD49 (t : Nat) : hint49.dies t = ([9, 16, 24, 26, 30, 32, 37, 40] : List Nat).contains t := rfl
@[simp] theorem ow49 : (hints 49).own = none := rfl
theorem hh49 : hints 49 = hint49 := rfl
@[simp] theorem hS49 (t : Nat) : hint49.soft t = [] := rfl
@[simp] theorem hL49 (t : Nat) : hint49.lazy t = none := rfl
attribute [simp] keep50 head50
@[simp] theorem hK50 : hint50.keep = keep50 := rfl
@[simp] theorem hH50 : hint50.head = head50 := rfl
@[simp] theorem hB50 (t : Nat) : hint50.box t = ([2, 4, 8, 10, 11, 13] : List Nat).contains t := rfl
@[simp] theorem hD50 (t : Nat) : hint50.dies t = ([18, 26, 27, 36, 40, 46, 61] : List Nat).contains t := rfl
@[simp] theorem ow50 : (hints 50).own = none := rfl
theorem hh50 : hints 50 = hint50 := rfl
@[simp] theorem hS50 (t : Nat) : hint50.soft t = [] := rfl
@[simp] theorem hL50 (t : Nat) : hint50.lazy t = none := rfl
attribute [simp] keep51 head51
@[simp] theorem hK51 : hint51.keep = keep51 := rfl
@[simp] theorem hH51 : hint51.head = head51 := rfl
@[simp] theorem hB51 (t : Nat) : hint51.box t = ([2, 4, 7, 8] : List Nat).contains t := rfl
@[simp] theorem hD51 (t : Nat) : hint51.dies t = ([17, 37, 53, 85] : List Nat).contains t := rfl
@[simp] theorem ow51 : (hints 51).own = none := rfl
theorem hh51 : hints 51 = hint51 := rfl
@[simp] theorem hS51 (t : Nat) : hint51.soft t = [] := rfl
@[simp] theorem hL51 (t : Nat) : hint51.lazy t = none := rfl
attribute [simp] free51 pairs51
@[simp] theorem hF51 : hint51.free = free51 := rfl
@[simp] theorem hP51 : hint51.pairs = pairs51 := rfl
attribute [simp] keep52 head52
@[simp] theorem hK52 : hint52.keep = keep52 := rfl
@[simp] theorem hH52 : hint52.head = head52 := rfl
@[simp] theorem hB52 (t : Nat) : hint52.box t = ([2, 3] : List Nat).contains t := rfl
@[simp] theorem hD52 (t : Nat) : hint52.dies t = ([17, 26, 39] : List Nat).contains t := rfl
@[simp] theorem ow52 : (hints 52).own = none := rfl
theorem hh52 : hints 52 = hint52 := rfl
@[simp] theorem hS52 (t : Nat) : hint52.soft t = [] := rfl
@[simp] theorem hL52 (t : Nat) : hint52.lazy t = none := rfl
attribute [simp] free52 pairs52
@[simp] theorem hF52 : hint52.free = free52 := rfl
@[simp] theorem hP52 : hint52.pairs = pairs52 := rfl
attribute [simp] keep53 head53
@[simp] theorem hK53 : hint53.keep = keep53 := rfl
@[simp] theorem hH53 : hint53.head = head53 := rfl
@[simp] theorem hB53 (t : Nat) : hint53.box t = ([1, 2, 3, 4] : List Nat).contains t := rfl
@[simp] theorem hD53 (t : Nat) : hint53.dies t = ([19, 24, 26, 32, 40, 46, 54] : List Nat).contains t := rfl
@[simp] theorem ow53 : (hints 53).own = none := rfl
theorem hh53 : hints 53 = hint53 := rfl
@[simp] theorem hS53 (t : Nat) : hint53.soft t = [] := rfl
@[simp] theorem hL53 (t : Nat) : hint53.lazy t = none := rfl
attribute [simp] free53 pairs53
@[simp] theorem hF53 : hint53.free = free53 := rfl
@[simp] theorem hP53 : hint53.pairs = pairs53 := rfl
attribute [simp] keep54 head54
@[simp] theorem hK54 : hint54.keep = keep54 := rfl
@[simp] theorem hH54 : hint54.head = head54 := rfl
@[simp] theorem hB54 (t : Nat) : hint54.box t = ([] : List Nat).contains t := rfl
@[simp] theorem hD54 (t : Nat) : hint54.dies t = ([8, 17] : List Nat).contains t := rfl
@[simp] theorem ow54 : (hints 54).own = none := rfl
theorem hh54 : hints 54 = hint54 := rfl
@[simp] theorem hS54 (t : Nat) : hint54.soft t = [] := rfl
@[simp] theorem hL54 (t : Nat) : hint54.lazy t = none := rfl
attribute [simp] keep55 head55
@[simp] theorem hK55 : hint55.keep = keep55 := rfl
@[simp] theorem hH55 : hint55.head = head55 := rfl
@[simp] theorem hB55 (t : Nat) : hint55.box t = ([2] : List Nat).contains t := rfl
@[simp] theorem hD55 (t : Nat) : hint55.dies t = ([] : List Nat).contains t := rfl
@[simp] theorem ow55 : (hints 55).own = none := rfl
theorem hh55 : hints 55 = hint55 := rfl
@[simp] theorem hS55 (t : Nat) : hint55.soft t = [] := rfl
@[simp] theorem hL55 (t : Nat) : hint55.lazy t = none := rfl
attribute [simp] free55 pairs55
@[simp] theorem hF55 : hint55.free = free55 := rfl
@[simp] theorem hP55 : hint55.pairs = pairs55 := rfl
attribute [simp] keep56 head56
@[simp] theorem hK56 : hint56.keep = keep56 := rfl
@[simp] theorem hH56 : hint56.head = head56 := rfl
@[simp] theorem hB56 (t : Nat) : hint56.box t = ([2] : List Nat).contains t := rfl
@[simp] theorem hD56 (t : Nat) : hint56.dies t = ([7, 13, 14] : List Nat).contains t := rfl
@[simp] theorem ow56 : (hints 56).own = none := rfl
theorem hh56 : hints 56 = hint56 := rfl
@[simp] theorem hS56 (t : Nat) : hint56.soft t = [] := rfl
@[simp] theorem hL56 (t : Nat) : hint56.lazy t = none := rfl
attribute [simp] keep57 head57
@[simp] theorem hK57 : hint57.keep = keep57 := rfl
@[simp] theorem hH57 : hint57.head = head57 := rfl
@[simp] theorem hB57 (t : Nat) : hint57.box t = ([1, 2] : List Nat).contains t := rfl
@[simp] theorem hD57 (t : Nat) : hint57.dies t = ([] : List Nat).contains t := rfl
@[simp] theorem ow57 : (hints 57).own = none := rfl
theorem hh57 : hints 57 = hint57 := rfl
@[simp] theorem hS57 (t : Nat) : hint57.soft t = [] := rfl
@[simp] theorem hL57 (t : Nat) : hint57.lazy t = none := rfl
attribute [simp] keep58 head58
@[simp] theorem hK58 : hint58.keep = keep58 := rfl
@[simp] theorem hH58 : hint58.head = head58 := rfl
@[simp] theorem hB58 (t : Nat) : hint58.box t = ([] : List Nat).contains t := rfl
@[simp] theorem hD58 (t : Nat) : hint58.dies t = ([7, 9, 12] : List Nat).contains t := rfl
@[simp] theorem ow58 : (hints 58).own = some 600301 := rfl
theorem hh58 : hints 58 = hint58 := rfl
@[simp] theorem hS58 (t : Nat) : hint58.soft t = [] := rfl
@[simp] theorem hL58 (t : Nat) : hint58.lazy t = none := rfl
attribute [simp] keep59 head59
@[simp] theorem hK59 : hint59.keep = keep59 := rfl
@[simp] theorem hH59 : hint59.head = head59 := rfl
@[simp] theorem hB59 (t : Nat) : hint59.box t = ([2, 3] : List Nat).contains t := rfl
@[simp] theorem hD59 (t : Nat) : hint59.dies t = ([] : List Nat).contains t := rfl
@[simp] theorem ow59 : (hints 59).own = none := rfl
theorem hh59 : hints 59 = hint59 := rfl
@[simp] theorem hS59 (t : Nat) : hint59.soft t = [] := rfl
@[simp] theorem hL59 (t : Nat) : hint59.lazy t = none := rfl
attribute [simp] keep60 head60
@[simp] theorem hK60 : hint60.keep = keep60 := rfl
@[simp] theorem hH60 : hint60.head = head60 := rfl
@[simp] theorem hB60 (t : Nat) : hint60.box t = ([] : List Nat).contains t := rfl
@[simp] theorem hD60 (t : Nat) : hint60.dies t = ([11, 12, 13, 17, 18] : List Nat).contains t := rfl
@[simp] theorem ow60 : (hints 60).own = none := rfl
theorem hh60 : hints 60 = hint60 := rfl
@[simp] theorem hS60 (t : Nat) : hint60.soft t = [] := rfl
@[simp] theorem hL60 (t : Nat) : hint60.lazy t = none := rfl
attribute [simp] keep61 head61
@[simp] theorem hK61 : hint61.keep = keep61 := rfl
@[simp] theorem hH61 : hint61.head = head61 := rfl
@[simp] theorem hB61 (t : Nat) : hint61.box t = ([1] : List Nat).contains t := rfl
@[simp] theorem hD61 (t : Nat) : hint61.dies t = ([6, 11, 16, 21, 26] : List Nat).contains t := rfl
@[simp] theorem ow61 : (hints 61).own = none := rfl
theorem hh61 : hints 61 = hint61 := rfl
@[simp] theorem hS61 (t : Nat) : hint61.soft t = [] := rfl
@[simp] theorem hL61 (t : Nat) : hint61.lazy t = none := rfl
attribute [simp] keep62 head62
@[simp] theorem hK62 : hint62.keep = keep62 := rfl
@[simp] theorem hH62 : hint62.head = head62 := rfl
@[simp] theorem hB62 (t : Nat) : hint62.box t = ([] : List Nat).contains t := rfl
@[simp] theorem hD62 (t : Nat) : hint62.dies t = ([5, 10, 12, 13] : List Nat).contains t := rfl
@[simp] theorem ow62 : (hints 62).own = none := rfl
theorem hh62 : hints 62 = hint62 := rfl
@[simp] theorem hS62 (t : Nat) : hint62.soft t = [] := rfl
@[simp] theorem hL62 (t : Nat) : hint62.lazy t = none := rfl
attribute [simp] keep63 head63
@[simp] theorem hK63 : hint63.keep = keep63 := rfl
@[simp] theorem hH63 : hint63.head = head63 := rfl
@[simp] theorem hB63 (t : Nat) : hint63.box t = ([2, 3] : List Nat).contains t := rfl
@[simp] theorem hD63 (t : Nat) : hint63.dies t = ([7, 11, 16] : List Nat).contains t := rfl
@[simp] theorem ow63 : (hints 63).own = none := rfl
theorem hh63 : hints 63 = hint63 := rfl
@[simp] theorem hS63 (t : Nat) : hint63.soft t = [] := rfl
@[simp] theorem hL63 (t : Nat) : hint63.lazy t = none := rfl
attribute [simp] keep64 head64
@[simp] theorem hK64 : hint64.keep = keep64 := rfl
@[simp] theorem hH64 : hint64.head = head64 := rfl
@[simp] theorem hB64 (t : Nat) : hint64.box t = ([1] : List Nat).contains t := rfl
@[simp] theorem hD64 (t : Nat) : hint64.dies t = ([6, 11, 17, 23, 29] : List Nat).contains t := rfl
@[simp] theorem ow64 : (hints 64).own = none := rfl
theorem hh64 : hints 64 = hint64 := rfl
@[simp] theorem hS64 (t : Nat) : hint64.soft t = [] := rfl
@[simp] theorem hL64 (t : Nat) : hint64.lazy t = none := rfl
attribute [simp] keep65 head65
@[simp] theorem hK65 : hint65.keep = keep65 := rfl
@[simp] theorem hH65 : hint65.head = head65 := rfl
@[simp] theorem hB65 (t : Nat) : hint65.box t = ([3, 9, 10, 12, 13, 17, 18] : List Nat).contains t := rfl
@[simp] theorem hD65 (t : Nat) : hint65.dies t = ([21, 26, 33, 36, 46, 53, 68, 73, 79, 86, 97, 113, 120, 124, 134, 141, 158, 178, 188, 200, 204, 221, 230, 245, 252, 256, 266, 273, 298, 305, 308, 313] : List Nat).contains t := rfl
@[simp] theorem ow65 : (hints 65).own = none := rfl
theorem hh65 : hints 65 = hint65 := rfl
@[simp] theorem hS65 (t : Nat) : hint65.soft t = [] := rfl
@[simp] theorem hL65 (t : Nat) : hint65.lazy t = none := rfl
attribute [simp] free65 pairs65
@[simp] theorem hF65 : hint65.free = free65 := rfl
@[simp] theorem hP65 : hint65.pairs = pairs65 := rfl
attribute [simp] keep66 head66
@[simp] theorem hK66 : hint66.keep = keep66 := rfl
@[simp] theorem hH66 : hint66.head = head66 := rfl
@[simp] theorem hB66 (t : Nat) : hint66.box t = ([] : List Nat).contains t := rfl
@[simp] theorem hD66 (t : Nat) : hint66.dies t = ([15] : List Nat).contains t := rfl
@[simp] theorem ow66 : (hints 66).own = none := rfl
theorem hh66 : hints 66 = hint66 := rfl
@[simp] theorem hS66 (t : Nat) : hint66.soft t = [] := rfl
@[simp] theorem hL66 (t : Nat) : hint66.lazy t = none := rfl
attribute [simp] free66 pairs66
@[simp] theorem hF66 : hint66.free = free66 := rfl
@[simp] theorem hP66 : hint66.pairs = pairs66 := rfl
attribute [simp] keep67 head67
@[simp] theorem hK67 : hint67.keep = keep67 := rfl
@[simp] theorem hH67 : hint67.head = head67 := rfl
@[simp] theorem hB67 (t : Nat) : hint67.box t = ([] : List Nat).contains t := rfl
@[simp] theorem hD67 (t : Nat) : hint67.dies t = ([10] : List Nat).contains t := rfl
@[simp] theorem ow67 : (hints 67).own = none := rfl
theorem hh67 : hints 67 = hint67 := rfl
@[simp] theorem hS67 (t : Nat) : hint67.soft t = [] := rfl
@[simp] theorem hL67 (t : Nat) : hint67.lazy t = none := rfl
attribute [simp] keep68 head68
@[simp] theorem hK68 : hint68.keep = keep68 := rfl
@[simp] theorem hH68 : hint68.head = head68 := rfl
@[simp] theorem hB68 (t : Nat) : hint68.box t = ([1] : List Nat).contains t := rfl
@[simp] theorem hD68 (t : Nat) : hint68.dies t = ([6, 12, 18] : List Nat).contains t := rfl
@[simp] theorem ow68 : (hints 68).own = none := rfl
theorem hh68 : hints 68 = hint68 := rfl
@[simp] theorem hS68 (t : Nat) : hint68.soft t = [] := rfl
@[simp] theorem hL68 (t : Nat) : hint68.lazy t = none := rfl
attribute [simp] keep69 head69
@[simp] theorem hK69 : hint69.keep = keep69 := rfl
@[simp] theorem hH69 : hint69.head = head69 := rfl
@[simp] theorem hB69 (t : Nat) : hint69.box t = ([2, 3] : List Nat).contains t := rfl
@[simp] theorem hD69 (t : Nat) : hint69.dies t = ([11, 21] : List Nat).contains t := rfl
@[simp] theorem ow69 : (hints 69).own = none := rfl
theorem hh69 : hints 69 = hint69 := rfl
@[simp] theorem hS69 (t : Nat) : hint69.soft t = [] := rfl
@[simp] theorem hL69 (t : Nat) : hint69.lazy t = none := rfl
attribute [simp] keep70 head70
@[simp] theorem hK70 : hint70.keep = keep70 := rfl
@[simp] theorem hH70 : hint70.head = head70 := rfl
@[simp] theorem hB70 (t : Nat) : hint70.box t = ([] : List Nat).contains t := rfl
@[simp] theorem hD70 (t : Nat) : hint70.dies t = ([15, 17, 24, 29, 53] : List Nat).contains t := rfl
@[simp] theorem ow70 : (hints 70).own = none := rfl
theorem hh70 : hints 70 = hint70 := rfl
@[simp] theorem hS70 (t : Nat) : hint70.soft t = [] := rfl
@[simp] theorem hL70 (t : Nat) : hint70.lazy t = none := rfl
attribute [simp] free70 pairs70
@[simp] theorem hF70 : hint70.free = free70 := rfl
@[simp] theorem hP70 : hint70.pairs = pairs70 := rfl
attribute [simp] keep71 head71
@[simp] theorem hK71 : hint71.keep = keep71 := rfl
@[simp] theorem hH71 : hint71.head = head71 := rfl
@[simp] theorem hB71 (t : Nat) : hint71.box t = ([] : List Nat).contains t := rfl
@[simp] theorem hD71 (t : Nat) : hint71.dies t = ([6, 9] : List Nat).contains t := rfl
@[simp] theorem ow71 : (hints 71).own = none := rfl
theorem hh71 : hints 71 = hint71 := rfl
@[simp] theorem hS71 (t : Nat) : hint71.soft t = [] := rfl
@[simp] theorem hL71 (t : Nat) : hint71.lazy t = none := rfl
attribute [simp] keep72 head72
@[simp] theorem hK72 : hint72.keep = keep72 := rfl
@[simp] theorem hH72 : hint72.head = head72 := rfl
@[simp] theorem hB72 (t : Nat) : hint72.box t = ([] : List Nat).contains t := rfl
@[simp] theorem hD72 (t : Nat) : hint72.dies t = ([5] : List Nat).contains t := rfl
@[simp] theorem ow72 : (hints 72).own = none := rfl
theorem hh72 : hints 72 = hint72 := rfl
@[simp] theorem hS72 (t : Nat) : hint72.soft t = [] := rfl
@[simp] theorem hL72 (t : Nat) : hint72.lazy t = none := rfl
attribute [simp] keep73 head73
@[simp] theorem hK73 : hint73.keep = keep73 := rfl
@[simp] theorem hH73 : hint73.head = head73 := rfl
@[simp] theorem hB73 (t : Nat) : hint73.box t = ([4, 8] : List Nat).contains t := rfl
@[simp] theorem hD73 (t : Nat) : hint73.dies t = ([12, 17, 18, 26, 31, 40, 60] : List Nat).contains t := rfl
@[simp] theorem ow73 : (hints 73).own = none := rfl
theorem hh73 : hints 73 = hint73 := rfl
@[simp] theorem hS73 (t : Nat) : hint73.soft t = [] := rfl
@[simp] theorem hL73 (t : Nat) : hint73.lazy t = none := rfl
attribute [simp] keep74 head74
@[simp] theorem hK74 : hint74.keep = keep74 := rfl
@[simp] theorem hH74 : hint74.head = head74 := rfl
@[simp] theorem hB74 (t : Nat) : hint74.box t = ([] : List Nat).contains t := rfl
@[simp] theorem hD74 (t : Nat) : hint74.dies t = ([12, 13, 23, 34] : List Nat).contains t := rfl
@[simp] theorem ow74 : (hints 74).own = none := rfl
theorem hh74 : hints 74 = hint74 := rfl
@[simp] theorem hS74 (t : Nat) : hint74.soft t = [] := rfl
@[simp] theorem hL74 (t : Nat) : hint74.lazy t = none := rfl
attribute [simp] keep75 head75
@[simp] theorem hK75 : hint75.keep = keep75 := rfl
@[simp] theorem hH75 : hint75.head = head75 := rfl
@[simp] theorem hB75 (t : Nat) : hint75.box t = ([2] : List Nat).contains t := rfl
@[simp] theorem hD75 (t : Nat) : hint75.dies t = ([7] : List Nat).contains t := rfl
@[simp] theorem ow75 : (hints 75).own = none := rfl
theorem hh75 : hints 75 = hint75 := rfl
@[simp] theorem hS75 (t : Nat) : hint75.soft t = [] := rfl
@[simp] theorem hL75 (t : Nat) : hint75.lazy t = none := rfl
attribute [simp] keep76 head76
@[simp] theorem hK76 : hint76.keep = keep76 := rfl
@[simp] theorem hH76 : hint76.head = head76 := rfl
@[simp] theorem hB76 (t : Nat) : hint76.box t = ([] : List Nat).contains t := rfl
@[simp] theorem hD76 (t : Nat) : hint76.dies t = ([9, 16, 17] : List Nat).contains t := rfl
@[simp] theorem ow76 : (hints 76).own = none := rfl
theorem hh76 : hints 76 = hint76 := rfl
@[simp] theorem hS76 (t : Nat) : hint76.soft t = [] := rfl
@[simp] theorem hL76 (t : Nat) : hint76.lazy t = none := rfl
attribute [simp] free76 pairs76
@[simp] theorem hF76 : hint76.free = free76 := rfl
@[simp] theorem hP76 : hint76.pairs = pairs76 := rfl
attribute [simp] keep77 head77
@[simp] theorem hK77 : hint77.keep = keep77 := rfl
@[simp] theorem hH77 : hint77.head = head77 := rfl
@[simp] theorem hB77 (t : Nat) : hint77.box t = ([1, 7] : List Nat).contains t := rfl
@[simp] theorem hD77 (t : Nat) : hint77.dies t = ([23, 25, 46, 58, 60, 81, 93, 100, 133] : List Nat).contains t := rfl
@[simp] theorem ow77 : (hints 77).own = none := rfl
theorem hh77 : hints 77 = hint77 := rfl
@[simp] theorem hS77 (t : Nat) : hint77.soft t = [] := rfl
@[simp] theorem hL77 (t : Nat) : hint77.lazy t = none := rfl
attribute [simp] free77 pairs77
@[simp] theorem hF77 : hint77.free = free77 := rfl
@[simp] theorem hP77 : hint77.pairs = pairs77 := rfl
attribute [simp] keep78 head78
@[simp] theorem hK78 : hint78.keep = keep78 := rfl
@[simp] theorem hH78 : hint78.head = head78 := rfl
@[simp] theorem hB78 (t : Nat) : hint78.box t = ([3] : List Nat).contains t := rfl
@[simp] theorem hD78 (t : Nat) : hint78.dies t = ([] : List Nat).contains t := rfl
@[simp] theorem ow78 : (hints 78).own = none := rfl
theorem hh78 : hints 78 = hint78 := rfl
@[simp] theorem hS78 (t : Nat) : hint78.soft t = [] := rfl
@[simp] theorem hL78 (t : Nat) : hint78.lazy t = none := rfl
attribute [simp] keep79 head79
@[simp] theorem hK79 : hint79.keep = keep79 := rfl
@[simp] theorem hH79 : hint79.head = head79 := rfl
@[simp] theorem hB79 (t : Nat) : hint79.box t = ([1] : List Nat).contains t := rfl
@[simp] theorem hD79 (t : Nat) : hint79.dies t = ([6] : List Nat).contains t := rfl
@[simp] theorem ow79 : (hints 79).own = none := rfl
theorem hh79 : hints 79 = hint79 := rfl
@[simp] theorem hS79 (t : Nat) : hint79.soft t = [] := rfl
@[simp] theorem hL79 (t : Nat) : hint79.lazy t = none := rfl
attribute [simp] keep80 head80
@[simp] theorem hK80 : hint80.keep = keep80 := rfl
@[simp] theorem hH80 : hint80.head = head80 := rfl
@[simp] theorem hB80 (t : Nat) : hint80.box t = ([] : List Nat).contains t := rfl
@[simp] theorem hD80 (t : Nat) : hint80.dies t = ([26, 27, 28, 29, 33, 34, 35, 36, 45, 47, 64, 69, 72, 73, 83, 99, 101, 104, 105, 109, 114, 121, 126, 127, 130, 135, 137, 138, 143, 147] : List Nat).contains t := rfl
@[simp] theorem ow80 : (hints 80).own = none := rfl
theorem hh80 : hints 80 = hint80 := rfl
@[simp] theorem hS80 (t : Nat) : hint80.soft t = [] := rfl
@[simp] theorem hL80 (t : Nat) : hint80.lazy t = none := rfl
attribute [simp] free80 pairs80
@[simp] theorem hF80 : hint80.free = free80 := rfl
@[simp] theorem hP80 : hint80.pairs = pairs80 := rfl
attribute [simp] keep81 head81
@[simp] theorem hK81 : hint81.keep = keep81 := rfl
@[simp] theorem hH81 : hint81.head = head81 := rfl
@[simp] theorem hB81 (t : Nat) : hint81.box t = ([] : List Nat).contains t := rfl
@[simp] theorem hD81 (t : Nat) : hint81.dies t = ([3, 6] : List Nat).contains t := rfl
@[simp] theorem ow81 : (hints 81).own = none := rfl
theorem hh81 : hints 81 = hint81 := rfl
@[simp] theorem hS81 (t : Nat) : hint81.soft t = [] := rfl
@[simp] theorem hL81 (t : Nat) : hint81.lazy t = none := rfl
attribute [simp] keep82 head82
@[simp] theorem hK82 : hint82.keep = keep82 := rfl
@[simp] theorem hH82 : hint82.head = head82 := rfl
@[simp] theorem hB82 (t : Nat) : hint82.box t = ([] : List Nat).contains t := rfl
@[simp] theorem hD82 (t : Nat) : hint82.dies t = ([4] : List Nat).contains t := rfl
@[simp] theorem ow82 : (hints 82).own = none := rfl
theorem hh82 : hints 82 = hint82 := rfl
@[simp] theorem hS82 (t : Nat) : hint82.soft t = [] := rfl
@[simp] theorem hL82 (t : Nat) : hint82.lazy t = none := rfl
attribute [simp] keep83 head83
@[simp] theorem hK83 : hint83.keep = keep83 := rfl
@[simp] theorem hH83 : hint83.head = head83 := rfl
@[simp] theorem hB83 (t : Nat) : hint83.box t = ([] : List Nat).contains t := rfl
@[simp] theorem hD83 (t : Nat) : hint83.dies t = ([9, 21, 22] : List Nat).contains t := rfl
@[simp] theorem ow83 : (hints 83).own = none := rfl
theorem hh83 : hints 83 = hint83 := rfl
@[simp] theorem hS83 (t : Nat) : hint83.soft t = [] := rfl
@[simp] theorem hL83 (t : Nat) : hint83.lazy t = none := rfl
attribute [simp] keep84 head84
@[simp] theorem hK84 : hint84.keep = keep84 := rfl
@[simp] theorem hH84 : hint84.head = head84 := rfl
@[simp] theorem hB84 (t : Nat) : hint84.box t = ([] : List Nat).contains t := rfl
@[simp] theorem hD84 (t : Nat) : hint84.dies t = ([5, 6] : List Nat).contains t := rfl
@[simp] theorem ow84 : (hints 84).own = none := rfl
theorem hh84 : hints 84 = hint84 := rfl
@[simp] theorem hS84 (t : Nat) : hint84.soft t = [] := rfl
@[simp] theorem hL84 (t : Nat) : hint84.lazy t = none := rfl
attribute [simp] keep85 head85
@[simp] theorem hK85 : hint85.keep = keep85 := rfl
@[simp] theorem hH85 : hint85.head = head85 := rfl
@[simp] theorem hB85 (t : Nat) : hint85.box t = ([1] : List Nat).contains t := rfl
@[simp] theorem hD85 (t : Nat) : hint85.dies t = ([] : List Nat).contains t := rfl
@[simp] theorem ow85 : (hints 85).own = none := rfl
theorem hh85 : hints 85 = hint85 := rfl
@[simp] theorem hS85 (t : Nat) : hint85.soft t = [] := rfl
@[simp] theorem hL85 (t : Nat) : hint85.lazy t = none := rfl
attribute [simp] keep86 head86
@[simp] theorem hK86 : hint86.keep = keep86 := rfl
@[simp] theorem hH86 : hint86.head = head86 := rfl
@[simp] theorem hB86 (t : Nat) : hint86.box t = ([1] : List Nat).contains t := rfl
@[simp] theorem hD86 (t : Nat) : hint86.dies t = ([] : List Nat).contains t := rfl
@[simp] theorem ow86 : (hints 86).own = none := rfl
theorem hh86 : hints 86 = hint86 := rfl
@[simp] theorem hS86 (t : Nat) : hint86.soft t = [] := rfl
@[simp] theorem hL86 (t : Nat) : hint86.lazy t = none := rfl
attribute [simp] keep87 head87
@[simp] theorem hK87 : hint87.keep = keep87 := rfl
@[simp] theorem hH87 : hint87.head = head87 := rfl
@[simp] theorem hB87 (t : Nat) : hint87.box t = ([1] : List Nat).contains t := rfl
@[simp] theorem hD87 (t : Nat) : hint87.dies t = ([6, 11, 16, 28, 33, 47, 52, 57, 62, 67, 72, 77, 85, 90, 95] : List Nat).contains t := rfl
@[simp] theorem ow87 : (hints 87).own = none := rfl
theorem hh87 : hints 87 = hint87 := rfl
@[simp] theorem hS87 (t : Nat) : hint87.soft t = [] := rfl
@[simp] theorem hL87 (t : Nat) : hint87.lazy t = none := rfl
attribute [simp] free87 pairs87
@[simp] theorem hF87 : hint87.free = free87 := rfl
@[simp] theorem hP87 : hint87.pairs = pairs87 := rfl
attribute [simp] keep88 head88
@[simp] theorem hK88 : hint88.keep = keep88 := rfl
@[simp] theorem hH88 : hint88.head = head88 := rfl
@[simp] theorem hB88 (t : Nat) : hint88.box t = ([] : List Nat).contains t := rfl
@[simp] theorem hD88 (t : Nat) : hint88.dies t = ([10, 11, 15, 16] : List Nat).contains t := rfl
@[simp] theorem ow88 : (hints 88).own = none := rfl
theorem hh88 : hints 88 = hint88 := rfl
@[simp] theorem hS88 (t : Nat) : hint88.soft t = [] := rfl
@[simp] theorem hL88 (t : Nat) : hint88.lazy t = none := rfl
attribute [simp] keep89 head89
@[simp] theorem hK89 : hint89.keep = keep89 := rfl
@[simp] theorem hH89 : hint89.head = head89 := rfl
@[simp] theorem hB89 (t : Nat) : hint89.box t = ([2, 3] : List Nat).contains t := rfl
@[simp] theorem hD89 (t : Nat) : hint89.dies t = ([8, 16, 21, 28] : List Nat).contains t := rfl
@[simp] theorem ow89 : (hints 89).own = none := rfl
theorem hh89 : hints 89 = hint89 := rfl
@[simp] theorem hS89 (t : Nat) : hint89.soft t = [] := rfl
@[simp] theorem hL89 (t : Nat) : hint89.lazy t = none := rfl
attribute [simp] keep90 head90
@[simp] theorem hK90 : hint90.keep = keep90 := rfl
@[simp] theorem hH90 : hint90.head = head90 := rfl
@[simp] theorem hB90 (t : Nat) : hint90.box t = ([2, 3] : List Nat).contains t := rfl
@[simp] theorem hD90 (t : Nat) : hint90.dies t = ([8, 16, 21, 28, 35] : List Nat).contains t := rfl
@[simp] theorem ow90 : (hints 90).own = none := rfl
theorem hh90 : hints 90 = hint90 := rfl
@[simp] theorem hS90 (t : Nat) : hint90.soft t = [] := rfl
@[simp] theorem hL90 (t : Nat) : hint90.lazy t = none := rfl
attribute [simp] keep91 head91
@[simp] theorem hK91 : hint91.keep = keep91 := rfl
@[simp] theorem hH91 : hint91.head = head91 := rfl
@[simp] theorem hB91 (t : Nat) : hint91.box t = ([2] : List Nat).contains t := rfl
@[simp] theorem hD91 (t : Nat) : hint91.dies t = ([12, 16, 26, 36, 52] : List Nat).contains t := rfl
@[simp] theorem ow91 : (hints 91).own = none := rfl
theorem hh91 : hints 91 = hint91 := rfl
@[simp] theorem hS91 (t : Nat) : hint91.soft t = [] := rfl
@[simp] theorem hL91 (t : Nat) : hint91.lazy t = none := rfl
attribute [simp] free91 pairs91
@[simp] theorem hF91 : hint91.free = free91 := rfl
@[simp] theorem hP91 : hint91.pairs = pairs91 := rfl
attribute [simp] keep92 head92
@[simp] theorem hK92 : hint92.keep = keep92 := rfl
@[simp] theorem hH92 : hint92.head = head92 := rfl
@[simp] theorem hB92 (t : Nat) : hint92.box t = ([] : List Nat).contains t := rfl
@[simp] theorem hD92 (t : Nat) : hint92.dies t = ([9, 13, 14] : List Nat).contains t := rfl
@[simp] theorem ow92 : (hints 92).own = some 0 := rfl
theorem hh92 : hints 92 = hint92 := rfl
@[simp] theorem hS92 (t : Nat) : hint92.soft t = [] := rfl
@[simp] theorem hL92 (t : Nat) : hint92.lazy t = none := rfl
attribute [simp] keep93 head93
@[simp] theorem hK93 : hint93.keep = keep93 := rfl
@[simp] theorem hH93 : hint93.head = head93 := rfl
@[simp] theorem hB93 (t : Nat) : hint93.box t = ([] : List Nat).contains t := rfl
@[simp] theorem hD93 (t : Nat) : hint93.dies t = ([11, 15, 16, 23, 31, 42, 51, 60, 71, 75] : List Nat).contains t := rfl
@[simp] theorem ow93 : (hints 93).own = some 0 := rfl
theorem hh93 : hints 93 = hint93 := rfl
@[simp] theorem hS93 (t : Nat) : hint93.soft t = [] := rfl
@[simp] theorem hL93 (t : Nat) : hint93.lazy t = none := rfl
attribute [simp] free93 pairs93
@[simp] theorem hF93 : hint93.free = free93 := rfl
@[simp] theorem hP93 : hint93.pairs = pairs93 := rfl
attribute [simp] keep94 head94
@[simp] theorem hK94 : hint94.keep = keep94 := rfl
@[simp] theorem hH94 : hint94.head = head94 := rfl
@[simp] theorem hB94 (t : Nat) : hint94.box t = ([] : List Nat).contains t := rfl
@[simp] theorem hD94 (t : Nat) : hint94.dies t = ([9, 13, 14] : List Nat).contains t := rfl
@[simp] theorem ow94 : (hints 94).own = some 0 := rfl
theorem hh94 : hints 94 = hint94 := rfl
@[simp] theorem hS94 (t : Nat) : hint94.soft t = [] := rfl
@[simp] theorem hL94 (t : Nat) : hint94.lazy t = none := rfl
attribute [simp] keep95 head95
@[simp] theorem hK95 : hint95.keep = keep95 := rfl
@[simp] theorem hH95 : hint95.head = head95 := rfl
@[simp] theorem hB95 (t : Nat) : hint95.box t = ([] : List Nat).contains t := rfl
@[simp] theorem hD95 (t : Nat) : hint95.dies t = ([10, 11, 17, 18, 25] : List Nat).contains t := rfl
@[simp] theorem ow95 : (hints 95).own = some 0 := rfl
theorem hh95 : hints 95 = hint95 := rfl
@[simp] theorem hS95 (t : Nat) : hint95.soft t = [] := rfl
@[simp] theorem hL95 (t : Nat) : hint95.lazy t = none := rfl
attribute [simp] keep96 head96
@[simp] theorem hK96 : hint96.keep = keep96 := rfl
@[simp] theorem hH96 : hint96.head = head96 := rfl
@[simp] theorem hB96 (t : Nat) : hint96.box t = ([] : List Nat).contains t := rfl
@[simp] theorem hD96 (t : Nat) : hint96.dies t = ([11] : List Nat).contains t := rfl
@[simp] theorem ow96 : (hints 96).own = none := rfl
theorem hh96 : hints 96 = hint96 := rfl
@[simp] theorem hS96 (t : Nat) : hint96.soft t = [] := rfl
@[simp] theorem hL96 (t : Nat) : hint96.lazy t = none := rfl
attribute [simp] free96 pairs96
@[simp] theorem hF96 : hint96.free = free96 := rfl
@[simp] theorem hP96 : hint96.pairs = pairs96 := rfl
attribute [simp] keep97 head97
@[simp] theorem hK97 : hint97.keep = keep97 := rfl
@[simp] theorem hH97 : hint97.head = head97 := rfl
@[simp] theorem hB97 (t : Nat) : hint97.box t = ([] : List Nat).contains t := rfl
@[simp] theorem hD97 (t : Nat) : hint97.dies t = ([8, 10, 11, 12] : List Nat).contains t := rfl
@[simp] theorem ow97 : (hints 97).own = none := rfl
theorem hh97 : hints 97 = hint97 := rfl
@[simp] theorem hS97 (t : Nat) : hint97.soft t = [] := rfl
@[simp] theorem hL97 (t : Nat) : hint97.lazy t = none := rfl
attribute [simp] keep98 head98
@[simp] theorem hK98 : hint98.keep = keep98 := rfl
@[simp] theorem hH98 : hint98.head = head98 := rfl
@[simp] theorem hB98 (t : Nat) : hint98.box t = ([2] : List Nat).contains t := rfl
@[simp] theorem hD98 (t : Nat) : hint98.dies t = ([7, 10] : List Nat).contains t := rfl
@[simp] theorem ow98 : (hints 98).own = none := rfl
theorem hh98 : hints 98 = hint98 := rfl
@[simp] theorem hS98 (t : Nat) : hint98.soft t = [] := rfl
@[simp] theorem hL98 (t : Nat) : hint98.lazy t = none := rfl
attribute [simp] keep99 head99
@[simp] theorem hK99 : hint99.keep = keep99 := rfl
@[simp] theorem hH99 : hint99.head = head99 := rfl
@[simp] theorem hB99 (t : Nat) : hint99.box t = ([] : List Nat).contains t := rfl
@[simp] theorem hD99 (t : Nat) : hint99.dies t = ([5, 6] : List Nat).contains t := rfl
@[simp] theorem ow99 : (hints 99).own = none := rfl
theorem hh99 : hints 99 = hint99 := rfl
@[simp] theorem hS99 (t : Nat) : hint99.soft t = [] := rfl
@[simp] theorem hL99 (t : Nat) : hint99.lazy t = none := rfl
attribute [simp] keep100 head100
@[simp] theorem hK100 : hint100.keep = keep100 := rfl
@[simp] theorem hH100 : hint100.head = head100 := rfl
@[simp] theorem hB100 (t : Nat) : hint100.box t = ([1, 2] : List Nat).contains t := rfl
@[simp] theorem hD100 (t : Nat) : hint100.dies t = ([] : List Nat).contains t := rfl
@[simp] theorem ow100 : (hints 100).own = none := rfl
theorem hh100 : hints 100 = hint100 := rfl
@[simp] theorem hS100 (t : Nat) : hint100.soft t = [] := rfl
@[simp] theorem hL100 (t : Nat) : hint100.lazy t = none := rfl
attribute [simp] keep101 head101
@[simp] theorem hK101 : hint101.keep = keep101 := rfl
@[simp] theorem hH101 : hint101.head = head101 := rfl
@[simp] theorem hB101 (t : Nat) : hint101.box t = ([] : List Nat).contains t := rfl
@[simp] theorem hD101 (t : Nat) : hint101.dies t = ([5, 6] : List Nat).contains t := rfl
@[simp] theorem ow101 : (hints 101).own = none := rfl
theorem hh101 : hints 101 = hint101 := rfl
@[simp] theorem hS101 (t : Nat) : hint101.soft t = [] := rfl
@[simp] theorem hL101 (t : Nat) : hint101.lazy t = none := rfl
attribute [simp] keep102 head102
@[simp] theorem hK102 : hint102.keep = keep102 := rfl
@[simp] theorem hH102 : hint102.head = head102 := rfl
@[simp] theorem hB102 (t : Nat) : hint102.box t = ([2, 4] : List Nat).contains t := rfl
@[simp] theorem hD102 (t : Nat) : hint102.dies t = ([6, 14] : List Nat).contains t := rfl
@[simp] theorem ow102 : (hints 102).own = none := rfl
theorem hh102 : hints 102 = hint102 := rfl
@[simp] theorem hS102 (t : Nat) : hint102.soft t = [] := rfl
@[simp] theorem hL102 (t : Nat) : hint102.lazy t = none := rfl
attribute [simp] free102 pairs102
@[simp] theorem hF102 : hint102.free = free102 := rfl
@[simp] theorem hP102 : hint102.pairs = pairs102 := rfl
attribute [simp] keep103 head103
@[simp] theorem hK103 : hint103.keep = keep103 := rfl
@[simp] theorem hH103 : hint103.head = head103 := rfl
@[simp] theorem hB103 (t : Nat) : hint103.box t = ([2, 3, 4, 6] : List Nat).contains t := rfl
@[simp] theorem hD103 (t : Nat) : hint103.dies t = ([10] : List Nat).contains t := rfl
@[simp] theorem ow103 : (hints 103).own = none := rfl
theorem hh103 : hints 103 = hint103 := rfl
@[simp] theorem hS103 (t : Nat) : hint103.soft t = [] := rfl
@[simp] theorem hL103 (t : Nat) : hint103.lazy t = none := rfl
attribute [simp] keep104 head104
@[simp] theorem hK104 : hint104.keep = keep104 := rfl
@[simp] theorem hH104 : hint104.head = head104 := rfl
@[simp] theorem hB104 (t : Nat) : hint104.box t = ([] : List Nat).contains t := rfl
@[simp] theorem hD104 (t : Nat) : hint104.dies t = ([7, 9, 11] : List Nat).contains t := rfl
@[simp] theorem ow104 : (hints 104).own = none := rfl
theorem hh104 : hints 104 = hint104 := rfl
@[simp] theorem hS104 (t : Nat) : hint104.soft t = [] := rfl
@[simp] theorem hL104 (t : Nat) : hint104.lazy t = none := rfl
attribute [simp] keep105 head105
@[simp] theorem hK105 : hint105.keep = keep105 := rfl
@[simp] theorem hH105 : hint105.head = head105 := rfl
@[simp] theorem hB105 (t : Nat) : hint105.box t = ([] : List Nat).contains t := rfl
@[simp] theorem hD105 (t : Nat) : hint105.dies t = ([8, 17] : List Nat).contains t := rfl
@[simp] theorem ow105 : (hints 105).own = none := rfl
theorem hh105 : hints 105 = hint105 := rfl
@[simp] theorem hS105 (t : Nat) : hint105.soft t = [] := rfl
@[simp] theorem hL105 (t : Nat) : hint105.lazy t = none := rfl
attribute [simp] keep106 head106
@[simp] theorem hK106 : hint106.keep = keep106 := rfl
@[simp] theorem hH106 : hint106.head = head106 := rfl
@[simp] theorem hB106 (t : Nat) : hint106.box t = ([3] : List Nat).contains t := rfl
@[simp] theorem hD106 (t : Nat) : hint106.dies t = ([9] : List Nat).contains t := rfl
@[simp] theorem ow106 : (hints 106).own = none := rfl
theorem hh106 : hints 106 = hint106 := rfl
@[simp] theorem hS106 (t : Nat) : hint106.soft t = [] := rfl
@[simp] theorem hL106 (t : Nat) : hint106.lazy t = none := rfl
attribute [simp] keep107 head107
@[simp] theorem hK107 : hint107.keep = keep107 := rfl
@[simp] theorem hH107 : hint107.head = head107 := rfl
@[simp] theorem hB107 (t : Nat) : hint107.box t = ([] : List Nat).contains t := rfl
@[simp] theorem hD107 (t : Nat) : hint107.dies t = ([15, 21, 35] : List Nat).contains t := rfl
@[simp] theorem ow107 : (hints 107).own = none := rfl
theorem hh107 : hints 107 = hint107 := rfl
@[simp] theorem hS107 (t : Nat) : hint107.soft t = [] := rfl
@[simp] theorem hL107 (t : Nat) : hint107.lazy t = none := rfl
attribute [simp] free107 pairs107
@[simp] theorem hF107 : hint107.free = free107 := rfl
@[simp] theorem hP107 : hint107.pairs = pairs107 := rfl
attribute [simp] keep108 head108
@[simp] theorem hK108 : hint108.keep = keep108 := rfl
@[simp] theorem hH108 : hint108.head = head108 := rfl
@[simp] theorem hB108 (t : Nat) : hint108.box t = ([] : List Nat).contains t := rfl
@[simp] theorem hD108 (t : Nat) : hint108.dies t = ([14, 15, 22, 30, 34] : List Nat).contains t := rfl
@[simp] theorem ow108 : (hints 108).own = none := rfl
theorem hh108 : hints 108 = hint108 := rfl
@[simp] theorem hS108 (t : Nat) : hint108.soft t = [] := rfl
@[simp] theorem hL108 (t : Nat) : hint108.lazy t = none := rfl
attribute [simp] free108 pairs108
@[simp] theorem hF108 : hint108.free = free108 := rfl
@[simp] theorem hP108 : hint108.pairs = pairs108 := rfl
attribute [simp] keep109 head109
@[simp] theorem hK109 : hint109.keep = keep109 := rfl
@[simp] theorem hH109 : hint109.head = head109 := rfl
@[simp] theorem hB109 (t : Nat) : hint109.box t = ([] : List Nat).contains t := rfl
@[simp] theorem hD109 (t : Nat) : hint109.dies t = ([13, 36, 46, 57] : List Nat).contains t := rfl
@[simp] theorem ow109 : (hints 109).own = none := rfl
theorem hh109 : hints 109 = hint109 := rfl
@[simp] theorem hS109 (t : Nat) : hint109.soft t = [] := rfl
@[simp] theorem hL109 (t : Nat) : hint109.lazy t = none := rfl
attribute [simp] free109 pairs109
@[simp] theorem hF109 : hint109.free = free109 := rfl
@[simp] theorem hP109 : hint109.pairs = pairs109 := rfl
attribute [simp] keep110 head110
@[simp] theorem hK110 : hint110.keep = keep110 := rfl
@[simp] theorem hH110 : hint110.head = head110 := rfl
@[simp] theorem hB110 (t : Nat) : hint110.box t = ([] : List Nat).contains t := rfl
@[simp] theorem hD110 (t : Nat) : hint110.dies t = ([15, 28, 35, 38, 42, 46, 49, 50, 51, 52, 53, 56, 59, 62] : List Nat).contains t := rfl
@[simp] theorem ow110 : (hints 110).own = none := rfl
theorem hh110 : hints 110 = hint110 := rfl
@[simp] theorem hS110 (t : Nat) : hint110.soft t = [] := rfl
@[simp] theorem hL110 (t : Nat) : hint110.lazy t = none := rfl
attribute [simp] keep111 head111
@[simp] theorem hK111 : hint111.keep = keep111 := rfl
@[simp] theorem hH111 : hint111.head = head111 := rfl
@[simp] theorem hB111 (t : Nat) : hint111.box t = ([] : List Nat).contains t := rfl
@[simp] theorem hD111 (t : Nat) : hint111.dies t = ([10, 11, 30, 32] : List Nat).contains t := rfl
@[simp] theorem ow111 : (hints 111).own = none := rfl
theorem hh111 : hints 111 = hint111 := rfl
@[simp] theorem hS111 (t : Nat) : hint111.soft t = [] := rfl
@[simp] theorem hL111 (t : Nat) : hint111.lazy t = none := rfl
attribute [simp] free111 pairs111
@[simp] theorem hF111 : hint111.free = free111 := rfl
@[simp] theorem hP111 : hint111.pairs = pairs111 := rfl
attribute [simp] keep112 head112
@[simp] theorem hK112 : hint112.keep = keep112 := rfl
@[simp] theorem hH112 : hint112.head = head112 := rfl
@[simp] theorem hB112 (t : Nat) : hint112.box t = ([] : List Nat).contains t := rfl
@[simp] theorem hD112 (t : Nat) : hint112.dies t = ([17, 22, 37, 70, 110] : List Nat).contains t := rfl
@[simp] theorem ow112 : (hints 112).own = none := rfl
theorem hh112 : hints 112 = hint112 := rfl
@[simp] theorem hS112 (t : Nat) : hint112.soft t = [] := rfl
@[simp] theorem hL112 (t : Nat) : hint112.lazy t = none := rfl
attribute [simp] free112 pairs112
@[simp] theorem hF112 : hint112.free = free112 := rfl
@[simp] theorem hP112 : hint112.pairs = pairs112 := rfl
attribute [simp] keep113 head113
@[simp] theorem hK113 : hint113.keep = keep113 := rfl
@[simp] theorem hH113 : hint113.head = head113 := rfl
@[simp] theorem hB113 (t : Nat) : hint113.box t = ([] : List Nat).contains t := rfl
@[simp] theorem hD113 (t : Nat) : hint113.dies t = ([18, 29, 34, 48, 53, 66, 85, 87, 89] : List Nat).contains t := rfl
@[simp] theorem ow113 : (hints 113).own = none := rfl
theorem hh113 : hints 113 = hint113 := rfl
@[simp] theorem hS113 (t : Nat) : hint113.soft t = [] := rfl
@[simp] theorem hL113 (t : Nat) : hint113.lazy t = none := rfl
attribute [simp] free113 pairs113
@[simp] theorem hF113 : hint113.free = free113 := rfl
@[simp] theorem hP113 : hint113.pairs = pairs113 := rfl
attribute [simp] keep114 head114
@[simp] theorem hK114 : hint114.keep = keep114 := rfl
@[simp] theorem hH114 : hint114.head = head114 := rfl
@[simp] theorem hB114 (t : Nat) : hint114.box t = ([] : List Nat).contains t := rfl
@[simp] theorem hD114 (t : Nat) : hint114.dies t = ([19, 30, 35, 48, 53, 67, 77, 80, 86, 101, 103, 108, 121, 126, 140, 159, 161, 168, 171, 177] : List Nat).contains t := rfl
@[simp] theorem ow114 : (hints 114).own = none := rfl
theorem hh114 : hints 114 = hint114 := rfl
@[simp] theorem hS114 (t : Nat) : hint114.soft t = [] := rfl
@[simp] theorem hL114 (t : Nat) : hint114.lazy t = none := rfl
attribute [simp] free114 pairs114
@[simp] theorem hF114 : hint114.free = free114 := rfl
@[simp] theorem hP114 : hint114.pairs = pairs114 := rfl
attribute [simp] keep115 head115
@[simp] theorem hK115 : hint115.keep = keep115 := rfl
@[simp] theorem hH115 : hint115.head = head115 := rfl
@[simp] theorem hB115 (t : Nat) : hint115.box t = ([] : List Nat).contains t := rfl
@[simp] theorem hD115 (t : Nat) : hint115.dies t = ([5, 9, 11, 13, 14] : List Nat).contains t := rfl
@[simp] theorem ow115 : (hints 115).own = none := rfl
theorem hh115 : hints 115 = hint115 := rfl
@[simp] theorem hS115 (t : Nat) : hint115.soft t = [] := rfl
@[simp] theorem hL115 (t : Nat) : hint115.lazy t = none := rfl
attribute [simp] keep116 head116
@[simp] theorem hK116 : hint116.keep = keep116 := rfl
@[simp] theorem hH116 : hint116.head = head116 := rfl
@[simp] theorem hB116 (t : Nat) : hint116.box t = ([] : List Nat).contains t := rfl
@[simp] theorem hD116 (t : Nat) : hint116.dies t = ([5, 9, 11, 15, 17, 19, 20] : List Nat).contains t := rfl
@[simp] theorem ow116 : (hints 116).own = none := rfl
theorem hh116 : hints 116 = hint116 := rfl
@[simp] theorem hS116 (t : Nat) : hint116.soft t = [] := rfl
@[simp] theorem hL116 (t : Nat) : hint116.lazy t = none := rfl
attribute [simp] keep117 head117
@[simp] theorem hK117 : hint117.keep = keep117 := rfl
@[simp] theorem hH117 : hint117.head = head117 := rfl
@[simp] theorem hB117 (t : Nat) : hint117.box t = ([] : List Nat).contains t := rfl
@[simp] theorem hD117 (t : Nat) : hint117.dies t = ([8, 17] : List Nat).contains t := rfl
@[simp] theorem ow117 : (hints 117).own = none := rfl
theorem hh117 : hints 117 = hint117 := rfl
@[simp] theorem hS117 (t : Nat) : hint117.soft t = [] := rfl
@[simp] theorem hL117 (t : Nat) : hint117.lazy t = none := rfl
attribute [simp] keep118 head118
@[simp] theorem hK118 : hint118.keep = keep118 := rfl
@[simp] theorem hH118 : hint118.head = head118 := rfl
@[simp] theorem hB118 (t : Nat) : hint118.box t = ([2, 4] : List Nat).contains t := rfl
@[simp] theorem hD118 (t : Nat) : hint118.dies t = ([6, 12] : List Nat).contains t := rfl
@[simp] theorem ow118 : (hints 118).own = none := rfl
theorem hh118 : hints 118 = hint118 := rfl
@[simp] theorem hS118 (t : Nat) : hint118.soft t = [] := rfl
@[simp] theorem hL118 (t : Nat) : hint118.lazy t = none := rfl
attribute [simp] keep119 head119
@[simp] theorem hK119 : hint119.keep = keep119 := rfl
@[simp] theorem hH119 : hint119.head = head119 := rfl
@[simp] theorem hB119 (t : Nat) : hint119.box t = ([] : List Nat).contains t := rfl
@[simp] theorem hD119 (t : Nat) : hint119.dies t = ([5, 9, 13, 17, 21] : List Nat).contains t := rfl
@[simp] theorem ow119 : (hints 119).own = none := rfl
theorem hh119 : hints 119 = hint119 := rfl
@[simp] theorem hS119 (t : Nat) : hint119.soft t = [] := rfl
@[simp] theorem hL119 (t : Nat) : hint119.lazy t = none := rfl
attribute [simp] keep120 head120
@[simp] theorem hK120 : hint120.keep = keep120 := rfl
@[simp] theorem hH120 : hint120.head = head120 := rfl
@[simp] theorem hB120 (t : Nat) : hint120.box t = ([] : List Nat).contains t := rfl
@[simp] theorem hD120 (t : Nat) : hint120.dies t = ([7] : List Nat).contains t := rfl
@[simp] theorem ow120 : (hints 120).own = none := rfl
theorem hh120 : hints 120 = hint120 := rfl
@[simp] theorem hS120 (t : Nat) : hint120.soft t = [] := rfl
@[simp] theorem hL120 (t : Nat) : hint120.lazy t = none := rfl
attribute [simp] free120 pairs120
@[simp] theorem hF120 : hint120.free = free120 := rfl
@[simp] theorem hP120 : hint120.pairs = pairs120 := rfl
attribute [simp] keep121 head121
@[simp] theorem hK121 : hint121.keep = keep121 := rfl
@[simp] theorem hH121 : hint121.head = head121 := rfl
@[simp] theorem hB121 (t : Nat) : hint121.box t = ([] : List Nat).contains t := rfl
@[simp] theorem hD121 (t : Nat) : hint121.dies t = ([12] : List Nat).contains t := rfl
@[simp] theorem ow121 : (hints 121).own = none := rfl
theorem hh121 : hints 121 = hint121 := rfl
@[simp] theorem hS121 (t : Nat) : hint121.soft t = [] := rfl
@[simp] theorem hL121 (t : Nat) : hint121.lazy t = none := rfl
attribute [simp] keep122 head122
@[simp] theorem hK122 : hint122.keep = keep122 := rfl
@[simp] theorem hH122 : hint122.head = head122 := rfl
@[simp] theorem hB122 (t : Nat) : hint122.box t = ([2, 4] : List Nat).contains t := rfl
@[simp] theorem hD122 (t : Nat) : hint122.dies t = ([6, 20] : List Nat).contains t := rfl
@[simp] theorem ow122 : (hints 122).own = none := rfl
theorem hh122 : hints 122 = hint122 := rfl
@[simp] theorem hS122 (t : Nat) : hint122.soft t = [] := rfl
@[simp] theorem hL122 (t : Nat) : hint122.lazy t = none := rfl
attribute [simp] keep123 head123
@[simp] theorem hK123 : hint123.keep = keep123 := rfl
@[simp] theorem hH123 : hint123.head = head123 := rfl
@[simp] theorem hB123 (t : Nat) : hint123.box t = ([] : List Nat).contains t := rfl
@[simp] theorem hD123 (t : Nat) : hint123.dies t = ([7] : List Nat).contains t := rfl
@[simp] theorem ow123 : (hints 123).own = none := rfl
theorem hh123 : hints 123 = hint123 := rfl
@[simp] theorem hS123 (t : Nat) : hint123.soft t = [] := rfl
@[simp] theorem hL123 (t : Nat) : hint123.lazy t = none := rfl
attribute [simp] free123 pairs123
@[simp] theorem hF123 : hint123.free = free123 := rfl
@[simp] theorem hP123 : hint123.pairs = pairs123 := rfl
attribute [simp] keep124 head124
@[simp] theorem hK124 : hint124.keep = keep124 := rfl
@[simp] theorem hH124 : hint124.head = head124 := rfl
@[simp] theorem hB124 (t : Nat) : hint124.box t = ([2, 3] : List Nat).contains t := rfl
@[simp] theorem hD124 (t : Nat) : hint124.dies t = ([11] : List Nat).contains t := rfl
@[simp] theorem ow124 : (hints 124).own = none := rfl
theorem hh124 : hints 124 = hint124 := rfl
@[simp] theorem hS124 (t : Nat) : hint124.soft t = [] := rfl
@[simp] theorem hL124 (t : Nat) : hint124.lazy t = none := rfl
attribute [simp] keep125 head125
@[simp] theorem hK125 : hint125.keep = keep125 := rfl
@[simp] theorem hH125 : hint125.head = head125 := rfl
@[simp] theorem hB125 (t : Nat) : hint125.box t = ([] : List Nat).contains t := rfl
@[simp] theorem hD125 (t : Nat) : hint125.dies t = ([12] : List Nat).contains t := rfl
@[simp] theorem ow125 : (hints 125).own = none := rfl
theorem hh125 : hints 125 = hint125 := rfl
@[simp] theorem hS125 (t : Nat) : hint125.soft t = [] := rfl
@[simp] theorem hL125 (t : Nat) : hint125.lazy t = none := rfl
attribute [simp] keep126 head126
@[simp] theorem hK126 : hint126.keep = keep126 := rfl
@[simp] theorem hH126 : hint126.head = head126 := rfl
@[simp] theorem hB126 (t : Nat) : hint126.box t = ([] : List Nat).contains t := rfl
@[simp] theorem hD126 (t : Nat) : hint126.dies t = ([5, 6] : List Nat).contains t := rfl
@[simp] theorem ow126 : (hints 126).own = none := rfl
theorem hh126 : hints 126 = hint126 := rfl
@[simp] theorem hS126 (t : Nat) : hint126.soft t = [] := rfl
@[simp] theorem hL126 (t : Nat) : hint126.lazy t = none := rfl
attribute [simp] keep127 head127
@[simp] theorem hK127 : hint127.keep = keep127 := rfl
@[simp] theorem hH127 : hint127.head = head127 := rfl
@[simp] theorem hB127 (t : Nat) : hint127.box t = ([2, 4] : List Nat).contains t := rfl
@[simp] theorem hD127 (t : Nat) : hint127.dies t = ([6, 20, 21] : List Nat).contains t := rfl
@[simp] theorem ow127 : (hints 127).own = none := rfl
theorem hh127 : hints 127 = hint127 := rfl
@[simp] theorem hS127 (t : Nat) : hint127.soft t = [] := rfl
@[simp] theorem hL127 (t : Nat) : hint127.lazy t = none := rfl
attribute [simp] keep128 head128
@[simp] theorem hK128 : hint128.keep = keep128 := rfl
@[simp] theorem hH128 : hint128.head = head128 := rfl
@[simp] theorem hB128 (t : Nat) : hint128.box t = ([2] : List Nat).contains t := rfl
@[simp] theorem hD128 (t : Nat) : hint128.dies t = ([] : List Nat).contains t := rfl
@[simp] theorem ow128 : (hints 128).own = none := rfl
theorem hh128 : hints 128 = hint128 := rfl
@[simp] theorem hS128 (t : Nat) : hint128.soft t = [] := rfl
@[simp] theorem hL128 (t : Nat) : hint128.lazy t = none := rfl
attribute [simp] keep129 head129
@[simp] theorem hK129 : hint129.keep = keep129 := rfl
@[simp] theorem hH129 : hint129.head = head129 := rfl
@[simp] theorem hB129 (t : Nat) : hint129.box t = ([] : List Nat).contains t := rfl
@[simp] theorem hD129 (t : Nat) : hint129.dies t = ([8, 17] : List Nat).contains t := rfl
@[simp] theorem ow129 : (hints 129).own = none := rfl
theorem hh129 : hints 129 = hint129 := rfl
@[simp] theorem hS129 (t : Nat) : hint129.soft t = [] := rfl
@[simp] theorem hL129 (t : Nat) : hint129.lazy t = none := rfl
attribute [simp] keep130 head130
@[simp] theorem hK130 : hint130.keep = keep130 := rfl
@[simp] theorem hH130 : hint130.head = head130 := rfl
@[simp] theorem hB130 (t : Nat) : hint130.box t = ([1] : List Nat).contains t := rfl
@[simp] theorem hD130 (t : Nat) : hint130.dies t = ([] : List Nat).contains t := rfl
@[simp] theorem ow130 : (hints 130).own = none := rfl
theorem hh130 : hints 130 = hint130 := rfl
@[simp] theorem hS130 (t : Nat) : hint130.soft t = [] := rfl
@[simp] theorem hL130 (t : Nat) : hint130.lazy t = none := rfl
attribute [simp] keep131 head131
@[simp] theorem hK131 : hint131.keep = keep131 := rfl
@[simp] theorem hH131 : hint131.head = head131 := rfl
@[simp] theorem hB131 (t : Nat) : hint131.box t = ([] : List Nat).contains t := rfl
@[simp] theorem hD131 (t : Nat) : hint131.dies t = ([6] : List Nat).contains t := rfl
@[simp] theorem ow131 : (hints 131).own = none := rfl
theorem hh131 : hints 131 = hint131 := rfl
@[simp] theorem hS131 (t : Nat) : hint131.soft t = [] := rfl
@[simp] theorem hL131 (t : Nat) : hint131.lazy t = none := rfl
attribute [simp] keep132 head132
@[simp] theorem hK132 : hint132.keep = keep132 := rfl
@[simp] theorem hH132 : hint132.head = head132 := rfl
@[simp] theorem hB132 (t : Nat) : hint132.box t = ([1] : List Nat).contains t := rfl
@[simp] theorem hD132 (t : Nat) : hint132.dies t = ([8, 22, 39, 50, 59] : List Nat).contains t := rfl
@[simp] theorem ow132 : (hints 132).own = none := rfl
theorem hh132 : hints 132 = hint132 := rfl
@[simp] theorem hS132 (t : Nat) : hint132.soft t = [] := rfl
@[simp] theorem hL132 (t : Nat) : hint132.lazy t = none := rfl
attribute [simp] free132 pairs132
@[simp] theorem hF132 : hint132.free = free132 := rfl
@[simp] theorem hP132 : hint132.pairs = pairs132 := rfl
attribute [simp] keep133 head133
@[simp] theorem hK133 : hint133.keep = keep133 := rfl
@[simp] theorem hH133 : hint133.head = head133 := rfl
@[simp] theorem hB133 (t : Nat) : hint133.box t = ([] : List Nat).contains t := rfl
@[simp] theorem hD133 (t : Nat) : hint133.dies t = ([12, 15] : List Nat).contains t := rfl
@[simp] theorem ow133 : (hints 133).own = none := rfl
theorem hh133 : hints 133 = hint133 := rfl
@[simp] theorem hS133 (t : Nat) : hint133.soft t = [] := rfl
@[simp] theorem hL133 (t : Nat) : hint133.lazy t = none := rfl
attribute [simp] keep134 head134
@[simp] theorem hK134 : hint134.keep = keep134 := rfl
@[simp] theorem hH134 : hint134.head = head134 := rfl
@[simp] theorem hB134 (t : Nat) : hint134.box t = ([] : List Nat).contains t := rfl
@[simp] theorem hD134 (t : Nat) : hint134.dies t = ([5, 6] : List Nat).contains t := rfl
@[simp] theorem ow134 : (hints 134).own = none := rfl
theorem hh134 : hints 134 = hint134 := rfl
@[simp] theorem hS134 (t : Nat) : hint134.soft t = [] := rfl
@[simp] theorem hL134 (t : Nat) : hint134.lazy t = none := rfl
attribute [simp] keep135 head135
@[simp] theorem hK135 : hint135.keep = keep135 := rfl
@[simp] theorem hH135 : hint135.head = head135 := rfl
@[simp] theorem hB135 (t : Nat) : hint135.box t = ([2] : List Nat).contains t := rfl
@[simp] theorem hD135 (t : Nat) : hint135.dies t = ([6] : List Nat).contains t := rfl
@[simp] theorem ow135 : (hints 135).own = none := rfl
theorem hh135 : hints 135 = hint135 := rfl
@[simp] theorem hS135 (t : Nat) : hint135.soft t = [] := rfl
@[simp] theorem hL135 (t : Nat) : hint135.lazy t = none := rfl
attribute [simp] keep136 head136
@[simp] theorem hK136 : hint136.keep = keep136 := rfl
@[simp] theorem hH136 : hint136.head = head136 := rfl
@[simp] theorem hB136 (t : Nat) : hint136.box t = ([2, 3, 5, 7] : List Nat).contains t := rfl
@[simp] theorem hD136 (t : Nat) : hint136.dies t = ([9, 23, 42, 49, 50, 52, 53] : List Nat).contains t := rfl
@[simp] theorem ow136 : (hints 136).own = none := rfl
theorem hh136 : hints 136 = hint136 := rfl
@[simp] theorem hS136 (t : Nat) : hint136.soft t = [] := rfl
@[simp] theorem hL136 (t : Nat) : hint136.lazy t = none := rfl
attribute [simp] free136 pairs136
@[simp] theorem hF136 : hint136.free = free136 := rfl
@[simp] theorem hP136 : hint136.pairs = pairs136 := rfl
attribute [simp] keep137 head137
@[simp] theorem hK137 : hint137.keep = keep137 := rfl
@[simp] theorem hH137 : hint137.head = head137 := rfl
@[simp] theorem hB137 (t : Nat) : hint137.box t = ([] : List Nat).contains t := rfl
@[simp] theorem hD137 (t : Nat) : hint137.dies t = ([8, 17] : List Nat).contains t := rfl
@[simp] theorem ow137 : (hints 137).own = none := rfl
theorem hh137 : hints 137 = hint137 := rfl
@[simp] theorem hS137 (t : Nat) : hint137.soft t = [] := rfl
@[simp] theorem hL137 (t : Nat) : hint137.lazy t = none := rfl
attribute [simp] keep138 head138
@[simp] theorem hK138 : hint138.keep = keep138 := rfl
@[simp] theorem hH138 : hint138.head = head138 := rfl
@[simp] theorem hB138 (t : Nat) : hint138.box t = ([] : List Nat).contains t := rfl
@[simp] theorem hD138 (t : Nat) : hint138.dies t = ([12, 23, 41, 75, 81] : List Nat).contains t := rfl
@[simp] theorem ow138 : (hints 138).own = none := rfl
theorem hh138 : hints 138 = hint138 := rfl
@[simp] theorem hS138 (t : Nat) : hint138.soft t = [] := rfl
@[simp] theorem hL138 (t : Nat) : hint138.lazy t = none := rfl
attribute [simp] free138 pairs138
@[simp] theorem hF138 : hint138.free = free138 := rfl
@[simp] theorem hP138 : hint138.pairs = pairs138 := rfl
attribute [simp] keep139 head139
@[simp] theorem hK139 : hint139.keep = keep139 := rfl
@[simp] theorem hH139 : hint139.head = head139 := rfl
@[simp] theorem hB139 (t : Nat) : hint139.box t = ([] : List Nat).contains t := rfl
@[simp] theorem hD139 (t : Nat) : hint139.dies t = ([3] : List Nat).contains t := rfl
@[simp] theorem ow139 : (hints 139).own = none := rfl
theorem hh139 : hints 139 = hint139 := rfl
@[simp] theorem hS139 (t : Nat) : hint139.soft t = [] := rfl
@[simp] theorem hL139 (t : Nat) : hint139.lazy t = none := rfl
attribute [simp] keep140 head140
@[simp] theorem hK140 : hint140.keep = keep140 := rfl
@[simp] theorem hH140 : hint140.head = head140 := rfl
@[simp] theorem hB140 (t : Nat) : hint140.box t = ([] : List Nat).contains t := rfl
@[simp] theorem hD140 (t : Nat) : hint140.dies t = ([30] : List Nat).contains t := rfl
@[simp] theorem ow140 : (hints 140).own = none := rfl
theorem hh140 : hints 140 = hint140 := rfl
@[simp] theorem hS140 (t : Nat) : hint140.soft t = [] := rfl
@[simp] theorem hL140 (t : Nat) : hint140.lazy t = none := rfl
attribute [simp] free140 pairs140
@[simp] theorem hF140 : hint140.free = free140 := rfl
@[simp] theorem hP140 : hint140.pairs = pairs140 := rfl
attribute [simp] keep141 head141
@[simp] theorem hK141 : hint141.keep = keep141 := rfl
@[simp] theorem hH141 : hint141.head = head141 := rfl
@[simp] theorem hB141 (t : Nat) : hint141.box t = ([] : List Nat).contains t := rfl
@[simp] theorem hD141 (t : Nat) : hint141.dies t = ([9, 13, 15, 16] : List Nat).contains t := rfl
@[simp] theorem ow141 : (hints 141).own = none := rfl
theorem hh141 : hints 141 = hint141 := rfl
@[simp] theorem hS141 (t : Nat) : hint141.soft t = [] := rfl
@[simp] theorem hL141 (t : Nat) : hint141.lazy t = none := rfl
attribute [simp] keep142 head142
@[simp] theorem hK142 : hint142.keep = keep142 := rfl
@[simp] theorem hH142 : hint142.head = head142 := rfl
@[simp] theorem hB142 (t : Nat) : hint142.box t = ([] : List Nat).contains t := rfl
@[simp] theorem hD142 (t : Nat) : hint142.dies t = ([13, 15, 16, 22, 24, 25, 31, 32, 33, 34, 35, 36, 40] : List Nat).contains t := rfl
@[simp] theorem ow142 : (hints 142).own = none := rfl
theorem hh142 : hints 142 = hint142 := rfl
@[simp] theorem hS142 (t : Nat) : hint142.soft t = [] := rfl
@[simp] theorem hL142 (t : Nat) : hint142.lazy t = none := rfl
attribute [simp] keep143 head143
@[simp] theorem hK143 : hint143.keep = keep143 := rfl
@[simp] theorem hH143 : hint143.head = head143 := rfl
@[simp] theorem hB143 (t : Nat) : hint143.box t = ([4] : List Nat).contains t := rfl
@[simp] theorem hD143 (t : Nat) : hint143.dies t = ([6, 7] : List Nat).contains t := rfl
@[simp] theorem ow143 : (hints 143).own = none := rfl
theorem hh143 : hints 143 = hint143 := rfl
@[simp] theorem hS143 (t : Nat) : hint143.soft t = [] := rfl
@[simp] theorem hL143 (t : Nat) : hint143.lazy t = none := rfl
attribute [simp] keep144 head144
@[simp] theorem hK144 : hint144.keep = keep144 := rfl
@[simp] theorem hH144 : hint144.head = head144 := rfl
@[simp] theorem hB144 (t : Nat) : hint144.box t = ([] : List Nat).contains t := rfl
@[simp] theorem hD144 (t : Nat) : hint144.dies t = ([12, 17, 23, 28, 29, 30, 31] : List Nat).contains t := rfl
@[simp] theorem ow144 : (hints 144).own = none := rfl
theorem hh144 : hints 144 = hint144 := rfl
@[simp] theorem hS144 (t : Nat) : hint144.soft t = [] := rfl
@[simp] theorem hL144 (t : Nat) : hint144.lazy t = none := rfl
attribute [simp] free144 pairs144
@[simp] theorem hF144 : hint144.free = free144 := rfl
@[simp] theorem hP144 : hint144.pairs = pairs144 := rfl

end Go.Proofs.Ytehemoachikpgaa
