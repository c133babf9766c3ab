/-
  What the evaluator asks of the types of this program and of the hints, as rules. No condition.
-/
import Derived.Test.YtaiiboplopljoaaGreatHints
import Derived.Test.YtaiiboplopljoaaGreatPsD

set_option linter.all false
section
namespace Go.Proofs.YtaiiboplopljoaaGreat
open Go Go.PS
attribute [simp] Tryz.underlying1
@[simp] theorem sz1 : sizeT Tryz.prog 1 = 1 := by kernel_rfl
@[simp] theorem ag1 : isAggT Tryz.prog 1 = false := by kernel_rfl
@[simp] theorem in1 : (Tryz.prog.info? 1).isSome = true := by kernel_rfl
@[simp] theorem ze1 : zeroT Tryz.prog 1 = some [.raw .nilFunc] := by kernel_rfl
@[simp] theorem fi1 (m : Nat) : fits Tryz.prog 1 m = decide (m * 8 ≤ 140737488355328) := fits_at ze1 (by kernel_rfl) m
@[simp] theorem an1 (n : Int) : (Tryz.prog.info? 1).any (fun i => decide ((i.bytes : Int) * n ≤ 140737488355328)) = decide (8 * n ≤ 140737488355328) := any_at (by kernel_rfl) n
attribute [simp] Tryz.underlying2
@[simp] theorem sz2 : sizeT Tryz.prog 2 = 1 := by kernel_rfl
@[simp] theorem ag2 : isAggT Tryz.prog 2 = false := by kernel_rfl
@[simp] theorem in2 : (Tryz.prog.info? 2).isSome = true := by kernel_rfl
@[simp] theorem ze2 : zeroT Tryz.prog 2 = some [.int .i64 0] := by kernel_rfl
@[simp] theorem fi2 (m : Nat) : fits Tryz.prog 2 m = decide (m * 8 ≤ 140737488355328) := fits_at ze2 (by kernel_rfl) m
@[simp] theorem an2 (n : Int) : (Tryz.prog.info? 2).any (fun i => decide ((i.bytes : Int) * n ≤ 140737488355328)) = decide (8 * n ≤ 140737488355328) := any_at (by kernel_rfl) n
attribute [simp] Tryz.underlying3
@[simp] theorem sz3 : sizeT Tryz.prog 3 = 1 := by kernel_rfl
@[simp] theorem ag3 : isAggT Tryz.prog 3 = false := by kernel_rfl
@[simp] theorem in3 : (Tryz.prog.info? 3).isSome = true := by kernel_rfl
@[simp] theorem ze3 : zeroT Tryz.prog 3 = some [.int .i64 0] := by kernel_rfl
@[simp] theorem fi3 (m : Nat) : fits Tryz.prog 3 m = decide (m * 8 ≤ 140737488355328) := fits_at ze3 (by kernel_rfl) m
@[simp] theorem an3 (n : Int) : (Tryz.prog.info? 3).any (fun i => decide ((i.bytes : Int) * n ≤ 140737488355328)) = decide (8 * n ≤ 140737488355328) := any_at (by kernel_rfl) n
attribute [simp] Tryz.underlying4
@[simp] theorem sz4 : sizeT Tryz.prog 4 = 1 := by kernel_rfl
@[simp] theorem ag4 : isAggT Tryz.prog 4 = false := by kernel_rfl
@[simp] theorem in4 : (Tryz.prog.info? 4).isSome = true := by kernel_rfl
@[simp] theorem ze4 : zeroT Tryz.prog 4 = some [.bool false] := by kernel_rfl
@[simp] theorem fi4 (m : Nat) : fits Tryz.prog 4 m = decide (m * 1 ≤ 140737488355328) := fits_at ze4 (by kernel_rfl) m
@[simp] theorem an4 (n : Int) : (Tryz.prog.info? 4).any (fun i => decide ((i.bytes : Int) * n ≤ 140737488355328)) = decide (1 * n ≤ 140737488355328) := any_at (by kernel_rfl) n
attribute [simp] Tryz.underlying5
@[simp] theorem sz5 : sizeT Tryz.prog 5 = 1 := by kernel_rfl
@[simp] theorem ag5 : isAggT Tryz.prog 5 = false := by kernel_rfl
@[simp] theorem in5 : (Tryz.prog.info? 5).isSome = true := by kernel_rfl
@[simp] theorem ze5 : zeroT Tryz.prog 5 = some [.int .u8 0] := by kernel_rfl
@[simp] theorem fi5 (m : Nat) : fits Tryz.prog 5 m = decide (m * 1 ≤ 140737488355328) := fits_at ze5 (by kernel_rfl) m
@[simp] theorem an5 (n : Int) : (Tryz.prog.info? 5).any (fun i => decide ((i.bytes : Int) * n ≤ 140737488355328)) = decide (1 * n ≤ 140737488355328) := any_at (by kernel_rfl) n
attribute [simp] Tryz.underlying6
@[simp] theorem sz6 : sizeT Tryz.prog 6 = 1 := by kernel_rfl
@[simp] theorem ag6 : isAggT Tryz.prog 6 = false := by kernel_rfl
@[simp] theorem in6 : (Tryz.prog.info? 6).isSome = true := by kernel_rfl
@[simp] theorem ze6 : zeroT Tryz.prog 6 = some [.int .u8 0] := by kernel_rfl
@[simp] theorem fi6 (m : Nat) : fits Tryz.prog 6 m = decide (m * 1 ≤ 140737488355328) := fits_at ze6 (by kernel_rfl) m
@[simp] theorem an6 (n : Int) : (Tryz.prog.info? 6).any (fun i => decide ((i.bytes : Int) * n ≤ 140737488355328)) = decide (1 * n ≤ 140737488355328) := any_at (by kernel_rfl) n
attribute [simp] Tryz.underlying7
@[simp] theorem sz7 : sizeT Tryz.prog 7 = 4 := by kernel_rfl
@[simp] theorem ag7 : isAggT Tryz.prog 7 = true := by kernel_rfl
@[simp] theorem in7 : (Tryz.prog.info? 7).isSome = true := by kernel_rfl
@[simp] theorem ze7 : zeroT Tryz.prog 7 = some [.int .i64 0, .int .i64 0, .bool false, .int .u8 0] := by kernel_rfl
@[simp] theorem fi7 (m : Nat) : fits Tryz.prog 7 m = decide (m * 24 ≤ 140737488355328) := fits_at ze7 (by kernel_rfl) m
@[simp] theorem an7 (n : Int) : (Tryz.prog.info? 7).any (fun i => decide ((i.bytes : Int) * n ≤ 140737488355328)) = decide (24 * n ≤ 140737488355328) := any_at (by kernel_rfl) n
attribute [simp] Tryz.underlying8
@[simp] theorem sz8 : sizeT Tryz.prog 8 = 4 := by kernel_rfl
@[simp] theorem ag8 : isAggT Tryz.prog 8 = true := by kernel_rfl
@[simp] theorem in8 : (Tryz.prog.info? 8).isSome = true := by kernel_rfl
@[simp] theorem ze8 : zeroT Tryz.prog 8 = some [.int .i64 0, .int .i64 0, .bool false, .int .u8 0] := by kernel_rfl
@[simp] theorem fi8 (m : Nat) : fits Tryz.prog 8 m = decide (m * 24 ≤ 140737488355328) := fits_at ze8 (by kernel_rfl) m
@[simp] theorem an8 (n : Int) : (Tryz.prog.info? 8).any (fun i => decide ((i.bytes : Int) * n ≤ 140737488355328)) = decide (24 * n ≤ 140737488355328) := any_at (by kernel_rfl) n
attribute [simp] Tryz.underlying9
@[simp] theorem sz9 : sizeT Tryz.prog 9 = 1 := by kernel_rfl
@[simp] theorem ag9 : isAggT Tryz.prog 9 = false := by kernel_rfl
@[simp] theorem in9 : (Tryz.prog.info? 9).isSome = true := by kernel_rfl
@[simp] theorem ze9 : zeroT Tryz.prog 9 = some [.str []] := by kernel_rfl
@[simp] theorem fi9 (m : Nat) : fits Tryz.prog 9 m = decide (m * 16 ≤ 140737488355328) := fits_at ze9 (by kernel_rfl) m
@[simp] theorem an9 (n : Int) : (Tryz.prog.info? 9).any (fun i => decide ((i.bytes : Int) * n ≤ 140737488355328)) = decide (16 * n ≤ 140737488355328) := any_at (by kernel_rfl) n
attribute [simp] Tryz.underlying10
@[simp] theorem sz10 : sizeT Tryz.prog 10 = 1 := by kernel_rfl
@[simp] theorem ag10 : isAggT Tryz.prog 10 = false := by kernel_rfl
@[simp] theorem in10 : (Tryz.prog.info? 10).isSome = true := by kernel_rfl
@[simp] theorem ze10 : zeroT Tryz.prog 10 = some [.str []] := by kernel_rfl
@[simp] theorem fi10 (m : Nat) : fits Tryz.prog 10 m = decide (m * 16 ≤ 140737488355328) := fits_at ze10 (by kernel_rfl) m
@[simp] theorem an10 (n : Int) : (Tryz.prog.info? 10).any (fun i => decide ((i.bytes : Int) * n ≤ 140737488355328)) = decide (16 * n ≤ 140737488355328) := any_at (by kernel_rfl) n
attribute [simp] Tryz.underlying11
@[simp] theorem sz11 : sizeT Tryz.prog 11 = 1 := by kernel_rfl
@[simp] theorem ag11 : isAggT Tryz.prog 11 = false := by kernel_rfl
@[simp] theorem in11 : (Tryz.prog.info? 11).isSome = true := by kernel_rfl
@[simp] theorem ze11 : zeroT Tryz.prog 11 = some [.str []] := by kernel_rfl
@[simp] theorem fi11 (m : Nat) : fits Tryz.prog 11 m = decide (m * 16 ≤ 140737488355328) := fits_at ze11 (by kernel_rfl) m
@[simp] theorem an11 (n : Int) : (Tryz.prog.info? 11).any (fun i => decide ((i.bytes : Int) * n ≤ 140737488355328)) = decide (16 * n ≤ 140737488355328) := any_at (by kernel_rfl) n
attribute [simp] Tryz.underlying12
@[simp] theorem sz12 : sizeT Tryz.prog 12 = 1 := by kernel_rfl
@[simp] theorem ag12 : isAggT Tryz.prog 12 = false := by kernel_rfl
@[simp] theorem in12 : (Tryz.prog.info? 12).isSome = true := by kernel_rfl
@[simp] theorem ze12 : zeroT Tryz.prog 12 = some [.int .u64 0] := by kernel_rfl
@[simp] theorem fi12 (m : Nat) : fits Tryz.prog 12 m = decide (m * 8 ≤ 140737488355328) := fits_at ze12 (by kernel_rfl) m
@[simp] theorem an12 (n : Int) : (Tryz.prog.info? 12).any (fun i => decide ((i.bytes : Int) * n ≤ 140737488355328)) = decide (8 * n ≤ 140737488355328) := any_at (by kernel_rfl) n
attribute [simp] Tryz.underlying13
@[simp] theorem sz13 : sizeT Tryz.prog 13 = 2 := by kernel_rfl
@[simp] theorem ag13 : isAggT Tryz.prog 13 = true := by kernel_rfl
@[simp] theorem in13 : (Tryz.prog.info? 13).isSome = true := by kernel_rfl
@[simp] theorem ze13 : zeroT Tryz.prog 13 = some [.str [], .int .u64 0] := by kernel_rfl
@[simp] theorem fi13 (m : Nat) : fits Tryz.prog 13 m = decide (m * 24 ≤ 140737488355328) := fits_at ze13 (by kernel_rfl) m
@[simp] theorem an13 (n : Int) : (Tryz.prog.info? 13).any (fun i => decide ((i.bytes : Int) * n ≤ 140737488355328)) = decide (24 * n ≤ 140737488355328) := any_at (by kernel_rfl) n
attribute [simp] Tryz.underlying14
@[simp] theorem sz14 : sizeT Tryz.prog 14 = 2 := by kernel_rfl
@[simp] theorem ag14 : isAggT Tryz.prog 14 = true := by kernel_rfl
@[simp] theorem in14 : (Tryz.prog.info? 14).isSome = true := by kernel_rfl
@[simp] theorem ze14 : zeroT Tryz.prog 14 = some [.str [], .int .u64 0] := by kernel_rfl
@[simp] theorem fi14 (m : Nat) : fits Tryz.prog 14 m = decide (m * 24 ≤ 140737488355328) := fits_at ze14 (by kernel_rfl) m
@[simp] theorem an14 (n : Int) : (Tryz.prog.info? 14).any (fun i => decide ((i.bytes : Int) * n ≤ 140737488355328)) = decide (24 * n ≤ 140737488355328) := any_at (by kernel_rfl) n
attribute [simp] Tryz.underlying15
@[simp] theorem sz15 : sizeT Tryz.prog 15 = 1 := by kernel_rfl
@[simp] theorem ag15 : isAggT Tryz.prog 15 = false := by kernel_rfl
@[simp] theorem in15 : (Tryz.prog.info? 15).isSome = true := by kernel_rfl
@[simp] theorem ze15 : zeroT Tryz.prog 15 = some [.nilp] := by kernel_rfl
@[simp] theorem fi15 (m : Nat) : fits Tryz.prog 15 m = decide (m * 8 ≤ 140737488355328) := fits_at ze15 (by kernel_rfl) m
@[simp] theorem an15 (n : Int) : (Tryz.prog.info? 15).any (fun i => decide ((i.bytes : Int) * n ≤ 140737488355328)) = decide (8 * n ≤ 140737488355328) := any_at (by kernel_rfl) n
attribute [simp] Tryz.underlying16
@[simp] theorem sz16 : sizeT Tryz.prog 16 = 1 := by kernel_rfl
@[simp] theorem ag16 : isAggT Tryz.prog 16 = false := by kernel_rfl
@[simp] theorem in16 : (Tryz.prog.info? 16).isSome = true := by kernel_rfl
@[simp] theorem ze16 : zeroT Tryz.prog 16 = some [.nilp] := by kernel_rfl
@[simp] theorem fi16 (m : Nat) : fits Tryz.prog 16 m = decide (m * 8 ≤ 140737488355328) := fits_at ze16 (by kernel_rfl) m
@[simp] theorem an16 (n : Int) : (Tryz.prog.info? 16).any (fun i => decide ((i.bytes : Int) * n ≤ 140737488355328)) = decide (8 * n ≤ 140737488355328) := any_at (by kernel_rfl) n
attribute [simp] Tryz.underlying17
@[simp] theorem sz17 : sizeT Tryz.prog 17 = 1 := by kernel_rfl
@[simp] theorem ag17 : isAggT Tryz.prog 17 = false := by kernel_rfl
@[simp] theorem in17 : (Tryz.prog.info? 17).isSome = true := by kernel_rfl
@[simp] theorem ze17 : zeroT Tryz.prog 17 = some [.nilp] := by kernel_rfl
@[simp] theorem fi17 (m : Nat) : fits Tryz.prog 17 m = decide (m * 8 ≤ 140737488355328) := fits_at ze17 (by kernel_rfl) m
@[simp] theorem an17 (n : Int) : (Tryz.prog.info? 17).any (fun i => decide ((i.bytes : Int) * n ≤ 140737488355328)) = decide (8 * n ≤ 140737488355328) := any_at (by kernel_rfl) n
attribute [simp] Tryz.underlying18
@[simp] theorem sz18 : sizeT Tryz.prog 18 = 1 := by kernel_rfl
@[simp] theorem ag18 : isAggT Tryz.prog 18 = true := by kernel_rfl
@[simp] theorem in18 : (Tryz.prog.info? 18).isSome = true := by kernel_rfl
@[simp] theorem ze18 : zeroT Tryz.prog 18 = some [.nilp] := by kernel_rfl
@[simp] theorem fi18 (m : Nat) : fits Tryz.prog 18 m = decide (m * 8 ≤ 140737488355328) := fits_at ze18 (by kernel_rfl) m
@[simp] theorem an18 (n : Int) : (Tryz.prog.info? 18).any (fun i => decide ((i.bytes : Int) * n ≤ 140737488355328)) = decide (8 * n ≤ 140737488355328) := any_at (by kernel_rfl) n
attribute [simp] Tryz.underlying19
@[simp] theorem sz19 : sizeT Tryz.prog 19 = 1 := by kernel_rfl
@[simp] theorem ag19 : isAggT Tryz.prog 19 = true := by kernel_rfl
@[simp] theorem in19 : (Tryz.prog.info? 19).isSome = true := by kernel_rfl
@[simp] theorem ze19 : zeroT Tryz.prog 19 = some [.nilp] := by kernel_rfl
@[simp] theorem fi19 (m : Nat) : fits Tryz.prog 19 m = decide (m * 8 ≤ 140737488355328) := fits_at ze19 (by kernel_rfl) m
@[simp] theorem an19 (n : Int) : (Tryz.prog.info? 19).any (fun i => decide ((i.bytes : Int) * n ≤ 140737488355328)) = decide (8 * n ≤ 140737488355328) := any_at (by kernel_rfl) n
attribute [simp] Tryz.underlying20
@[simp] theorem sz20 : sizeT Tryz.prog 20 = 1 := by kernel_rfl
@[simp] theorem ag20 : isAggT Tryz.prog 20 = false := by kernel_rfl
@[simp] theorem in20 : (Tryz.prog.info? 20).isSome = true := by kernel_rfl
@[simp] theorem ze20 : zeroT Tryz.prog 20 = some [.raw .nilIface] := by kernel_rfl
@[simp] theorem fi20 (m : Nat) : fits Tryz.prog 20 m = decide (m * 16 ≤ 140737488355328) := fits_at ze20 (by kernel_rfl) m
@[simp] theorem an20 (n : Int) : (Tryz.prog.info? 20).any (fun i => decide ((i.bytes : Int) * n ≤ 140737488355328)) = decide (16 * n ≤ 140737488355328) := any_at (by kernel_rfl) n
attribute [simp] Tryz.underlying21
@[simp] theorem sz21 : sizeT Tryz.prog 21 = 1 := by kernel_rfl
@[simp] theorem ag21 : isAggT Tryz.prog 21 = false := by kernel_rfl
@[simp] theorem in21 : (Tryz.prog.info? 21).isSome = true := by kernel_rfl
@[simp] theorem ze21 : zeroT Tryz.prog 21 = some [.int .i32 0] := by kernel_rfl
@[simp] theorem fi21 (m : Nat) : fits Tryz.prog 21 m = decide (m * 4 ≤ 140737488355328) := fits_at ze21 (by kernel_rfl) m
@[simp] theorem an21 (n : Int) : (Tryz.prog.info? 21).any (fun i => decide ((i.bytes : Int) * n ≤ 140737488355328)) = decide (4 * n ≤ 140737488355328) := any_at (by kernel_rfl) n
attribute [simp] Tryz.underlying22
@[simp] theorem sz22 : sizeT Tryz.prog 22 = 1 := by kernel_rfl
@[simp] theorem ag22 : isAggT Tryz.prog 22 = false := by kernel_rfl
@[simp] theorem in22 : (Tryz.prog.info? 22).isSome = true := by kernel_rfl
@[simp] theorem el22 : elemT Tryz.prog 22 = some 9 := by kernel_rfl
@[simp] theorem ze22 : zeroT Tryz.prog 22 = some [.sl (.mu 0) 0 []] := by kernel_rfl
@[simp] theorem fi22 (m : Nat) : fits Tryz.prog 22 m = decide (m * 24 ≤ 140737488355328) := fits_at ze22 (by kernel_rfl) m
@[simp] theorem an22 (n : Int) : (Tryz.prog.info? 22).any (fun i => decide ((i.bytes : Int) * n ≤ 140737488355328)) = decide (24 * n ≤ 140737488355328) := any_at (by kernel_rfl) n
attribute [simp] Tryz.underlying23
@[simp] theorem sz23 : sizeT Tryz.prog 23 = 1 := by kernel_rfl
@[simp] theorem ag23 : isAggT Tryz.prog 23 = false := by kernel_rfl
@[simp] theorem in23 : (Tryz.prog.info? 23).isSome = true := by kernel_rfl
@[simp] theorem ze23 : zeroT Tryz.prog 23 = some [.raw .nilFunc] := by kernel_rfl
@[simp] theorem fi23 (m : Nat) : fits Tryz.prog 23 m = decide (m * 8 ≤ 140737488355328) := fits_at ze23 (by kernel_rfl) m
@[simp] theorem an23 (n : Int) : (Tryz.prog.info? 23).any (fun i => decide ((i.bytes : Int) * n ≤ 140737488355328)) = decide (8 * n ≤ 140737488355328) := any_at (by kernel_rfl) n
attribute [simp] Tryz.underlying24
@[simp] theorem sz24 : sizeT Tryz.prog 24 = 1 := by kernel_rfl
@[simp] theorem ag24 : isAggT Tryz.prog 24 = false := by kernel_rfl
@[simp] theorem in24 : (Tryz.prog.info? 24).isSome = true := by kernel_rfl
@[simp] theorem ze24 : zeroT Tryz.prog 24 = some [.int .i64 0] := by kernel_rfl
@[simp] theorem fi24 (m : Nat) : fits Tryz.prog 24 m = decide (m * 8 ≤ 140737488355328) := fits_at ze24 (by kernel_rfl) m
@[simp] theorem an24 (n : Int) : (Tryz.prog.info? 24).any (fun i => decide ((i.bytes : Int) * n ≤ 140737488355328)) = decide (8 * n ≤ 140737488355328) := any_at (by kernel_rfl) n
attribute [simp] Tryz.underlying26
@[simp] theorem sz26 : sizeT Tryz.prog 26 = 1 := by kernel_rfl
@[simp] theorem ag26 : isAggT Tryz.prog 26 = false := by kernel_rfl
@[simp] theorem in26 : (Tryz.prog.info? 26).isSome = true := by kernel_rfl
@[simp] theorem ze26 : zeroT Tryz.prog 26 = some [.raw .nilFunc] := by kernel_rfl
@[simp] theorem fi26 (m : Nat) : fits Tryz.prog 26 m = decide (m * 8 ≤ 140737488355328) := fits_at ze26 (by kernel_rfl) m
@[simp] theorem an26 (n : Int) : (Tryz.prog.info? 26).any (fun i => decide ((i.bytes : Int) * n ≤ 140737488355328)) = decide (8 * n ≤ 140737488355328) := any_at (by kernel_rfl) n
attribute [simp] Tryz.underlying27
@[simp] theorem sz27 : sizeT Tryz.prog 27 = 1 := by kernel_rfl
@[simp] theorem ag27 : isAggT Tryz.prog 27 = false := by kernel_rfl
@[simp] theorem in27 : (Tryz.prog.info? 27).isSome = true := by kernel_rfl
@[simp] theorem el27 : elemT Tryz.prog 27 = some 43 := by kernel_rfl
@[simp] theorem ze27 : zeroT Tryz.prog 27 = some [.sl (.mu 0) 0 []] := by kernel_rfl
@[simp] theorem fi27 (m : Nat) : fits Tryz.prog 27 m = decide (m * 24 ≤ 140737488355328) := fits_at ze27 (by kernel_rfl) m
@[simp] theorem an27 (n : Int) : (Tryz.prog.info? 27).any (fun i => decide ((i.bytes : Int) * n ≤ 140737488355328)) = decide (24 * n ≤ 140737488355328) := any_at (by kernel_rfl) n
attribute [simp] Tryz.underlying28
@[simp] theorem sz28 : sizeT Tryz.prog 28 = 1 := by kernel_rfl
@[simp] theorem ag28 : isAggT Tryz.prog 28 = false := by kernel_rfl
@[simp] theorem in28 : (Tryz.prog.info? 28).isSome = true := by kernel_rfl
@[simp] theorem el28 : elemT Tryz.prog 28 = some 44 := by kernel_rfl
@[simp] theorem ze28 : zeroT Tryz.prog 28 = some [.sl (.mu 0) 0 []] := by kernel_rfl
@[simp] theorem fi28 (m : Nat) : fits Tryz.prog 28 m = decide (m * 24 ≤ 140737488355328) := fits_at ze28 (by kernel_rfl) m
@[simp] theorem an28 (n : Int) : (Tryz.prog.info? 28).any (fun i => decide ((i.bytes : Int) * n ≤ 140737488355328)) = decide (24 * n ≤ 140737488355328) := any_at (by kernel_rfl) n
attribute [simp] Tryz.underlying29
@[simp] theorem sz29 : sizeT Tryz.prog 29 = 1 := by kernel_rfl
@[simp] theorem ag29 : isAggT Tryz.prog 29 = false := by kernel_rfl
@[simp] theorem in29 : (Tryz.prog.info? 29).isSome = true := by kernel_rfl
@[simp] theorem el29 : elemT Tryz.prog 29 = some 38 := by kernel_rfl
@[simp] theorem ze29 : zeroT Tryz.prog 29 = some [.sl (.mu 0) 0 []] := by kernel_rfl
@[simp] theorem fi29 (m : Nat) : fits Tryz.prog 29 m = decide (m * 24 ≤ 140737488355328) := fits_at ze29 (by kernel_rfl) m
@[simp] theorem an29 (n : Int) : (Tryz.prog.info? 29).any (fun i => decide ((i.bytes : Int) * n ≤ 140737488355328)) = decide (24 * n ≤ 140737488355328) := any_at (by kernel_rfl) n
attribute [simp] Tryz.underlying30
@[simp] theorem sz30 : sizeT Tryz.prog 30 = 4 := by kernel_rfl
@[simp] theorem ag30 : isAggT Tryz.prog 30 = true := by kernel_rfl
@[simp] theorem in30 : (Tryz.prog.info? 30).isSome = true := by kernel_rfl
@[simp] theorem ze30 : zeroT Tryz.prog 30 = some [.int .i64 0, .sl (.mu 0) 0 [], .sl (.mu 0) 0 [], .sl (.mu 0) 0 []] := by kernel_rfl
@[simp] theorem fi30 (m : Nat) : fits Tryz.prog 30 m = decide (m * 80 ≤ 140737488355328) := fits_at ze30 (by kernel_rfl) m
@[simp] theorem an30 (n : Int) : (Tryz.prog.info? 30).any (fun i => decide ((i.bytes : Int) * n ≤ 140737488355328)) = decide (80 * n ≤ 140737488355328) := any_at (by kernel_rfl) n
attribute [simp] Tryz.underlying31
@[simp] theorem sz31 : sizeT Tryz.prog 31 = 4 := by kernel_rfl
@[simp] theorem ag31 : isAggT Tryz.prog 31 = true := by kernel_rfl
@[simp] theorem in31 : (Tryz.prog.info? 31).isSome = true := by kernel_rfl
@[simp] theorem ze31 : zeroT Tryz.prog 31 = some [.int .i64 0, .sl (.mu 0) 0 [], .sl (.mu 0) 0 [], .sl (.mu 0) 0 []] := by kernel_rfl
@[simp] theorem fi31 (m : Nat) : fits Tryz.prog 31 m = decide (m * 80 ≤ 140737488355328) := fits_at ze31 (by kernel_rfl) m
@[simp] theorem an31 (n : Int) : (Tryz.prog.info? 31).any (fun i => decide ((i.bytes : Int) * n ≤ 140737488355328)) = decide (80 * n ≤ 140737488355328) := any_at (by kernel_rfl) n
attribute [simp] Tryz.underlying33
@[simp] theorem sz33 : sizeT Tryz.prog 33 = 1 := by kernel_rfl
@[simp] theorem ag33 : isAggT Tryz.prog 33 = false := by kernel_rfl
@[simp] theorem in33 : (Tryz.prog.info? 33).isSome = true := by kernel_rfl
@[simp] theorem ze33 : zeroT Tryz.prog 33 = some [.raw .nilFunc] := by kernel_rfl
@[simp] theorem fi33 (m : Nat) : fits Tryz.prog 33 m = decide (m * 8 ≤ 140737488355328) := fits_at ze33 (by kernel_rfl) m
@[simp] theorem an33 (n : Int) : (Tryz.prog.info? 33).any (fun i => decide ((i.bytes : Int) * n ≤ 140737488355328)) = decide (8 * n ≤ 140737488355328) := any_at (by kernel_rfl) n
attribute [simp] Tryz.underlying34
@[simp] theorem sz34 : sizeT Tryz.prog 34 = 1 := by kernel_rfl
@[simp] theorem ag34 : isAggT Tryz.prog 34 = false := by kernel_rfl
@[simp] theorem in34 : (Tryz.prog.info? 34).isSome = true := by kernel_rfl
@[simp] theorem ze34 : zeroT Tryz.prog 34 = some [.raw .nilFunc] := by kernel_rfl
@[simp] theorem fi34 (m : Nat) : fits Tryz.prog 34 m = decide (m * 8 ≤ 140737488355328) := fits_at ze34 (by kernel_rfl) m
@[simp] theorem an34 (n : Int) : (Tryz.prog.info? 34).any (fun i => decide ((i.bytes : Int) * n ≤ 140737488355328)) = decide (8 * n ≤ 140737488355328) := any_at (by kernel_rfl) n
attribute [simp] Tryz.underlying35
@[simp] theorem sz35 : sizeT Tryz.prog 35 = 1 := by kernel_rfl
@[simp] theorem ag35 : isAggT Tryz.prog 35 = false := by kernel_rfl
@[simp] theorem in35 : (Tryz.prog.info? 35).isSome = true := by kernel_rfl
@[simp] theorem ze35 : zeroT Tryz.prog 35 = some [.raw .nilFunc] := by kernel_rfl
@[simp] theorem fi35 (m : Nat) : fits Tryz.prog 35 m = decide (m * 8 ≤ 140737488355328) := fits_at ze35 (by kernel_rfl) m
@[simp] theorem an35 (n : Int) : (Tryz.prog.info? 35).any (fun i => decide ((i.bytes : Int) * n ≤ 140737488355328)) = decide (8 * n ≤ 140737488355328) := any_at (by kernel_rfl) n
attribute [simp] Tryz.underlying36
@[simp] theorem sz36 : sizeT Tryz.prog 36 = 1 := by kernel_rfl
@[simp] theorem ag36 : isAggT Tryz.prog 36 = false := by kernel_rfl
@[simp] theorem in36 : (Tryz.prog.info? 36).isSome = true := by kernel_rfl
@[simp] theorem ze36 : zeroT Tryz.prog 36 = some [.raw .nilFunc] := by kernel_rfl
@[simp] theorem fi36 (m : Nat) : fits Tryz.prog 36 m = decide (m * 8 ≤ 140737488355328) := fits_at ze36 (by kernel_rfl) m
@[simp] theorem an36 (n : Int) : (Tryz.prog.info? 36).any (fun i => decide ((i.bytes : Int) * n ≤ 140737488355328)) = decide (8 * n ≤ 140737488355328) := any_at (by kernel_rfl) n
attribute [simp] Tryz.underlying37
@[simp] theorem sz37 : sizeT Tryz.prog 37 = 10 := by kernel_rfl
@[simp] theorem ag37 : isAggT Tryz.prog 37 = true := by kernel_rfl
@[simp] theorem in37 : (Tryz.prog.info? 37).isSome = true := by kernel_rfl
@[simp] theorem ze37 : zeroT Tryz.prog 37 = some [.int .i64 0, .int .i64 0, .int .i64 0, .int .i64 0, .int .i64 0, .int .i64 0, .int .i64 0, .int .i64 0, .int .i64 0, .int .i64 0] := by kernel_rfl
@[simp] theorem fi37 (m : Nat) : fits Tryz.prog 37 m = decide (m * 80 ≤ 140737488355328) := fits_at ze37 (by kernel_rfl) m
@[simp] theorem an37 (n : Int) : (Tryz.prog.info? 37).any (fun i => decide ((i.bytes : Int) * n ≤ 140737488355328)) = decide (80 * n ≤ 140737488355328) := any_at (by kernel_rfl) n
attribute [simp] Tryz.underlying38
@[simp] theorem sz38 : sizeT Tryz.prog 38 = 10 := by kernel_rfl
@[simp] theorem ag38 : isAggT Tryz.prog 38 = true := by kernel_rfl
@[simp] theorem in38 : (Tryz.prog.info? 38).isSome = true := by kernel_rfl
@[simp] theorem ze38 : zeroT Tryz.prog 38 = some [.int .i64 0, .int .i64 0, .int .i64 0, .int .i64 0, .int .i64 0, .int .i64 0, .int .i64 0, .int .i64 0, .int .i64 0, .int .i64 0] := by kernel_rfl
@[simp] theorem fi38 (m : Nat) : fits Tryz.prog 38 m = decide (m * 80 ≤ 140737488355328) := fits_at ze38 (by kernel_rfl) m
@[simp] theorem an38 (n : Int) : (Tryz.prog.info? 38).any (fun i => decide ((i.bytes : Int) * n ≤ 140737488355328)) = decide (80 * n ≤ 140737488355328) := any_at (by kernel_rfl) n
attribute [simp] Tryz.underlying39
@[simp] theorem sz39 : sizeT Tryz.prog 39 = 1 := by kernel_rfl
@[simp] theorem ag39 : isAggT Tryz.prog 39 = false := by kernel_rfl
@[simp] theorem in39 : (Tryz.prog.info? 39).isSome = true := by kernel_rfl
@[simp] theorem ze39 : zeroT Tryz.prog 39 = some [.raw .nilFunc] := by kernel_rfl
@[simp] theorem fi39 (m : Nat) : fits Tryz.prog 39 m = decide (m * 8 ≤ 140737488355328) := fits_at ze39 (by kernel_rfl) m
@[simp] theorem an39 (n : Int) : (Tryz.prog.info? 39).any (fun i => decide ((i.bytes : Int) * n ≤ 140737488355328)) = decide (8 * n ≤ 140737488355328) := any_at (by kernel_rfl) n
attribute [simp] Tryz.underlying40
@[simp] theorem sz40 : sizeT Tryz.prog 40 = 1 := by kernel_rfl
@[simp] theorem ag40 : isAggT Tryz.prog 40 = false := by kernel_rfl
@[simp] theorem in40 : (Tryz.prog.info? 40).isSome = true := by kernel_rfl
@[simp] theorem ze40 : zeroT Tryz.prog 40 = some [.raw .nilFunc] := by kernel_rfl
@[simp] theorem fi40 (m : Nat) : fits Tryz.prog 40 m = decide (m * 8 ≤ 140737488355328) := fits_at ze40 (by kernel_rfl) m
@[simp] theorem an40 (n : Int) : (Tryz.prog.info? 40).any (fun i => decide ((i.bytes : Int) * n ≤ 140737488355328)) = decide (8 * n ≤ 140737488355328) := any_at (by kernel_rfl) n
attribute [simp] Tryz.underlying41
@[simp] theorem sz41 : sizeT Tryz.prog 41 = 1 := by kernel_rfl
@[simp] theorem ag41 : isAggT Tryz.prog 41 = false := by kernel_rfl
@[simp] theorem in41 : (Tryz.prog.info? 41).isSome = true := by kernel_rfl
@[simp] theorem ze41 : zeroT Tryz.prog 41 = some [.raw .nilFunc] := by kernel_rfl
@[simp] theorem fi41 (m : Nat) : fits Tryz.prog 41 m = decide (m * 8 ≤ 140737488355328) := fits_at ze41 (by kernel_rfl) m
@[simp] theorem an41 (n : Int) : (Tryz.prog.info? 41).any (fun i => decide ((i.bytes : Int) * n ≤ 140737488355328)) = decide (8 * n ≤ 140737488355328) := any_at (by kernel_rfl) n
attribute [simp] Tryz.underlying42
@[simp] theorem sz42 : sizeT Tryz.prog 42 = 3 := by kernel_rfl
@[simp] theorem ag42 : isAggT Tryz.prog 42 = true := by kernel_rfl
@[simp] theorem in42 : (Tryz.prog.info? 42).isSome = true := by kernel_rfl
@[simp] theorem ze42 : zeroT Tryz.prog 42 = some [.int .i64 0, .int .i64 0, .int .i64 0] := by kernel_rfl
@[simp] theorem fi42 (m : Nat) : fits Tryz.prog 42 m = decide (m * 24 ≤ 140737488355328) := fits_at ze42 (by kernel_rfl) m
@[simp] theorem an42 (n : Int) : (Tryz.prog.info? 42).any (fun i => decide ((i.bytes : Int) * n ≤ 140737488355328)) = decide (24 * n ≤ 140737488355328) := any_at (by kernel_rfl) n
attribute [simp] Tryz.underlying43
@[simp] theorem sz43 : sizeT Tryz.prog 43 = 3 := by kernel_rfl
@[simp] theorem ag43 : isAggT Tryz.prog 43 = true := by kernel_rfl
@[simp] theorem in43 : (Tryz.prog.info? 43).isSome = true := by kernel_rfl
@[simp] theorem ze43 : zeroT Tryz.prog 43 = some [.int .i64 0, .int .i64 0, .int .i64 0] := by kernel_rfl
@[simp] theorem fi43 (m : Nat) : fits Tryz.prog 43 m = decide (m * 24 ≤ 140737488355328) := fits_at ze43 (by kernel_rfl) m
@[simp] theorem an43 (n : Int) : (Tryz.prog.info? 43).any (fun i => decide ((i.bytes : Int) * n ≤ 140737488355328)) = decide (24 * n ≤ 140737488355328) := any_at (by kernel_rfl) n
attribute [simp] Tryz.underlying44
@[simp] theorem sz44 : sizeT Tryz.prog 44 = 3 := by kernel_rfl
@[simp] theorem ag44 : isAggT Tryz.prog 44 = true := by kernel_rfl
@[simp] theorem in44 : (Tryz.prog.info? 44).isSome = true := by kernel_rfl
@[simp] theorem ze44 : zeroT Tryz.prog 44 = some [.int .i64 0, .int .i64 0, .int .i64 0] := by kernel_rfl
@[simp] theorem fi44 (m : Nat) : fits Tryz.prog 44 m = decide (m * 24 ≤ 140737488355328) := fits_at ze44 (by kernel_rfl) m
@[simp] theorem an44 (n : Int) : (Tryz.prog.info? 44).any (fun i => decide ((i.bytes : Int) * n ≤ 140737488355328)) = decide (24 * n ≤ 140737488355328) := any_at (by kernel_rfl) n
attribute [simp] Tryz.underlying45
@[simp] theorem sz45 : sizeT Tryz.prog 45 = 1 := by kernel_rfl
@[simp] theorem ag45 : isAggT Tryz.prog 45 = false := by kernel_rfl
@[simp] theorem in45 : (Tryz.prog.info? 45).isSome = true := by kernel_rfl
@[simp] theorem el45 : elemT Tryz.prog 45 = some 82 := by kernel_rfl
@[simp] theorem ze45 : zeroT Tryz.prog 45 = some [.sl (.mu 0) 0 []] := by kernel_rfl
@[simp] theorem fi45 (m : Nat) : fits Tryz.prog 45 m = decide (m * 24 ≤ 140737488355328) := fits_at ze45 (by kernel_rfl) m
@[simp] theorem an45 (n : Int) : (Tryz.prog.info? 45).any (fun i => decide ((i.bytes : Int) * n ≤ 140737488355328)) = decide (24 * n ≤ 140737488355328) := any_at (by kernel_rfl) n
attribute [simp] Tryz.underlying47
@[simp] theorem sz47 : sizeT Tryz.prog 47 = 1 := by kernel_rfl
@[simp] theorem ag47 : isAggT Tryz.prog 47 = false := by kernel_rfl
@[simp] theorem in47 : (Tryz.prog.info? 47).isSome = true := by kernel_rfl
@[simp] theorem ze47 : zeroT Tryz.prog 47 = some [.raw .nilFunc] := by kernel_rfl
@[simp] theorem fi47 (m : Nat) : fits Tryz.prog 47 m = decide (m * 8 ≤ 140737488355328) := fits_at ze47 (by kernel_rfl) m
@[simp] theorem an47 (n : Int) : (Tryz.prog.info? 47).any (fun i => decide ((i.bytes : Int) * n ≤ 140737488355328)) = decide (8 * n ≤ 140737488355328) := any_at (by kernel_rfl) n
attribute [simp] Tryz.underlying48
@[simp] theorem sz48 : sizeT Tryz.prog 48 = 1 := by kernel_rfl
@[simp] theorem ag48 : isAggT Tryz.prog 48 = false := by kernel_rfl
@[simp] theorem in48 : (Tryz.prog.info? 48).isSome = true := by kernel_rfl
@[simp] theorem ze48 : zeroT Tryz.prog 48 = some [.raw .nilFunc] := by kernel_rfl
@[simp] theorem fi48 (m : Nat) : fits Tryz.prog 48 m = decide (m * 8 ≤ 140737488355328) := fits_at ze48 (by kernel_rfl) m
@[simp] theorem an48 (n : Int) : (Tryz.prog.info? 48).any (fun i => decide ((i.bytes : Int) * n ≤ 140737488355328)) = decide (8 * n ≤ 140737488355328) := any_at (by kernel_rfl) n
attribute [simp] Tryz.underlying49
@[simp] theorem sz49 : sizeT Tryz.prog 49 = 1 := by kernel_rfl
@[simp] theorem ag49 : isAggT Tryz.prog 49 = false := by kernel_rfl
@[simp] theorem in49 : (Tryz.prog.info? 49).isSome = true := by kernel_rfl
@[simp] theorem ze49 : zeroT Tryz.prog 49 = some [.raw .nilFunc] := by kernel_rfl
@[simp] theorem fi49 (m : Nat) : fits Tryz.prog 49 m = decide (m * 8 ≤ 140737488355328) := fits_at ze49 (by kernel_rfl) m
@[simp] theorem an49 (n : Int) : (Tryz.prog.info? 49).any (fun i => decide ((i.bytes : Int) * n ≤ 140737488355328)) = decide (8 * n ≤ 140737488355328) := any_at (by kernel_rfl) n
attribute [simp] Tryz.underlying50
@[simp] theorem sz50 : sizeT Tryz.prog 50 = 1 := by kernel_rfl
@[simp] theorem ag50 : isAggT Tryz.prog 50 = false := by kernel_rfl
@[simp] theorem in50 : (Tryz.prog.info? 50).isSome = true := by kernel_rfl
@[simp] theorem ze50 : zeroT Tryz.prog 50 = some [.raw .nilFunc] := by kernel_rfl
@[simp] theorem fi50 (m : Nat) : fits Tryz.prog 50 m = decide (m * 8 ≤ 140737488355328) := fits_at ze50 (by kernel_rfl) m
@[simp] theorem an50 (n : Int) : (Tryz.prog.info? 50).any (fun i => decide ((i.bytes : Int) * n ≤ 140737488355328)) = decide (8 * n ≤ 140737488355328) := any_at (by kernel_rfl) n
attribute [simp] Tryz.underlying51
@[simp] theorem sz51 : sizeT Tryz.prog 51 = 2 := by kernel_rfl
@[simp] theorem ag51 : isAggT Tryz.prog 51 = true := by kernel_rfl
@[simp] theorem in51 : (Tryz.prog.info? 51).isSome = true := by kernel_rfl
@[simp] theorem ze51 : zeroT Tryz.prog 51 = some [.int .i64 0, .int .i64 0] := by kernel_rfl
@[simp] theorem fi51 (m : Nat) : fits Tryz.prog 51 m = decide (m * 16 ≤ 140737488355328) := fits_at ze51 (by kernel_rfl) m
@[simp] theorem an51 (n : Int) : (Tryz.prog.info? 51).any (fun i => decide ((i.bytes : Int) * n ≤ 140737488355328)) = decide (16 * n ≤ 140737488355328) := any_at (by kernel_rfl) n
attribute [simp] Tryz.underlying52
@[simp] theorem sz52 : sizeT Tryz.prog 52 = 2 := by kernel_rfl
@[simp] theorem ag52 : isAggT Tryz.prog 52 = true := by kernel_rfl
@[simp] theorem in52 : (Tryz.prog.info? 52).isSome = true := by kernel_rfl
@[simp] theorem ze52 : zeroT Tryz.prog 52 = some [.int .i64 0, .int .i64 0] := by kernel_rfl
@[simp] theorem fi52 (m : Nat) : fits Tryz.prog 52 m = decide (m * 16 ≤ 140737488355328) := fits_at ze52 (by kernel_rfl) m
@[simp] theorem an52 (n : Int) : (Tryz.prog.info? 52).any (fun i => decide ((i.bytes : Int) * n ≤ 140737488355328)) = decide (16 * n ≤ 140737488355328) := any_at (by kernel_rfl) n
attribute [simp] Tryz.underlying53
@[simp] theorem sz53 : sizeT Tryz.prog 53 = 1 := by kernel_rfl
@[simp] theorem ag53 : isAggT Tryz.prog 53 = false := by kernel_rfl
@[simp] theorem in53 : (Tryz.prog.info? 53).isSome = true := by kernel_rfl
@[simp] theorem ze53 : zeroT Tryz.prog 53 = some [.raw .nilFunc] := by kernel_rfl
@[simp] theorem fi53 (m : Nat) : fits Tryz.prog 53 m = decide (m * 8 ≤ 140737488355328) := fits_at ze53 (by kernel_rfl) m
@[simp] theorem an53 (n : Int) : (Tryz.prog.info? 53).any (fun i => decide ((i.bytes : Int) * n ≤ 140737488355328)) = decide (8 * n ≤ 140737488355328) := any_at (by kernel_rfl) n
attribute [simp] Tryz.underlying54
@[simp] theorem sz54 : sizeT Tryz.prog 54 = 1 := by kernel_rfl
@[simp] theorem ag54 : isAggT Tryz.prog 54 = false := by kernel_rfl
@[simp] theorem in54 : (Tryz.prog.info? 54).isSome = true := by kernel_rfl
@[simp] theorem el54 : elemT Tryz.prog 54 = some 57 := by kernel_rfl
@[simp] theorem ze54 : zeroT Tryz.prog 54 = some [.sl (.mu 0) 0 []] := by kernel_rfl
@[simp] theorem fi54 (m : Nat) : fits Tryz.prog 54 m = decide (m * 24 ≤ 140737488355328) := fits_at ze54 (by kernel_rfl) m
@[simp] theorem an54 (n : Int) : (Tryz.prog.info? 54).any (fun i => decide ((i.bytes : Int) * n ≤ 140737488355328)) = decide (24 * n ≤ 140737488355328) := any_at (by kernel_rfl) n
attribute [simp] Tryz.underlying55
@[simp] theorem sz55 : sizeT Tryz.prog 55 = 1 := by kernel_rfl
@[simp] theorem ag55 : isAggT Tryz.prog 55 = false := by kernel_rfl
@[simp] theorem in55 : (Tryz.prog.info? 55).isSome = true := by kernel_rfl
@[simp] theorem ze55 : zeroT Tryz.prog 55 = some [.raw .nilFunc] := by kernel_rfl
@[simp] theorem fi55 (m : Nat) : fits Tryz.prog 55 m = decide (m * 8 ≤ 140737488355328) := fits_at ze55 (by kernel_rfl) m
@[simp] theorem an55 (n : Int) : (Tryz.prog.info? 55).any (fun i => decide ((i.bytes : Int) * n ≤ 140737488355328)) = decide (8 * n ≤ 140737488355328) := any_at (by kernel_rfl) n
attribute [simp] Tryz.underlying56
@[simp] theorem sz56 : sizeT Tryz.prog 56 = 2 := by kernel_rfl
@[simp] theorem ag56 : isAggT Tryz.prog 56 = true := by kernel_rfl
@[simp] theorem in56 : (Tryz.prog.info? 56).isSome = true := by kernel_rfl
@[simp] theorem ze56 : zeroT Tryz.prog 56 = some [.int .i64 0, .int .i64 0] := by kernel_rfl
@[simp] theorem fi56 (m : Nat) : fits Tryz.prog 56 m = decide (m * 16 ≤ 140737488355328) := fits_at ze56 (by kernel_rfl) m
@[simp] theorem an56 (n : Int) : (Tryz.prog.info? 56).any (fun i => decide ((i.bytes : Int) * n ≤ 140737488355328)) = decide (16 * n ≤ 140737488355328) := any_at (by kernel_rfl) n
attribute [simp] Tryz.underlying57
@[simp] theorem sz57 : sizeT Tryz.prog 57 = 2 := by kernel_rfl
@[simp] theorem ag57 : isAggT Tryz.prog 57 = true := by kernel_rfl
@[simp] theorem in57 : (Tryz.prog.info? 57).isSome = true := by kernel_rfl
@[simp] theorem ze57 : zeroT Tryz.prog 57 = some [.int .i64 0, .int .i64 0] := by kernel_rfl
@[simp] theorem fi57 (m : Nat) : fits Tryz.prog 57 m = decide (m * 16 ≤ 140737488355328) := fits_at ze57 (by kernel_rfl) m
@[simp] theorem an57 (n : Int) : (Tryz.prog.info? 57).any (fun i => decide ((i.bytes : Int) * n ≤ 140737488355328)) = decide (16 * n ≤ 140737488355328) := any_at (by kernel_rfl) n
attribute [simp] Tryz.underlying58
@[simp] theorem sz58 : sizeT Tryz.prog 58 = 1 := by kernel_rfl
@[simp] theorem ag58 : isAggT Tryz.prog 58 = false := by kernel_rfl
@[simp] theorem in58 : (Tryz.prog.info? 58).isSome = true := by kernel_rfl
@[simp] theorem ze58 : zeroT Tryz.prog 58 = some [.raw .nilFunc] := by kernel_rfl
@[simp] theorem fi58 (m : Nat) : fits Tryz.prog 58 m = decide (m * 8 ≤ 140737488355328) := fits_at ze58 (by kernel_rfl) m
@[simp] theorem an58 (n : Int) : (Tryz.prog.info? 58).any (fun i => decide ((i.bytes : Int) * n ≤ 140737488355328)) = decide (8 * n ≤ 140737488355328) := any_at (by kernel_rfl) n
attribute [simp] Tryz.underlying59
@[simp] theorem sz59 : sizeT Tryz.prog 59 = 1 := by kernel_rfl
@[simp] theorem ag59 : isAggT Tryz.prog 59 = false := by kernel_rfl
@[simp] theorem in59 : (Tryz.prog.info? 59).isSome = true := by kernel_rfl
@[simp] theorem ze59 : zeroT Tryz.prog 59 = some [.raw .nilFunc] := by kernel_rfl
@[simp] theorem fi59 (m : Nat) : fits Tryz.prog 59 m = decide (m * 8 ≤ 140737488355328) := fits_at ze59 (by kernel_rfl) m
@[simp] theorem an59 (n : Int) : (Tryz.prog.info? 59).any (fun i => decide ((i.bytes : Int) * n ≤ 140737488355328)) = decide (8 * n ≤ 140737488355328) := any_at (by kernel_rfl) n
attribute [simp] Tryz.underlying60
@[simp] theorem sz60 : sizeT Tryz.prog 60 = 1 := by kernel_rfl
@[simp] theorem ag60 : isAggT Tryz.prog 60 = false := by kernel_rfl
@[simp] theorem in60 : (Tryz.prog.info? 60).isSome = true := by kernel_rfl
@[simp] theorem ze60 : zeroT Tryz.prog 60 = some [.raw .nilFunc] := by kernel_rfl
@[simp] theorem fi60 (m : Nat) : fits Tryz.prog 60 m = decide (m * 8 ≤ 140737488355328) := fits_at ze60 (by kernel_rfl) m
@[simp] theorem an60 (n : Int) : (Tryz.prog.info? 60).any (fun i => decide ((i.bytes : Int) * n ≤ 140737488355328)) = decide (8 * n ≤ 140737488355328) := any_at (by kernel_rfl) n
attribute [simp] Tryz.underlying61
@[simp] theorem sz61 : sizeT Tryz.prog 61 = 1 := by kernel_rfl
@[simp] theorem ag61 : isAggT Tryz.prog 61 = false := by kernel_rfl
@[simp] theorem in61 : (Tryz.prog.info? 61).isSome = true := by kernel_rfl
@[simp] theorem ze61 : zeroT Tryz.prog 61 = some [.raw .nilFunc] := by kernel_rfl
@[simp] theorem fi61 (m : Nat) : fits Tryz.prog 61 m = decide (m * 8 ≤ 140737488355328) := fits_at ze61 (by kernel_rfl) m
@[simp] theorem an61 (n : Int) : (Tryz.prog.info? 61).any (fun i => decide ((i.bytes : Int) * n ≤ 140737488355328)) = decide (8 * n ≤ 140737488355328) := any_at (by kernel_rfl) n
attribute [simp] Tryz.underlying62
@[simp] theorem sz62 : sizeT Tryz.prog 62 = 1 := by kernel_rfl
@[simp] theorem ag62 : isAggT Tryz.prog 62 = false := by kernel_rfl
@[simp] theorem in62 : (Tryz.prog.info? 62).isSome = true := by kernel_rfl
@[simp] theorem ze62 : zeroT Tryz.prog 62 = some [.nilp] := by kernel_rfl
@[simp] theorem fi62 (m : Nat) : fits Tryz.prog 62 m = decide (m * 8 ≤ 140737488355328) := fits_at ze62 (by kernel_rfl) m
@[simp] theorem an62 (n : Int) : (Tryz.prog.info? 62).any (fun i => decide ((i.bytes : Int) * n ≤ 140737488355328)) = decide (8 * n ≤ 140737488355328) := any_at (by kernel_rfl) n
attribute [simp] Tryz.underlying64
@[simp] theorem sz64 : sizeT Tryz.prog 64 = 1 := by kernel_rfl
@[simp] theorem ag64 : isAggT Tryz.prog 64 = false := by kernel_rfl
@[simp] theorem in64 : (Tryz.prog.info? 64).isSome = true := by kernel_rfl
@[simp] theorem ze64 : zeroT Tryz.prog 64 = some [.raw .nilFunc] := by kernel_rfl
@[simp] theorem fi64 (m : Nat) : fits Tryz.prog 64 m = decide (m * 8 ≤ 140737488355328) := fits_at ze64 (by kernel_rfl) m
@[simp] theorem an64 (n : Int) : (Tryz.prog.info? 64).any (fun i => decide ((i.bytes : Int) * n ≤ 140737488355328)) = decide (8 * n ≤ 140737488355328) := any_at (by kernel_rfl) n
attribute [simp] Tryz.underlying66
@[simp] theorem sz66 : sizeT Tryz.prog 66 = 1 := by kernel_rfl
@[simp] theorem ag66 : isAggT Tryz.prog 66 = false := by kernel_rfl
@[simp] theorem in66 : (Tryz.prog.info? 66).isSome = true := by kernel_rfl
@[simp] theorem ze66 : zeroT Tryz.prog 66 = some [.raw .nilFunc] := by kernel_rfl
@[simp] theorem fi66 (m : Nat) : fits Tryz.prog 66 m = decide (m * 8 ≤ 140737488355328) := fits_at ze66 (by kernel_rfl) m
@[simp] theorem an66 (n : Int) : (Tryz.prog.info? 66).any (fun i => decide ((i.bytes : Int) * n ≤ 140737488355328)) = decide (8 * n ≤ 140737488355328) := any_at (by kernel_rfl) n
attribute [simp] Tryz.underlying67
@[simp] theorem sz67 : sizeT Tryz.prog 67 = 1 := by kernel_rfl
@[simp] theorem ag67 : isAggT Tryz.prog 67 = false := by kernel_rfl
@[simp] theorem in67 : (Tryz.prog.info? 67).isSome = true := by kernel_rfl
@[simp] theorem ze67 : zeroT Tryz.prog 67 = some [.raw .nilFunc] := by kernel_rfl
@[simp] theorem fi67 (m : Nat) : fits Tryz.prog 67 m = decide (m * 8 ≤ 140737488355328) := fits_at ze67 (by kernel_rfl) m
@[simp] theorem an67 (n : Int) : (Tryz.prog.info? 67).any (fun i => decide ((i.bytes : Int) * n ≤ 140737488355328)) = decide (8 * n ≤ 140737488355328) := any_at (by kernel_rfl) n
attribute [simp] Tryz.underlying68
@[simp] theorem sz68 : sizeT Tryz.prog 68 = 1 := by kernel_rfl
@[simp] theorem ag68 : isAggT Tryz.prog 68 = false := by kernel_rfl
@[simp] theorem in68 : (Tryz.prog.info? 68).isSome = true := by kernel_rfl
@[simp] theorem ze68 : zeroT Tryz.prog 68 = some [.raw .nilFunc] := by kernel_rfl
@[simp] theorem fi68 (m : Nat) : fits Tryz.prog 68 m = decide (m * 8 ≤ 140737488355328) := fits_at ze68 (by kernel_rfl) m
@[simp] theorem an68 (n : Int) : (Tryz.prog.info? 68).any (fun i => decide ((i.bytes : Int) * n ≤ 140737488355328)) = decide (8 * n ≤ 140737488355328) := any_at (by kernel_rfl) n
attribute [simp] Tryz.underlying69
@[simp] theorem sz69 : sizeT Tryz.prog 69 = 1 := by kernel_rfl
@[simp] theorem ag69 : isAggT Tryz.prog 69 = false := by kernel_rfl
@[simp] theorem in69 : (Tryz.prog.info? 69).isSome = true := by kernel_rfl
@[simp] theorem ze69 : zeroT Tryz.prog 69 = some [.nilp] := by kernel_rfl
@[simp] theorem fi69 (m : Nat) : fits Tryz.prog 69 m = decide (m * 8 ≤ 140737488355328) := fits_at ze69 (by kernel_rfl) m
@[simp] theorem an69 (n : Int) : (Tryz.prog.info? 69).any (fun i => decide ((i.bytes : Int) * n ≤ 140737488355328)) = decide (8 * n ≤ 140737488355328) := any_at (by kernel_rfl) n
attribute [simp] Tryz.underlying70
@[simp] theorem sz70 : sizeT Tryz.prog 70 = 1 := by kernel_rfl
@[simp] theorem ag70 : isAggT Tryz.prog 70 = true := by kernel_rfl
@[simp] theorem in70 : (Tryz.prog.info? 70).isSome = true := by kernel_rfl
@[simp] theorem ze70 : zeroT Tryz.prog 70 = some [.int .i64 0] := by kernel_rfl
@[simp] theorem fi70 (m : Nat) : fits Tryz.prog 70 m = decide (m * 8 ≤ 140737488355328) := fits_at ze70 (by kernel_rfl) m
@[simp] theorem an70 (n : Int) : (Tryz.prog.info? 70).any (fun i => decide ((i.bytes : Int) * n ≤ 140737488355328)) = decide (8 * n ≤ 140737488355328) := any_at (by kernel_rfl) n
attribute [simp] Tryz.underlying71
@[simp] theorem sz71 : sizeT Tryz.prog 71 = 1 := by kernel_rfl
@[simp] theorem ag71 : isAggT Tryz.prog 71 = true := by kernel_rfl
@[simp] theorem in71 : (Tryz.prog.info? 71).isSome = true := by kernel_rfl
@[simp] theorem ze71 : zeroT Tryz.prog 71 = some [.int .i64 0] := by kernel_rfl
@[simp] theorem fi71 (m : Nat) : fits Tryz.prog 71 m = decide (m * 8 ≤ 140737488355328) := fits_at ze71 (by kernel_rfl) m
@[simp] theorem an71 (n : Int) : (Tryz.prog.info? 71).any (fun i => decide ((i.bytes : Int) * n ≤ 140737488355328)) = decide (8 * n ≤ 140737488355328) := any_at (by kernel_rfl) n
attribute [simp] Tryz.underlying72
@[simp] theorem sz72 : sizeT Tryz.prog 72 = 1 := by kernel_rfl
@[simp] theorem ag72 : isAggT Tryz.prog 72 = false := by kernel_rfl
@[simp] theorem in72 : (Tryz.prog.info? 72).isSome = true := by kernel_rfl
@[simp] theorem el72 : elemT Tryz.prog 72 = some 5 := by kernel_rfl
@[simp] theorem ze72 : zeroT Tryz.prog 72 = some [.sl (.mu 0) 0 []] := by kernel_rfl
@[simp] theorem fi72 (m : Nat) : fits Tryz.prog 72 m = decide (m * 24 ≤ 140737488355328) := fits_at ze72 (by kernel_rfl) m
@[simp] theorem an72 (n : Int) : (Tryz.prog.info? 72).any (fun i => decide ((i.bytes : Int) * n ≤ 140737488355328)) = decide (24 * n ≤ 140737488355328) := any_at (by kernel_rfl) n
attribute [simp] Tryz.underlying73
@[simp] theorem sz73 : sizeT Tryz.prog 73 = 2 := by kernel_rfl
@[simp] theorem ag73 : isAggT Tryz.prog 73 = true := by kernel_rfl
@[simp] theorem in73 : (Tryz.prog.info? 73).isSome = true := by kernel_rfl
@[simp] theorem ze73 : zeroT Tryz.prog 73 = some [.int .i64 0, .sl (.mu 0) 0 []] := by kernel_rfl
@[simp] theorem fi73 (m : Nat) : fits Tryz.prog 73 m = decide (m * 32 ≤ 140737488355328) := fits_at ze73 (by kernel_rfl) m
@[simp] theorem an73 (n : Int) : (Tryz.prog.info? 73).any (fun i => decide ((i.bytes : Int) * n ≤ 140737488355328)) = decide (32 * n ≤ 140737488355328) := any_at (by kernel_rfl) n
attribute [simp] Tryz.underlying74
@[simp] theorem sz74 : sizeT Tryz.prog 74 = 2 := by kernel_rfl
@[simp] theorem ag74 : isAggT Tryz.prog 74 = true := by kernel_rfl
@[simp] theorem in74 : (Tryz.prog.info? 74).isSome = true := by kernel_rfl
@[simp] theorem ze74 : zeroT Tryz.prog 74 = some [.int .i64 0, .sl (.mu 0) 0 []] := by kernel_rfl
@[simp] theorem fi74 (m : Nat) : fits Tryz.prog 74 m = decide (m * 32 ≤ 140737488355328) := fits_at ze74 (by kernel_rfl) m
@[simp] theorem an74 (n : Int) : (Tryz.prog.info? 74).any (fun i => decide ((i.bytes : Int) * n ≤ 140737488355328)) = decide (32 * n ≤ 140737488355328) := any_at (by kernel_rfl) n
attribute [simp] Tryz.underlying75
@[simp] theorem sz75 : sizeT Tryz.prog 75 = 1 := by kernel_rfl
@[simp] theorem ag75 : isAggT Tryz.prog 75 = false := by kernel_rfl
@[simp] theorem in75 : (Tryz.prog.info? 75).isSome = true := by kernel_rfl
@[simp] theorem ze75 : zeroT Tryz.prog 75 = some [.raw .nilFunc] := by kernel_rfl
@[simp] theorem fi75 (m : Nat) : fits Tryz.prog 75 m = decide (m * 8 ≤ 140737488355328) := fits_at ze75 (by kernel_rfl) m
@[simp] theorem an75 (n : Int) : (Tryz.prog.info? 75).any (fun i => decide ((i.bytes : Int) * n ≤ 140737488355328)) = decide (8 * n ≤ 140737488355328) := any_at (by kernel_rfl) n
attribute [simp] Tryz.underlying76
@[simp] theorem sz76 : sizeT Tryz.prog 76 = 1 := by kernel_rfl
@[simp] theorem ag76 : isAggT Tryz.prog 76 = false := by kernel_rfl
@[simp] theorem in76 : (Tryz.prog.info? 76).isSome = true := by kernel_rfl
@[simp] theorem ze76 : zeroT Tryz.prog 76 = some [.raw .nilFunc] := by kernel_rfl
@[simp] theorem fi76 (m : Nat) : fits Tryz.prog 76 m = decide (m * 8 ≤ 140737488355328) := fits_at ze76 (by kernel_rfl) m
@[simp] theorem an76 (n : Int) : (Tryz.prog.info? 76).any (fun i => decide ((i.bytes : Int) * n ≤ 140737488355328)) = decide (8 * n ≤ 140737488355328) := any_at (by kernel_rfl) n
attribute [simp] Tryz.underlying77
@[simp] theorem sz77 : sizeT Tryz.prog 77 = 1 := by kernel_rfl
@[simp] theorem ag77 : isAggT Tryz.prog 77 = false := by kernel_rfl
@[simp] theorem in77 : (Tryz.prog.info? 77).isSome = true := by kernel_rfl
@[simp] theorem ze77 : zeroT Tryz.prog 77 = some [.raw .nilFunc] := by kernel_rfl
@[simp] theorem fi77 (m : Nat) : fits Tryz.prog 77 m = decide (m * 8 ≤ 140737488355328) := fits_at ze77 (by kernel_rfl) m
@[simp] theorem an77 (n : Int) : (Tryz.prog.info? 77).any (fun i => decide ((i.bytes : Int) * n ≤ 140737488355328)) = decide (8 * n ≤ 140737488355328) := any_at (by kernel_rfl) n
attribute [simp] Tryz.underlying78
@[simp] theorem sz78 : sizeT Tryz.prog 78 = 1 := by kernel_rfl
@[simp] theorem ag78 : isAggT Tryz.prog 78 = false := by kernel_rfl
@[simp] theorem in78 : (Tryz.prog.info? 78).isSome = true := by kernel_rfl
@[simp] theorem ze78 : zeroT Tryz.prog 78 = some [.raw .nilFunc] := by kernel_rfl
@[simp] theorem fi78 (m : Nat) : fits Tryz.prog 78 m = decide (m * 8 ≤ 140737488355328) := fits_at ze78 (by kernel_rfl) m
@[simp] theorem an78 (n : Int) : (Tryz.prog.info? 78).any (fun i => decide ((i.bytes : Int) * n ≤ 140737488355328)) = decide (8 * n ≤ 140737488355328) := any_at (by kernel_rfl) n
attribute [simp] Tryz.underlying79
@[simp] theorem sz79 : sizeT Tryz.prog 79 = 1 := by kernel_rfl
@[simp] theorem ag79 : isAggT Tryz.prog 79 = false := by kernel_rfl
@[simp] theorem in79 : (Tryz.prog.info? 79).isSome = true := by kernel_rfl
@[simp] theorem ze79 : zeroT Tryz.prog 79 = some [.raw .nilFunc] := by kernel_rfl
@[simp] theorem fi79 (m : Nat) : fits Tryz.prog 79 m = decide (m * 8 ≤ 140737488355328) := fits_at ze79 (by kernel_rfl) m
@[simp] theorem an79 (n : Int) : (Tryz.prog.info? 79).any (fun i => decide ((i.bytes : Int) * n ≤ 140737488355328)) = decide (8 * n ≤ 140737488355328) := any_at (by kernel_rfl) n
attribute [simp] Tryz.underlying80
@[simp] theorem sz80 : sizeT Tryz.prog 80 = 1 := by kernel_rfl
@[simp] theorem ag80 : isAggT Tryz.prog 80 = false := by kernel_rfl
@[simp] theorem in80 : (Tryz.prog.info? 80).isSome = true := by kernel_rfl
@[simp] theorem ze80 : zeroT Tryz.prog 80 = some [.raw .nilFunc] := by kernel_rfl
@[simp] theorem fi80 (m : Nat) : fits Tryz.prog 80 m = decide (m * 8 ≤ 140737488355328) := fits_at ze80 (by kernel_rfl) m
@[simp] theorem an80 (n : Int) : (Tryz.prog.info? 80).any (fun i => decide ((i.bytes : Int) * n ≤ 140737488355328)) = decide (8 * n ≤ 140737488355328) := any_at (by kernel_rfl) n
attribute [simp] Tryz.underlying81
@[simp] theorem sz81 : sizeT Tryz.prog 81 = 2 := by kernel_rfl
@[simp] theorem ag81 : isAggT Tryz.prog 81 = true := by kernel_rfl
@[simp] theorem in81 : (Tryz.prog.info? 81).isSome = true := by kernel_rfl
@[simp] theorem ze81 : zeroT Tryz.prog 81 = some [.int .i64 0, .int .i64 0] := by kernel_rfl
@[simp] theorem fi81 (m : Nat) : fits Tryz.prog 81 m = decide (m * 16 ≤ 140737488355328) := fits_at ze81 (by kernel_rfl) m
@[simp] theorem an81 (n : Int) : (Tryz.prog.info? 81).any (fun i => decide ((i.bytes : Int) * n ≤ 140737488355328)) = decide (16 * n ≤ 140737488355328) := any_at (by kernel_rfl) n
attribute [simp] Tryz.underlying82
@[simp] theorem sz82 : sizeT Tryz.prog 82 = 2 := by kernel_rfl
@[simp] theorem ag82 : isAggT Tryz.prog 82 = true := by kernel_rfl
@[simp] theorem in82 : (Tryz.prog.info? 82).isSome = true := by kernel_rfl
@[simp] theorem ze82 : zeroT Tryz.prog 82 = some [.int .i64 0, .int .i64 0] := by kernel_rfl
@[simp] theorem fi82 (m : Nat) : fits Tryz.prog 82 m = decide (m * 16 ≤ 140737488355328) := fits_at ze82 (by kernel_rfl) m
@[simp] theorem an82 (n : Int) : (Tryz.prog.info? 82).any (fun i => decide ((i.bytes : Int) * n ≤ 140737488355328)) = decide (16 * n ≤ 140737488355328) := any_at (by kernel_rfl) n
attribute [simp] Tryz.underlying83
@[simp] theorem sz83 : sizeT Tryz.prog 83 = 1 := by kernel_rfl
@[simp] theorem ag83 : isAggT Tryz.prog 83 = false := by kernel_rfl
@[simp] theorem in83 : (Tryz.prog.info? 83).isSome = true := by kernel_rfl
@[simp] theorem ze83 : zeroT Tryz.prog 83 = some [.raw .nilFunc] := by kernel_rfl
@[simp] theorem fi83 (m : Nat) : fits Tryz.prog 83 m = decide (m * 8 ≤ 140737488355328) := fits_at ze83 (by kernel_rfl) m
@[simp] theorem an83 (n : Int) : (Tryz.prog.info? 83).any (fun i => decide ((i.bytes : Int) * n ≤ 140737488355328)) = decide (8 * n ≤ 140737488355328) := any_at (by kernel_rfl) n
attribute [simp] Tryz.underlying84
@[simp] theorem sz84 : sizeT Tryz.prog 84 = 1 := by kernel_rfl
@[simp] theorem ag84 : isAggT Tryz.prog 84 = false := by kernel_rfl
@[simp] theorem in84 : (Tryz.prog.info? 84).isSome = true := by kernel_rfl
@[simp] theorem ze84 : zeroT Tryz.prog 84 = some [.raw .nilFunc] := by kernel_rfl
@[simp] theorem fi84 (m : Nat) : fits Tryz.prog 84 m = decide (m * 8 ≤ 140737488355328) := fits_at ze84 (by kernel_rfl) m
@[simp] theorem an84 (n : Int) : (Tryz.prog.info? 84).any (fun i => decide ((i.bytes : Int) * n ≤ 140737488355328)) = decide (8 * n ≤ 140737488355328) := any_at (by kernel_rfl) n
attribute [simp] Tryz.underlying85
@[simp] theorem sz85 : sizeT Tryz.prog 85 = 1 := by kernel_rfl
@[simp] theorem ag85 : isAggT Tryz.prog 85 = false := by kernel_rfl
@[simp] theorem in85 : (Tryz.prog.info? 85).isSome = true := by kernel_rfl
@[simp] theorem ze85 : zeroT Tryz.prog 85 = some [.raw .nilFunc] := by kernel_rfl
@[simp] theorem fi85 (m : Nat) : fits Tryz.prog 85 m = decide (m * 8 ≤ 140737488355328) := fits_at ze85 (by kernel_rfl) m
@[simp] theorem an85 (n : Int) : (Tryz.prog.info? 85).any (fun i => decide ((i.bytes : Int) * n ≤ 140737488355328)) = decide (8 * n ≤ 140737488355328) := any_at (by kernel_rfl) n
attribute [simp] Tryz.underlying86
@[simp] theorem sz86 : sizeT Tryz.prog 86 = 18 := by kernel_rfl
@[simp] theorem ag86 : isAggT Tryz.prog 86 = true := by kernel_rfl
@[simp] theorem in86 : (Tryz.prog.info? 86).isSome = true := by kernel_rfl
@[simp] theorem ze86 : zeroT Tryz.prog 86 = some [.int .i64 0, .int .i64 0, .int .i64 0, .int .i64 0, .int .i64 0, .int .i64 0, .int .i64 0, .int .i64 0, .int .i64 0, .int .i64 0, .int .i64 0, .int .i64 0, .int .i64 0, .int .i64 0, .int .i64 0, .int .i64 0, .int .i64 0, .int .i64 0] := by kernel_rfl
@[simp] theorem fi86 (m : Nat) : fits Tryz.prog 86 m = decide (m * 144 ≤ 140737488355328) := fits_at ze86 (by kernel_rfl) m
@[simp] theorem an86 (n : Int) : (Tryz.prog.info? 86).any (fun i => decide ((i.bytes : Int) * n ≤ 140737488355328)) = decide (144 * n ≤ 140737488355328) := any_at (by kernel_rfl) n
attribute [simp] Tryz.underlying87
@[simp] theorem sz87 : sizeT Tryz.prog 87 = 1 := by kernel_rfl
@[simp] theorem ag87 : isAggT Tryz.prog 87 = false := by kernel_rfl
@[simp] theorem in87 : (Tryz.prog.info? 87).isSome = true := by kernel_rfl
@[simp] theorem ze87 : zeroT Tryz.prog 87 = some [.nilp] := by kernel_rfl
@[simp] theorem fi87 (m : Nat) : fits Tryz.prog 87 m = decide (m * 8 ≤ 140737488355328) := fits_at ze87 (by kernel_rfl) m
@[simp] theorem an87 (n : Int) : (Tryz.prog.info? 87).any (fun i => decide ((i.bytes : Int) * n ≤ 140737488355328)) = decide (8 * n ≤ 140737488355328) := any_at (by kernel_rfl) n
attribute [simp] Tryz.underlying88
@[simp] theorem sz88 : sizeT Tryz.prog 88 = 1 := by kernel_rfl
@[simp] theorem ag88 : isAggT Tryz.prog 88 = false := by kernel_rfl
@[simp] theorem in88 : (Tryz.prog.info? 88).isSome = true := by kernel_rfl
@[simp] theorem ze88 : zeroT Tryz.prog 88 = some [.nilp] := by kernel_rfl
@[simp] theorem fi88 (m : Nat) : fits Tryz.prog 88 m = decide (m * 8 ≤ 140737488355328) := fits_at ze88 (by kernel_rfl) m
@[simp] theorem an88 (n : Int) : (Tryz.prog.info? 88).any (fun i => decide ((i.bytes : Int) * n ≤ 140737488355328)) = decide (8 * n ≤ 140737488355328) := any_at (by kernel_rfl) n
attribute [simp] Tryz.underlying89
@[simp] theorem sz89 : sizeT Tryz.prog 89 = 24 := by kernel_rfl
@[simp] theorem ag89 : isAggT Tryz.prog 89 = true := by kernel_rfl
@[simp] theorem in89 : (Tryz.prog.info? 89).isSome = true := by kernel_rfl
@[simp] theorem ze89 : zeroT Tryz.prog 89 = some [.int .i64 0, .sl (.mu 0) 0 [], .sl (.mu 0) 0 [], .sl (.mu 0) 0 [], .int .i64 0, .int .i64 0, .int .i64 0, .int .i64 0, .int .i64 0, .int .i64 0, .int .i64 0, .int .i64 0, .int .i64 0, .int .i64 0, .int .i64 0, .int .i64 0, .int .i64 0, .int .i64 0, .int .i64 0, .int .i64 0, .int .i64 0, .int .i64 0, .nilp, .nilp] := by kernel_rfl
@[simp] theorem fi89 (m : Nat) : fits Tryz.prog 89 m = decide (m * 240 ≤ 140737488355328) := fits_at ze89 (by kernel_rfl) m
@[simp] theorem an89 (n : Int) : (Tryz.prog.info? 89).any (fun i => decide ((i.bytes : Int) * n ≤ 140737488355328)) = decide (240 * n ≤ 140737488355328) := any_at (by kernel_rfl) n
attribute [simp] Tryz.underlying90
@[simp] theorem sz90 : sizeT Tryz.prog 90 = 24 := by kernel_rfl
@[simp] theorem ag90 : isAggT Tryz.prog 90 = true := by kernel_rfl
@[simp] theorem in90 : (Tryz.prog.info? 90).isSome = true := by kernel_rfl
@[simp] theorem ze90 : zeroT Tryz.prog 90 = some [.int .i64 0, .sl (.mu 0) 0 [], .sl (.mu 0) 0 [], .sl (.mu 0) 0 [], .int .i64 0, .int .i64 0, .int .i64 0, .int .i64 0, .int .i64 0, .int .i64 0, .int .i64 0, .int .i64 0, .int .i64 0, .int .i64 0, .int .i64 0, .int .i64 0, .int .i64 0, .int .i64 0, .int .i64 0, .int .i64 0, .int .i64 0, .int .i64 0, .nilp, .nilp] := by kernel_rfl
@[simp] theorem fi90 (m : Nat) : fits Tryz.prog 90 m = decide (m * 240 ≤ 140737488355328) := fits_at ze90 (by kernel_rfl) m
@[simp] theorem an90 (n : Int) : (Tryz.prog.info? 90).any (fun i => decide ((i.bytes : Int) * n ≤ 140737488355328)) = decide (240 * n ≤ 140737488355328) := any_at (by kernel_rfl) n
attribute [simp] Tryz.underlying92
@[simp] theorem sz92 : sizeT Tryz.prog 92 = 1 := by kernel_rfl
@[simp] theorem ag92 : isAggT Tryz.prog 92 = false := by kernel_rfl
@[simp] theorem in92 : (Tryz.prog.info? 92).isSome = true := by kernel_rfl
@[simp] theorem ze92 : zeroT Tryz.prog 92 = some [.raw .nilFunc] := by kernel_rfl
@[simp] theorem fi92 (m : Nat) : fits Tryz.prog 92 m = decide (m * 8 ≤ 140737488355328) := fits_at ze92 (by kernel_rfl) m
@[simp] theorem an92 (n : Int) : (Tryz.prog.info? 92).any (fun i => decide ((i.bytes : Int) * n ≤ 140737488355328)) = decide (8 * n ≤ 140737488355328) := any_at (by kernel_rfl) n
attribute [simp] Tryz.underlying94
@[simp] theorem sz94 : sizeT Tryz.prog 94 = 1 := by kernel_rfl
@[simp] theorem ag94 : isAggT Tryz.prog 94 = false := by kernel_rfl
@[simp] theorem in94 : (Tryz.prog.info? 94).isSome = true := by kernel_rfl
@[simp] theorem ze94 : zeroT Tryz.prog 94 = some [.raw .nilFunc] := by kernel_rfl
@[simp] theorem fi94 (m : Nat) : fits Tryz.prog 94 m = decide (m * 8 ≤ 140737488355328) := fits_at ze94 (by kernel_rfl) m
@[simp] theorem an94 (n : Int) : (Tryz.prog.info? 94).any (fun i => decide ((i.bytes : Int) * n ≤ 140737488355328)) = decide (8 * n ≤ 140737488355328) := any_at (by kernel_rfl) n
attribute [simp] Tryz.underlying95
@[simp] theorem sz95 : sizeT Tryz.prog 95 = 1 := by kernel_rfl
@[simp] theorem ag95 : isAggT Tryz.prog 95 = false := by kernel_rfl
@[simp] theorem in95 : (Tryz.prog.info? 95).isSome = true := by kernel_rfl
@[simp] theorem el95 : elemT Tryz.prog 95 = some 126 := by kernel_rfl
@[simp] theorem ze95 : zeroT Tryz.prog 95 = some [.sl (.mu 0) 0 []] := by kernel_rfl
@[simp] theorem fi95 (m : Nat) : fits Tryz.prog 95 m = decide (m * 24 ≤ 140737488355328) := fits_at ze95 (by kernel_rfl) m
@[simp] theorem an95 (n : Int) : (Tryz.prog.info? 95).any (fun i => decide ((i.bytes : Int) * n ≤ 140737488355328)) = decide (24 * n ≤ 140737488355328) := any_at (by kernel_rfl) n
attribute [simp] Tryz.underlying96
@[simp] theorem sz96 : sizeT Tryz.prog 96 = 1 := by kernel_rfl
@[simp] theorem ag96 : isAggT Tryz.prog 96 = false := by kernel_rfl
@[simp] theorem in96 : (Tryz.prog.info? 96).isSome = true := by kernel_rfl
@[simp] theorem ze96 : zeroT Tryz.prog 96 = some [.raw .nilFunc] := by kernel_rfl
@[simp] theorem fi96 (m : Nat) : fits Tryz.prog 96 m = decide (m * 8 ≤ 140737488355328) := fits_at ze96 (by kernel_rfl) m
@[simp] theorem an96 (n : Int) : (Tryz.prog.info? 96).any (fun i => decide ((i.bytes : Int) * n ≤ 140737488355328)) = decide (8 * n ≤ 140737488355328) := any_at (by kernel_rfl) n
attribute [simp] Tryz.underlying97
@[simp] theorem sz97 : sizeT Tryz.prog 97 = 1 := by kernel_rfl
@[simp] theorem ag97 : isAggT Tryz.prog 97 = false := by kernel_rfl
@[simp] theorem in97 : (Tryz.prog.info? 97).isSome = true := by kernel_rfl
@[simp] theorem ze97 : zeroT Tryz.prog 97 = some [.raw .nilFunc] := by kernel_rfl
@[simp] theorem fi97 (m : Nat) : fits Tryz.prog 97 m = decide (m * 8 ≤ 140737488355328) := fits_at ze97 (by kernel_rfl) m
@[simp] theorem an97 (n : Int) : (Tryz.prog.info? 97).any (fun i => decide ((i.bytes : Int) * n ≤ 140737488355328)) = decide (8 * n ≤ 140737488355328) := any_at (by kernel_rfl) n
attribute [simp] Tryz.underlying98
@[simp] theorem sz98 : sizeT Tryz.prog 98 = 1 := by kernel_rfl
@[simp] theorem ag98 : isAggT Tryz.prog 98 = false := by kernel_rfl
@[simp] theorem in98 : (Tryz.prog.info? 98).isSome = true := by kernel_rfl
@[simp] theorem ze98 : zeroT Tryz.prog 98 = some [.raw .nilFunc] := by kernel_rfl
@[simp] theorem fi98 (m : Nat) : fits Tryz.prog 98 m = decide (m * 8 ≤ 140737488355328) := fits_at ze98 (by kernel_rfl) m
@[simp] theorem an98 (n : Int) : (Tryz.prog.info? 98).any (fun i => decide ((i.bytes : Int) * n ≤ 140737488355328)) = decide (8 * n ≤ 140737488355328) := any_at (by kernel_rfl) n
attribute [simp] Tryz.underlying99
@[simp] theorem sz99 : sizeT Tryz.prog 99 = 1 := by kernel_rfl
@[simp] theorem ag99 : isAggT Tryz.prog 99 = false := by kernel_rfl
@[simp] theorem in99 : (Tryz.prog.info? 99).isSome = true := by kernel_rfl
@[simp] theorem ze99 : zeroT Tryz.prog 99 = some [.nilp] := by kernel_rfl
@[simp] theorem fi99 (m : Nat) : fits Tryz.prog 99 m = decide (m * 8 ≤ 140737488355328) := fits_at ze99 (by kernel_rfl) m
@[simp] theorem an99 (n : Int) : (Tryz.prog.info? 99).any (fun i => decide ((i.bytes : Int) * n ≤ 140737488355328)) = decide (8 * n ≤ 140737488355328) := any_at (by kernel_rfl) n
attribute [simp] Tryz.underlying100
@[simp] theorem sz100 : sizeT Tryz.prog 100 = 1 := by kernel_rfl
@[simp] theorem ag100 : isAggT Tryz.prog 100 = false := by kernel_rfl
@[simp] theorem in100 : (Tryz.prog.info? 100).isSome = true := by kernel_rfl
@[simp] theorem ze100 : zeroT Tryz.prog 100 = some [.raw .nilFunc] := by kernel_rfl
@[simp] theorem fi100 (m : Nat) : fits Tryz.prog 100 m = decide (m * 8 ≤ 140737488355328) := fits_at ze100 (by kernel_rfl) m
@[simp] theorem an100 (n : Int) : (Tryz.prog.info? 100).any (fun i => decide ((i.bytes : Int) * n ≤ 140737488355328)) = decide (8 * n ≤ 140737488355328) := any_at (by kernel_rfl) n
attribute [simp] Tryz.underlying101
@[simp] theorem sz101 : sizeT Tryz.prog 101 = 1 := by kernel_rfl
@[simp] theorem ag101 : isAggT Tryz.prog 101 = false := by kernel_rfl
@[simp] theorem in101 : (Tryz.prog.info? 101).isSome = true := by kernel_rfl
@[simp] theorem ze101 : zeroT Tryz.prog 101 = some [.raw .nilFunc] := by kernel_rfl
@[simp] theorem fi101 (m : Nat) : fits Tryz.prog 101 m = decide (m * 8 ≤ 140737488355328) := fits_at ze101 (by kernel_rfl) m
@[simp] theorem an101 (n : Int) : (Tryz.prog.info? 101).any (fun i => decide ((i.bytes : Int) * n ≤ 140737488355328)) = decide (8 * n ≤ 140737488355328) := any_at (by kernel_rfl) n
attribute [simp] Tryz.underlying102
@[simp] theorem sz102 : sizeT Tryz.prog 102 = 1 := by kernel_rfl
@[simp] theorem ag102 : isAggT Tryz.prog 102 = false := by kernel_rfl
@[simp] theorem in102 : (Tryz.prog.info? 102).isSome = true := by kernel_rfl
@[simp] theorem ze102 : zeroT Tryz.prog 102 = some [.raw .nilFunc] := by kernel_rfl
@[simp] theorem fi102 (m : Nat) : fits Tryz.prog 102 m = decide (m * 8 ≤ 140737488355328) := fits_at ze102 (by kernel_rfl) m
@[simp] theorem an102 (n : Int) : (Tryz.prog.info? 102).any (fun i => decide ((i.bytes : Int) * n ≤ 140737488355328)) = decide (8 * n ≤ 140737488355328) := any_at (by kernel_rfl) n
attribute [simp] Tryz.underlying103
@[simp] theorem sz103 : sizeT Tryz.prog 103 = 1 := by kernel_rfl
@[simp] theorem ag103 : isAggT Tryz.prog 103 = false := by kernel_rfl
@[simp] theorem in103 : (Tryz.prog.info? 103).isSome = true := by kernel_rfl
@[simp] theorem ze103 : zeroT Tryz.prog 103 = some [.raw .nilFunc] := by kernel_rfl
@[simp] theorem fi103 (m : Nat) : fits Tryz.prog 103 m = decide (m * 8 ≤ 140737488355328) := fits_at ze103 (by kernel_rfl) m
@[simp] theorem an103 (n : Int) : (Tryz.prog.info? 103).any (fun i => decide ((i.bytes : Int) * n ≤ 140737488355328)) = decide (8 * n ≤ 140737488355328) := any_at (by kernel_rfl) n
attribute [simp] Tryz.underlying104
@[simp] theorem sz104 : sizeT Tryz.prog 104 = 1 := by kernel_rfl
@[simp] theorem ag104 : isAggT Tryz.prog 104 = false := by kernel_rfl
@[simp] theorem in104 : (Tryz.prog.info? 104).isSome = true := by kernel_rfl
@[simp] theorem ze104 : zeroT Tryz.prog 104 = some [.raw .nilFunc] := by kernel_rfl
@[simp] theorem fi104 (m : Nat) : fits Tryz.prog 104 m = decide (m * 8 ≤ 140737488355328) := fits_at ze104 (by kernel_rfl) m
@[simp] theorem an104 (n : Int) : (Tryz.prog.info? 104).any (fun i => decide ((i.bytes : Int) * n ≤ 140737488355328)) = decide (8 * n ≤ 140737488355328) := any_at (by kernel_rfl) n
attribute [simp] Tryz.underlying105
@[simp] theorem sz105 : sizeT Tryz.prog 105 = 1 := by kernel_rfl
@[simp] theorem ag105 : isAggT Tryz.prog 105 = false := by kernel_rfl
@[simp] theorem in105 : (Tryz.prog.info? 105).isSome = true := by kernel_rfl
@[simp] theorem ze105 : zeroT Tryz.prog 105 = some [.raw .nilFunc] := by kernel_rfl
@[simp] theorem fi105 (m : Nat) : fits Tryz.prog 105 m = decide (m * 8 ≤ 140737488355328) := fits_at ze105 (by kernel_rfl) m
@[simp] theorem an105 (n : Int) : (Tryz.prog.info? 105).any (fun i => decide ((i.bytes : Int) * n ≤ 140737488355328)) = decide (8 * n ≤ 140737488355328) := any_at (by kernel_rfl) n
attribute [simp] Tryz.underlying106
@[simp] theorem sz106 : sizeT Tryz.prog 106 = 1 := by kernel_rfl
@[simp] theorem ag106 : isAggT Tryz.prog 106 = false := by kernel_rfl
@[simp] theorem in106 : (Tryz.prog.info? 106).isSome = true := by kernel_rfl
@[simp] theorem ze106 : zeroT Tryz.prog 106 = some [.raw .nilFunc] := by kernel_rfl
@[simp] theorem fi106 (m : Nat) : fits Tryz.prog 106 m = decide (m * 8 ≤ 140737488355328) := fits_at ze106 (by kernel_rfl) m
@[simp] theorem an106 (n : Int) : (Tryz.prog.info? 106).any (fun i => decide ((i.bytes : Int) * n ≤ 140737488355328)) = decide (8 * n ≤ 140737488355328) := any_at (by kernel_rfl) n
attribute [simp] Tryz.underlying107
@[simp] theorem sz107 : sizeT Tryz.prog 107 = 1 := by kernel_rfl
@[simp] theorem ag107 : isAggT Tryz.prog 107 = false := by kernel_rfl
@[simp] theorem in107 : (Tryz.prog.info? 107).isSome = true := by kernel_rfl
@[simp] theorem ze107 : zeroT Tryz.prog 107 = some [.int .u64 0] := by kernel_rfl
@[simp] theorem fi107 (m : Nat) : fits Tryz.prog 107 m = decide (m * 8 ≤ 140737488355328) := fits_at ze107 (by kernel_rfl) m
@[simp] theorem an107 (n : Int) : (Tryz.prog.info? 107).any (fun i => decide ((i.bytes : Int) * n ≤ 140737488355328)) = decide (8 * n ≤ 140737488355328) := any_at (by kernel_rfl) n
attribute [simp] Tryz.underlying108
@[simp] theorem sz108 : sizeT Tryz.prog 108 = 1 := by kernel_rfl
@[simp] theorem ag108 : isAggT Tryz.prog 108 = false := by kernel_rfl
@[simp] theorem in108 : (Tryz.prog.info? 108).isSome = true := by kernel_rfl
@[simp] theorem ze108 : zeroT Tryz.prog 108 = some [.raw .nilFunc] := by kernel_rfl
@[simp] theorem fi108 (m : Nat) : fits Tryz.prog 108 m = decide (m * 8 ≤ 140737488355328) := fits_at ze108 (by kernel_rfl) m
@[simp] theorem an108 (n : Int) : (Tryz.prog.info? 108).any (fun i => decide ((i.bytes : Int) * n ≤ 140737488355328)) = decide (8 * n ≤ 140737488355328) := any_at (by kernel_rfl) n
attribute [simp] Tryz.underlying109
@[simp] theorem sz109 : sizeT Tryz.prog 109 = 1 := by kernel_rfl
@[simp] theorem ag109 : isAggT Tryz.prog 109 = false := by kernel_rfl
@[simp] theorem in109 : (Tryz.prog.info? 109).isSome = true := by kernel_rfl
@[simp] theorem ze109 : zeroT Tryz.prog 109 = some [.raw .nilFunc] := by kernel_rfl
@[simp] theorem fi109 (m : Nat) : fits Tryz.prog 109 m = decide (m * 8 ≤ 140737488355328) := fits_at ze109 (by kernel_rfl) m
@[simp] theorem an109 (n : Int) : (Tryz.prog.info? 109).any (fun i => decide ((i.bytes : Int) * n ≤ 140737488355328)) = decide (8 * n ≤ 140737488355328) := any_at (by kernel_rfl) n
attribute [simp] Tryz.underlying110
@[simp] theorem sz110 : sizeT Tryz.prog 110 = 1 := by kernel_rfl
@[simp] theorem ag110 : isAggT Tryz.prog 110 = false := by kernel_rfl
@[simp] theorem in110 : (Tryz.prog.info? 110).isSome = true := by kernel_rfl
@[simp] theorem ze110 : zeroT Tryz.prog 110 = some [.raw .nilFunc] := by kernel_rfl
@[simp] theorem fi110 (m : Nat) : fits Tryz.prog 110 m = decide (m * 8 ≤ 140737488355328) := fits_at ze110 (by kernel_rfl) m
@[simp] theorem an110 (n : Int) : (Tryz.prog.info? 110).any (fun i => decide ((i.bytes : Int) * n ≤ 140737488355328)) = decide (8 * n ≤ 140737488355328) := any_at (by kernel_rfl) n
attribute [simp] Tryz.underlying111
@[simp] theorem sz111 : sizeT Tryz.prog 111 = 1 := by kernel_rfl
@[simp] theorem ag111 : isAggT Tryz.prog 111 = false := by kernel_rfl
@[simp] theorem in111 : (Tryz.prog.info? 111).isSome = true := by kernel_rfl
@[simp] theorem ze111 : zeroT Tryz.prog 111 = some [.raw .nilFunc] := by kernel_rfl
@[simp] theorem fi111 (m : Nat) : fits Tryz.prog 111 m = decide (m * 8 ≤ 140737488355328) := fits_at ze111 (by kernel_rfl) m
@[simp] theorem an111 (n : Int) : (Tryz.prog.info? 111).any (fun i => decide ((i.bytes : Int) * n ≤ 140737488355328)) = decide (8 * n ≤ 140737488355328) := any_at (by kernel_rfl) n
attribute [simp] Tryz.underlying112
@[simp] theorem sz112 : sizeT Tryz.prog 112 = 1 := by kernel_rfl
@[simp] theorem ag112 : isAggT Tryz.prog 112 = false := by kernel_rfl
@[simp] theorem in112 : (Tryz.prog.info? 112).isSome = true := by kernel_rfl
@[simp] theorem ze112 : zeroT Tryz.prog 112 = some [.raw .nilFunc] := by kernel_rfl
@[simp] theorem fi112 (m : Nat) : fits Tryz.prog 112 m = decide (m * 8 ≤ 140737488355328) := fits_at ze112 (by kernel_rfl) m
@[simp] theorem an112 (n : Int) : (Tryz.prog.info? 112).any (fun i => decide ((i.bytes : Int) * n ≤ 140737488355328)) = decide (8 * n ≤ 140737488355328) := any_at (by kernel_rfl) n
attribute [simp] Tryz.underlying113
@[simp] theorem sz113 : sizeT Tryz.prog 113 = 2 := by kernel_rfl
@[simp] theorem ag113 : isAggT Tryz.prog 113 = true := by kernel_rfl
@[simp] theorem in113 : (Tryz.prog.info? 113).isSome = true := by kernel_rfl
@[simp] theorem ze113 : zeroT Tryz.prog 113 = some [.int .i64 0, .sl (.mu 0) 0 []] := by kernel_rfl
@[simp] theorem fi113 (m : Nat) : fits Tryz.prog 113 m = decide (m * 32 ≤ 140737488355328) := fits_at ze113 (by kernel_rfl) m
@[simp] theorem an113 (n : Int) : (Tryz.prog.info? 113).any (fun i => decide ((i.bytes : Int) * n ≤ 140737488355328)) = decide (32 * n ≤ 140737488355328) := any_at (by kernel_rfl) n
attribute [simp] Tryz.underlying114
@[simp] theorem sz114 : sizeT Tryz.prog 114 = 2 := by kernel_rfl
@[simp] theorem ag114 : isAggT Tryz.prog 114 = true := by kernel_rfl
@[simp] theorem in114 : (Tryz.prog.info? 114).isSome = true := by kernel_rfl
@[simp] theorem ze114 : zeroT Tryz.prog 114 = some [.int .i64 0, .sl (.mu 0) 0 []] := by kernel_rfl
@[simp] theorem fi114 (m : Nat) : fits Tryz.prog 114 m = decide (m * 32 ≤ 140737488355328) := fits_at ze114 (by kernel_rfl) m
@[simp] theorem an114 (n : Int) : (Tryz.prog.info? 114).any (fun i => decide ((i.bytes : Int) * n ≤ 140737488355328)) = decide (32 * n ≤ 140737488355328) := any_at (by kernel_rfl) n
attribute [simp] Tryz.underlying115
@[simp] theorem sz115 : sizeT Tryz.prog 115 = 1 := by kernel_rfl
@[simp] theorem ag115 : isAggT Tryz.prog 115 = false := by kernel_rfl
@[simp] theorem in115 : (Tryz.prog.info? 115).isSome = true := by kernel_rfl
@[simp] theorem ze115 : zeroT Tryz.prog 115 = some [.raw .nilFunc] := by kernel_rfl
@[simp] theorem fi115 (m : Nat) : fits Tryz.prog 115 m = decide (m * 8 ≤ 140737488355328) := fits_at ze115 (by kernel_rfl) m
@[simp] theorem an115 (n : Int) : (Tryz.prog.info? 115).any (fun i => decide ((i.bytes : Int) * n ≤ 140737488355328)) = decide (8 * n ≤ 140737488355328) := any_at (by kernel_rfl) n
attribute [simp] Tryz.underlying116
@[simp] theorem sz116 : sizeT Tryz.prog 116 = 1 := by kernel_rfl
@[simp] theorem ag116 : isAggT Tryz.prog 116 = false := by kernel_rfl
@[simp] theorem in116 : (Tryz.prog.info? 116).isSome = true := by kernel_rfl
@[simp] theorem ze116 : zeroT Tryz.prog 116 = some [.raw .nilFunc] := by kernel_rfl
@[simp] theorem fi116 (m : Nat) : fits Tryz.prog 116 m = decide (m * 8 ≤ 140737488355328) := fits_at ze116 (by kernel_rfl) m
@[simp] theorem an116 (n : Int) : (Tryz.prog.info? 116).any (fun i => decide ((i.bytes : Int) * n ≤ 140737488355328)) = decide (8 * n ≤ 140737488355328) := any_at (by kernel_rfl) n
attribute [simp] Tryz.underlying117
@[simp] theorem sz117 : sizeT Tryz.prog 117 = 1 := by kernel_rfl
@[simp] theorem ag117 : isAggT Tryz.prog 117 = false := by kernel_rfl
@[simp] theorem in117 : (Tryz.prog.info? 117).isSome = true := by kernel_rfl
@[simp] theorem ze117 : zeroT Tryz.prog 117 = some [.raw .nilFunc] := by kernel_rfl
@[simp] theorem fi117 (m : Nat) : fits Tryz.prog 117 m = decide (m * 8 ≤ 140737488355328) := fits_at ze117 (by kernel_rfl) m
@[simp] theorem an117 (n : Int) : (Tryz.prog.info? 117).any (fun i => decide ((i.bytes : Int) * n ≤ 140737488355328)) = decide (8 * n ≤ 140737488355328) := any_at (by kernel_rfl) n
attribute [simp] Tryz.underlying119
@[simp] theorem sz119 : sizeT Tryz.prog 119 = 1 := by kernel_rfl
@[simp] theorem ag119 : isAggT Tryz.prog 119 = false := by kernel_rfl
@[simp] theorem in119 : (Tryz.prog.info? 119).isSome = true := by kernel_rfl
@[simp] theorem ze119 : zeroT Tryz.prog 119 = some [.raw .nilFunc] := by kernel_rfl
@[simp] theorem fi119 (m : Nat) : fits Tryz.prog 119 m = decide (m * 8 ≤ 140737488355328) := fits_at ze119 (by kernel_rfl) m
@[simp] theorem an119 (n : Int) : (Tryz.prog.info? 119).any (fun i => decide ((i.bytes : Int) * n ≤ 140737488355328)) = decide (8 * n ≤ 140737488355328) := any_at (by kernel_rfl) n
attribute [simp] Tryz.underlying120
@[simp] theorem sz120 : sizeT Tryz.prog 120 = 1 := by kernel_rfl
@[simp] theorem ag120 : isAggT Tryz.prog 120 = false := by kernel_rfl
@[simp] theorem in120 : (Tryz.prog.info? 120).isSome = true := by kernel_rfl
@[simp] theorem ze120 : zeroT Tryz.prog 120 = some [.raw .nilFunc] := by kernel_rfl
@[simp] theorem fi120 (m : Nat) : fits Tryz.prog 120 m = decide (m * 8 ≤ 140737488355328) := fits_at ze120 (by kernel_rfl) m
@[simp] theorem an120 (n : Int) : (Tryz.prog.info? 120).any (fun i => decide ((i.bytes : Int) * n ≤ 140737488355328)) = decide (8 * n ≤ 140737488355328) := any_at (by kernel_rfl) n
attribute [simp] Tryz.underlying121
@[simp] theorem sz121 : sizeT Tryz.prog 121 = 1 := by kernel_rfl
@[simp] theorem ag121 : isAggT Tryz.prog 121 = false := by kernel_rfl
@[simp] theorem in121 : (Tryz.prog.info? 121).isSome = true := by kernel_rfl
@[simp] theorem ze121 : zeroT Tryz.prog 121 = some [.raw (.map none)] := by kernel_rfl
@[simp] theorem zv126 : zeroV Tryz.prog 126 = some (.agg [.int .i64 0, .int .i64 0, .int .i64 0]) := by kernel_rfl
attribute [simp] Tryz.underlying122
@[simp] theorem sz122 : sizeT Tryz.prog 122 = 1 := by kernel_rfl
@[simp] theorem ag122 : isAggT Tryz.prog 122 = true := by kernel_rfl
@[simp] theorem in122 : (Tryz.prog.info? 122).isSome = true := by kernel_rfl
@[simp] theorem ze122 : zeroT Tryz.prog 122 = some [.raw (.map none)] := by kernel_rfl
@[simp] theorem fi122 (m : Nat) : fits Tryz.prog 122 m = decide (m * 8 ≤ 140737488355328) := fits_at ze122 (by kernel_rfl) m
@[simp] theorem an122 (n : Int) : (Tryz.prog.info? 122).any (fun i => decide ((i.bytes : Int) * n ≤ 140737488355328)) = decide (8 * n ≤ 140737488355328) := any_at (by kernel_rfl) n
attribute [simp] Tryz.underlying123
@[simp] theorem sz123 : sizeT Tryz.prog 123 = 1 := by kernel_rfl
@[simp] theorem ag123 : isAggT Tryz.prog 123 = true := by kernel_rfl
@[simp] theorem in123 : (Tryz.prog.info? 123).isSome = true := by kernel_rfl
@[simp] theorem ze123 : zeroT Tryz.prog 123 = some [.raw (.map none)] := by kernel_rfl
@[simp] theorem fi123 (m : Nat) : fits Tryz.prog 123 m = decide (m * 8 ≤ 140737488355328) := fits_at ze123 (by kernel_rfl) m
@[simp] theorem an123 (n : Int) : (Tryz.prog.info? 123).any (fun i => decide ((i.bytes : Int) * n ≤ 140737488355328)) = decide (8 * n ≤ 140737488355328) := any_at (by kernel_rfl) n
attribute [simp] Tryz.underlying124
@[simp] theorem sz124 : sizeT Tryz.prog 124 = 1 := by kernel_rfl
@[simp] theorem ag124 : isAggT Tryz.prog 124 = false := by kernel_rfl
@[simp] theorem in124 : (Tryz.prog.info? 124).isSome = true := by kernel_rfl
@[simp] theorem el124 : elemT Tryz.prog 124 = some 52 := by kernel_rfl
@[simp] theorem ze124 : zeroT Tryz.prog 124 = some [.sl (.mu 0) 0 []] := by kernel_rfl
@[simp] theorem fi124 (m : Nat) : fits Tryz.prog 124 m = decide (m * 24 ≤ 140737488355328) := fits_at ze124 (by kernel_rfl) m
@[simp] theorem an124 (n : Int) : (Tryz.prog.info? 124).any (fun i => decide ((i.bytes : Int) * n ≤ 140737488355328)) = decide (24 * n ≤ 140737488355328) := any_at (by kernel_rfl) n
attribute [simp] Tryz.underlying125
@[simp] theorem sz125 : sizeT Tryz.prog 125 = 3 := by kernel_rfl
@[simp] theorem ag125 : isAggT Tryz.prog 125 = true := by kernel_rfl
@[simp] theorem in125 : (Tryz.prog.info? 125).isSome = true := by kernel_rfl
@[simp] theorem ze125 : zeroT Tryz.prog 125 = some [.int .i64 0, .int .i64 0, .int .i64 0] := by kernel_rfl
@[simp] theorem fi125 (m : Nat) : fits Tryz.prog 125 m = decide (m * 24 ≤ 140737488355328) := fits_at ze125 (by kernel_rfl) m
@[simp] theorem an125 (n : Int) : (Tryz.prog.info? 125).any (fun i => decide ((i.bytes : Int) * n ≤ 140737488355328)) = decide (24 * n ≤ 140737488355328) := any_at (by kernel_rfl) n
attribute [simp] Tryz.underlying126
@[simp] theorem sz126 : sizeT Tryz.prog 126 = 3 := by kernel_rfl
@[simp] theorem ag126 : isAggT Tryz.prog 126 = true := by kernel_rfl
@[simp] theorem in126 : (Tryz.prog.info? 126).isSome = true := by kernel_rfl
@[simp] theorem ze126 : zeroT Tryz.prog 126 = some [.int .i64 0, .int .i64 0, .int .i64 0] := by kernel_rfl
@[simp] theorem fi126 (m : Nat) : fits Tryz.prog 126 m = decide (m * 24 ≤ 140737488355328) := fits_at ze126 (by kernel_rfl) m
@[simp] theorem an126 (n : Int) : (Tryz.prog.info? 126).any (fun i => decide ((i.bytes : Int) * n ≤ 140737488355328)) = decide (24 * n ≤ 140737488355328) := any_at (by kernel_rfl) n
attribute [simp] Tryz.underlying127
@[simp] theorem sz127 : sizeT Tryz.prog 127 = 1 := by kernel_rfl
@[simp] theorem ag127 : isAggT Tryz.prog 127 = false := by kernel_rfl
@[simp] theorem in127 : (Tryz.prog.info? 127).isSome = true := by kernel_rfl
@[simp] theorem ze127 : zeroT Tryz.prog 127 = some [.raw .nilFunc] := by kernel_rfl
@[simp] theorem fi127 (m : Nat) : fits Tryz.prog 127 m = decide (m * 8 ≤ 140737488355328) := fits_at ze127 (by kernel_rfl) m
@[simp] theorem an127 (n : Int) : (Tryz.prog.info? 127).any (fun i => decide ((i.bytes : Int) * n ≤ 140737488355328)) = decide (8 * n ≤ 140737488355328) := any_at (by kernel_rfl) n
attribute [simp] Tryz.underlying129
@[simp] theorem sz129 : sizeT Tryz.prog 129 = 1 := by kernel_rfl
@[simp] theorem ag129 : isAggT Tryz.prog 129 = false := by kernel_rfl
@[simp] theorem in129 : (Tryz.prog.info? 129).isSome = true := by kernel_rfl
@[simp] theorem ze129 : zeroT Tryz.prog 129 = some [.raw .nilFunc] := by kernel_rfl
@[simp] theorem fi129 (m : Nat) : fits Tryz.prog 129 m = decide (m * 8 ≤ 140737488355328) := fits_at ze129 (by kernel_rfl) m
@[simp] theorem an129 (n : Int) : (Tryz.prog.info? 129).any (fun i => decide ((i.bytes : Int) * n ≤ 140737488355328)) = decide (8 * n ≤ 140737488355328) := any_at (by kernel_rfl) n
attribute [simp] Tryz.underlying130
@[simp] theorem sz130 : sizeT Tryz.prog 130 = 1 := by kernel_rfl
@[simp] theorem ag130 : isAggT Tryz.prog 130 = false := by kernel_rfl
@[simp] theorem in130 : (Tryz.prog.info? 130).isSome = true := by kernel_rfl
@[simp] theorem ze130 : zeroT Tryz.prog 130 = some [.raw .nilFunc] := by kernel_rfl
@[simp] theorem fi130 (m : Nat) : fits Tryz.prog 130 m = decide (m * 8 ≤ 140737488355328) := fits_at ze130 (by kernel_rfl) m
@[simp] theorem an130 (n : Int) : (Tryz.prog.info? 130).any (fun i => decide ((i.bytes : Int) * n ≤ 140737488355328)) = decide (8 * n ≤ 140737488355328) := any_at (by kernel_rfl) n
attribute [simp] Tryz.underlying131
@[simp] theorem sz131 : sizeT Tryz.prog 131 = 3 := by kernel_rfl
@[simp] theorem ag131 : isAggT Tryz.prog 131 = true := by kernel_rfl
@[simp] theorem in131 : (Tryz.prog.info? 131).isSome = true := by kernel_rfl
@[simp] theorem ze131 : zeroT Tryz.prog 131 = some [.int .i64 0, .str [], .int .i64 0] := by kernel_rfl
@[simp] theorem fi131 (m : Nat) : fits Tryz.prog 131 m = decide (m * 32 ≤ 140737488355328) := fits_at ze131 (by kernel_rfl) m
@[simp] theorem an131 (n : Int) : (Tryz.prog.info? 131).any (fun i => decide ((i.bytes : Int) * n ≤ 140737488355328)) = decide (32 * n ≤ 140737488355328) := any_at (by kernel_rfl) n
attribute [simp] Tryz.underlying132
@[simp] theorem sz132 : sizeT Tryz.prog 132 = 3 := by kernel_rfl
@[simp] theorem ag132 : isAggT Tryz.prog 132 = true := by kernel_rfl
@[simp] theorem in132 : (Tryz.prog.info? 132).isSome = true := by kernel_rfl
@[simp] theorem ze132 : zeroT Tryz.prog 132 = some [.int .i64 0, .str [], .int .i64 0] := by kernel_rfl
@[simp] theorem fi132 (m : Nat) : fits Tryz.prog 132 m = decide (m * 32 ≤ 140737488355328) := fits_at ze132 (by kernel_rfl) m
@[simp] theorem an132 (n : Int) : (Tryz.prog.info? 132).any (fun i => decide ((i.bytes : Int) * n ≤ 140737488355328)) = decide (32 * n ≤ 140737488355328) := any_at (by kernel_rfl) n
attribute [simp] Tryz.underlying133
@[simp] theorem sz133 : sizeT Tryz.prog 133 = 1 := by kernel_rfl
@[simp] theorem ag133 : isAggT Tryz.prog 133 = false := by kernel_rfl
@[simp] theorem in133 : (Tryz.prog.info? 133).isSome = true := by kernel_rfl
@[simp] theorem ze133 : zeroT Tryz.prog 133 = some [.raw .nilFunc] := by kernel_rfl
@[simp] theorem fi133 (m : Nat) : fits Tryz.prog 133 m = decide (m * 8 ≤ 140737488355328) := fits_at ze133 (by kernel_rfl) m
@[simp] theorem an133 (n : Int) : (Tryz.prog.info? 133).any (fun i => decide ((i.bytes : Int) * n ≤ 140737488355328)) = decide (8 * n ≤ 140737488355328) := any_at (by kernel_rfl) n
attribute [simp] Tryz.underlying134
@[simp] theorem sz134 : sizeT Tryz.prog 134 = 1 := by kernel_rfl
@[simp] theorem ag134 : isAggT Tryz.prog 134 = false := by kernel_rfl
@[simp] theorem in134 : (Tryz.prog.info? 134).isSome = true := by kernel_rfl
@[simp] theorem ze134 : zeroT Tryz.prog 134 = some [.raw .nilFunc] := by kernel_rfl
@[simp] theorem fi134 (m : Nat) : fits Tryz.prog 134 m = decide (m * 8 ≤ 140737488355328) := fits_at ze134 (by kernel_rfl) m
@[simp] theorem an134 (n : Int) : (Tryz.prog.info? 134).any (fun i => decide ((i.bytes : Int) * n ≤ 140737488355328)) = decide (8 * n ≤ 140737488355328) := any_at (by kernel_rfl) n
attribute [simp] Tryz.underlying135
@[simp] theorem sz135 : sizeT Tryz.prog 135 = 1 := by kernel_rfl
@[simp] theorem ag135 : isAggT Tryz.prog 135 = false := by kernel_rfl
@[simp] theorem in135 : (Tryz.prog.info? 135).isSome = true := by kernel_rfl
@[simp] theorem ze135 : zeroT Tryz.prog 135 = some [.raw .nilFunc] := by kernel_rfl
@[simp] theorem fi135 (m : Nat) : fits Tryz.prog 135 m = decide (m * 8 ≤ 140737488355328) := fits_at ze135 (by kernel_rfl) m
@[simp] theorem an135 (n : Int) : (Tryz.prog.info? 135).any (fun i => decide ((i.bytes : Int) * n ≤ 140737488355328)) = decide (8 * n ≤ 140737488355328) := any_at (by kernel_rfl) n
attribute [simp] Tryz.underlying136
@[simp] theorem sz136 : sizeT Tryz.prog 136 = 1 := by kernel_rfl
@[simp] theorem ag136 : isAggT Tryz.prog 136 = false := by kernel_rfl
@[simp] theorem in136 : (Tryz.prog.info? 136).isSome = true := by kernel_rfl
@[simp] theorem ze136 : zeroT Tryz.prog 136 = some [.raw .nilFunc] := by kernel_rfl
@[simp] theorem fi136 (m : Nat) : fits Tryz.prog 136 m = decide (m * 8 ≤ 140737488355328) := fits_at ze136 (by kernel_rfl) m
@[simp] theorem an136 (n : Int) : (Tryz.prog.info? 136).any (fun i => decide ((i.bytes : Int) * n ≤ 140737488355328)) = decide (8 * n ≤ 140737488355328) := any_at (by kernel_rfl) n
attribute [simp] Tryz.underlying137
@[simp] theorem sz137 : sizeT Tryz.prog 137 = 1 := by kernel_rfl
@[simp] theorem ag137 : isAggT Tryz.prog 137 = false := by kernel_rfl
@[simp] theorem in137 : (Tryz.prog.info? 137).isSome = true := by kernel_rfl
@[simp] theorem ze137 : zeroT Tryz.prog 137 = some [.raw .nilFunc] := by kernel_rfl
@[simp] theorem fi137 (m : Nat) : fits Tryz.prog 137 m = decide (m * 8 ≤ 140737488355328) := fits_at ze137 (by kernel_rfl) m
@[simp] theorem an137 (n : Int) : (Tryz.prog.info? 137).any (fun i => decide ((i.bytes : Int) * n ≤ 140737488355328)) = decide (8 * n ≤ 140737488355328) := any_at (by kernel_rfl) n
attribute [simp] Tryz.underlying138
@[simp] theorem sz138 : sizeT Tryz.prog 138 = 1 := by kernel_rfl
@[simp] theorem ag138 : isAggT Tryz.prog 138 = false := by kernel_rfl
@[simp] theorem in138 : (Tryz.prog.info? 138).isSome = true := by kernel_rfl
@[simp] theorem ze138 : zeroT Tryz.prog 138 = some [.raw .nilFunc] := by kernel_rfl
@[simp] theorem fi138 (m : Nat) : fits Tryz.prog 138 m = decide (m * 8 ≤ 140737488355328) := fits_at ze138 (by kernel_rfl) m
@[simp] theorem an138 (n : Int) : (Tryz.prog.info? 138).any (fun i => decide ((i.bytes : Int) * n ≤ 140737488355328)) = decide (8 * n ≤ 140737488355328) := any_at (by kernel_rfl) n
attribute [simp] Tryz.underlying139
@[simp] theorem sz139 : sizeT Tryz.prog 139 = 1 := by kernel_rfl
@[simp] theorem ag139 : isAggT Tryz.prog 139 = false := by kernel_rfl
@[simp] theorem in139 : (Tryz.prog.info? 139).isSome = true := by kernel_rfl
@[simp] theorem ze139 : zeroT Tryz.prog 139 = some [.raw .nilFunc] := by kernel_rfl
@[simp] theorem fi139 (m : Nat) : fits Tryz.prog 139 m = decide (m * 8 ≤ 140737488355328) := fits_at ze139 (by kernel_rfl) m
@[simp] theorem an139 (n : Int) : (Tryz.prog.info? 139).any (fun i => decide ((i.bytes : Int) * n ≤ 140737488355328)) = decide (8 * n ≤ 140737488355328) := any_at (by kernel_rfl) n
attribute [simp] Tryz.underlying140
@[simp] theorem sz140 : sizeT Tryz.prog 140 = 1 := by kernel_rfl
@[simp] theorem ag140 : isAggT Tryz.prog 140 = false := by kernel_rfl
@[simp] theorem in140 : (Tryz.prog.info? 140).isSome = true := by kernel_rfl
@[simp] theorem ze140 : zeroT Tryz.prog 140 = some [.raw .nilFunc] := by kernel_rfl
@[simp] theorem fi140 (m : Nat) : fits Tryz.prog 140 m = decide (m * 8 ≤ 140737488355328) := fits_at ze140 (by kernel_rfl) m
@[simp] theorem an140 (n : Int) : (Tryz.prog.info? 140).any (fun i => decide ((i.bytes : Int) * n ≤ 140737488355328)) = decide (8 * n ≤ 140737488355328) := any_at (by kernel_rfl) n
attribute [simp] Tryz.underlying141
@[simp] theorem sz141 : sizeT Tryz.prog 141 = 1 := by kernel_rfl
@[simp] theorem ag141 : isAggT Tryz.prog 141 = false := by kernel_rfl
@[simp] theorem in141 : (Tryz.prog.info? 141).isSome = true := by kernel_rfl
@[simp] theorem ze141 : zeroT Tryz.prog 141 = some [.raw .nilFunc] := by kernel_rfl
@[simp] theorem fi141 (m : Nat) : fits Tryz.prog 141 m = decide (m * 8 ≤ 140737488355328) := fits_at ze141 (by kernel_rfl) m
@[simp] theorem an141 (n : Int) : (Tryz.prog.info? 141).any (fun i => decide ((i.bytes : Int) * n ≤ 140737488355328)) = decide (8 * n ≤ 140737488355328) := any_at (by kernel_rfl) n
attribute [simp] Tryz.underlying142
@[simp] theorem sz142 : sizeT Tryz.prog 142 = 1 := by kernel_rfl
@[simp] theorem ag142 : isAggT Tryz.prog 142 = false := by kernel_rfl
@[simp] theorem in142 : (Tryz.prog.info? 142).isSome = true := by kernel_rfl
@[simp] theorem ze142 : zeroT Tryz.prog 142 = some [.raw .nilFunc] := by kernel_rfl
@[simp] theorem fi142 (m : Nat) : fits Tryz.prog 142 m = decide (m * 8 ≤ 140737488355328) := fits_at ze142 (by kernel_rfl) m
@[simp] theorem an142 (n : Int) : (Tryz.prog.info? 142).any (fun i => decide ((i.bytes : Int) * n ≤ 140737488355328)) = decide (8 * n ≤ 140737488355328) := any_at (by kernel_rfl) n
attribute [simp] Tryz.underlying144
@[simp] theorem sz144 : sizeT Tryz.prog 144 = 1 := by kernel_rfl
@[simp] theorem ag144 : isAggT Tryz.prog 144 = false := by kernel_rfl
@[simp] theorem in144 : (Tryz.prog.info? 144).isSome = true := by kernel_rfl
@[simp] theorem ze144 : zeroT Tryz.prog 144 = some [.raw .nilFunc] := by kernel_rfl
@[simp] theorem fi144 (m : Nat) : fits Tryz.prog 144 m = decide (m * 8 ≤ 140737488355328) := fits_at ze144 (by kernel_rfl) m
@[simp] theorem an144 (n : Int) : (Tryz.prog.info? 144).any (fun i => decide ((i.bytes : Int) * n ≤ 140737488355328)) = decide (8 * n ≤ 140737488355328) := any_at (by kernel_rfl) n
attribute [simp] Tryz.underlying145
@[simp] theorem sz145 : sizeT Tryz.prog 145 = 1 := by kernel_rfl
@[simp] theorem ag145 : isAggT Tryz.prog 145 = false := by kernel_rfl
@[simp] theorem in145 : (Tryz.prog.info? 145).isSome = true := by kernel_rfl
@[simp] theorem ze145 : zeroT Tryz.prog 145 = some [.raw .nilFunc] := by kernel_rfl
@[simp] theorem fi145 (m : Nat) : fits Tryz.prog 145 m = decide (m * 8 ≤ 140737488355328) := fits_at ze145 (by kernel_rfl) m
@[simp] theorem an145 (n : Int) : (Tryz.prog.info? 145).any (fun i => decide ((i.bytes : Int) * n ≤ 140737488355328)) = decide (8 * n ≤ 140737488355328) := any_at (by kernel_rfl) n
attribute [simp] Tryz.underlying146
@[simp] theorem sz146 : sizeT Tryz.prog 146 = 1 := by kernel_rfl
@[simp] theorem ag146 : isAggT Tryz.prog 146 = false := by kernel_rfl
@[simp] theorem in146 : (Tryz.prog.info? 146).isSome = true := by kernel_rfl
@[simp] theorem ze146 : zeroT Tryz.prog 146 = some [.raw .nilFunc] := by kernel_rfl
@[simp] theorem fi146 (m : Nat) : fits Tryz.prog 146 m = decide (m * 8 ≤ 140737488355328) := fits_at ze146 (by kernel_rfl) m
@[simp] theorem an146 (n : Int) : (Tryz.prog.info? 146).any (fun i => decide ((i.bytes : Int) * n ≤ 140737488355328)) = decide (8 * n ≤ 140737488355328) := any_at (by kernel_rfl) n
attribute [simp] Tryz.underlying147
@[simp] theorem sz147 : sizeT Tryz.prog 147 = 1 := by kernel_rfl
@[simp] theorem ag147 : isAggT Tryz.prog 147 = false := by kernel_rfl
@[simp] theorem in147 : (Tryz.prog.info? 147).isSome = true := by kernel_rfl
@[simp] theorem ze147 : zeroT Tryz.prog 147 = some [.nilp] := by kernel_rfl
@[simp] theorem fi147 (m : Nat) : fits Tryz.prog 147 m = decide (m * 8 ≤ 140737488355328) := fits_at ze147 (by kernel_rfl) m
@[simp] theorem an147 (n : Int) : (Tryz.prog.info? 147).any (fun i => decide ((i.bytes : Int) * n ≤ 140737488355328)) = decide (8 * n ≤ 140737488355328) := any_at (by kernel_rfl) n
attribute [simp] Tryz.underlying148
@[simp] theorem sz148 : sizeT Tryz.prog 148 = 1 := by kernel_rfl
@[simp] theorem ag148 : isAggT Tryz.prog 148 = false := by kernel_rfl
@[simp] theorem in148 : (Tryz.prog.info? 148).isSome = true := by kernel_rfl
@[simp] theorem ze148 : zeroT Tryz.prog 148 = some [.raw .nilFunc] := by kernel_rfl
@[simp] theorem fi148 (m : Nat) : fits Tryz.prog 148 m = decide (m * 8 ≤ 140737488355328) := fits_at ze148 (by kernel_rfl) m
@[simp] theorem an148 (n : Int) : (Tryz.prog.info? 148).any (fun i => decide ((i.bytes : Int) * n ≤ 140737488355328)) = decide (8 * n ≤ 140737488355328) := any_at (by kernel_rfl) n
attribute [simp] Tryz.underlying149
@[simp] theorem sz149 : sizeT Tryz.prog 149 = 4 := by kernel_rfl
@[simp] theorem ag149 : isAggT Tryz.prog 149 = true := by kernel_rfl
@[simp] theorem in149 : (Tryz.prog.info? 149).isSome = true := by kernel_rfl
@[simp] theorem ze149 : zeroT Tryz.prog 149 = some [.nilp, .nilp, .nilp, .str []] := by kernel_rfl
@[simp] theorem fi149 (m : Nat) : fits Tryz.prog 149 m = decide (m * 40 ≤ 140737488355328) := fits_at ze149 (by kernel_rfl) m
@[simp] theorem an149 (n : Int) : (Tryz.prog.info? 149).any (fun i => decide ((i.bytes : Int) * n ≤ 140737488355328)) = decide (40 * n ≤ 140737488355328) := any_at (by kernel_rfl) n
attribute [simp] Tryz.underlying150
@[simp] theorem sz150 : sizeT Tryz.prog 150 = 4 := by kernel_rfl
@[simp] theorem ag150 : isAggT Tryz.prog 150 = true := by kernel_rfl
@[simp] theorem in150 : (Tryz.prog.info? 150).isSome = true := by kernel_rfl
@[simp] theorem ze150 : zeroT Tryz.prog 150 = some [.nilp, .nilp, .nilp, .str []] := by kernel_rfl
@[simp] theorem fi150 (m : Nat) : fits Tryz.prog 150 m = decide (m * 40 ≤ 140737488355328) := fits_at ze150 (by kernel_rfl) m
@[simp] theorem an150 (n : Int) : (Tryz.prog.info? 150).any (fun i => decide ((i.bytes : Int) * n ≤ 140737488355328)) = decide (40 * n ≤ 140737488355328) := any_at (by kernel_rfl) n
attribute [simp] Tryz.underlying151
@[simp] theorem sz151 : sizeT Tryz.prog 151 = 0 := by kernel_rfl
@[simp] theorem ag151 : isAggT Tryz.prog 151 = true := by kernel_rfl
@[simp] theorem in151 : (Tryz.prog.info? 151).isSome = true := by kernel_rfl
@[simp] theorem ze151 : zeroT Tryz.prog 151 = some [] := by kernel_rfl
attribute [simp] Tryz.underlying152
@[simp] theorem sz152 : sizeT Tryz.prog 152 = 0 := by kernel_rfl
@[simp] theorem ag152 : isAggT Tryz.prog 152 = true := by kernel_rfl
@[simp] theorem in152 : (Tryz.prog.info? 152).isSome = true := by kernel_rfl
@[simp] theorem ze152 : zeroT Tryz.prog 152 = some [] := by kernel_rfl
attribute [simp] Tryz.underlying153
@[simp] theorem sz153 : sizeT Tryz.prog 153 = 0 := by kernel_rfl
@[simp] theorem ag153 : isAggT Tryz.prog 153 = true := by kernel_rfl
@[simp] theorem in153 : (Tryz.prog.info? 153).isSome = true := by kernel_rfl
@[simp] theorem ze153 : zeroT Tryz.prog 153 = some [] := by kernel_rfl
attribute [simp] Tryz.underlying154
@[simp] theorem sz154 : sizeT Tryz.prog 154 = 1 := by kernel_rfl
@[simp] theorem ag154 : isAggT Tryz.prog 154 = false := by kernel_rfl
@[simp] theorem in154 : (Tryz.prog.info? 154).isSome = true := by kernel_rfl
@[simp] theorem ze154 : zeroT Tryz.prog 154 = some [.int .u32 0] := by kernel_rfl
@[simp] theorem fi154 (m : Nat) : fits Tryz.prog 154 m = decide (m * 4 ≤ 140737488355328) := fits_at ze154 (by kernel_rfl) m
@[simp] theorem an154 (n : Int) : (Tryz.prog.info? 154).any (fun i => decide ((i.bytes : Int) * n ≤ 140737488355328)) = decide (4 * n ≤ 140737488355328) := any_at (by kernel_rfl) n
attribute [simp] Tryz.underlying155
@[simp] theorem sz155 : sizeT Tryz.prog 155 = 1 := by kernel_rfl
@[simp] theorem ag155 : isAggT Tryz.prog 155 = false := by kernel_rfl
@[simp] theorem in155 : (Tryz.prog.info? 155).isSome = true := by kernel_rfl
@[simp] theorem ze155 : zeroT Tryz.prog 155 = some [.int .u8 0] := by kernel_rfl
@[simp] theorem fi155 (m : Nat) : fits Tryz.prog 155 m = decide (m * 1 ≤ 140737488355328) := fits_at ze155 (by kernel_rfl) m
@[simp] theorem an155 (n : Int) : (Tryz.prog.info? 155).any (fun i => decide ((i.bytes : Int) * n ≤ 140737488355328)) = decide (1 * n ≤ 140737488355328) := any_at (by kernel_rfl) n
attribute [simp] Tryz.underlying156
@[simp] theorem sz156 : sizeT Tryz.prog 156 = 1 := by kernel_rfl
@[simp] theorem ag156 : isAggT Tryz.prog 156 = false := by kernel_rfl
@[simp] theorem in156 : (Tryz.prog.info? 156).isSome = true := by kernel_rfl
@[simp] theorem ze156 : zeroT Tryz.prog 156 = some [.int .u8 0] := by kernel_rfl
@[simp] theorem fi156 (m : Nat) : fits Tryz.prog 156 m = decide (m * 1 ≤ 140737488355328) := fits_at ze156 (by kernel_rfl) m
@[simp] theorem an156 (n : Int) : (Tryz.prog.info? 156).any (fun i => decide ((i.bytes : Int) * n ≤ 140737488355328)) = decide (1 * n ≤ 140737488355328) := any_at (by kernel_rfl) n
attribute [simp] Tryz.underlying157
@[simp] theorem sz157 : sizeT Tryz.prog 157 = 1 := by kernel_rfl
@[simp] theorem ag157 : isAggT Tryz.prog 157 = false := by kernel_rfl
@[simp] theorem in157 : (Tryz.prog.info? 157).isSome = true := by kernel_rfl
@[simp] theorem ze157 : zeroT Tryz.prog 157 = some [.raw .nilFunc] := by kernel_rfl
@[simp] theorem fi157 (m : Nat) : fits Tryz.prog 157 m = decide (m * 8 ≤ 140737488355328) := fits_at ze157 (by kernel_rfl) m
@[simp] theorem an157 (n : Int) : (Tryz.prog.info? 157).any (fun i => decide ((i.bytes : Int) * n ≤ 140737488355328)) = decide (8 * n ≤ 140737488355328) := any_at (by kernel_rfl) n
attribute [simp] Tryz.underlying158
@[simp] theorem sz158 : sizeT Tryz.prog 158 = 1 := by kernel_rfl
@[simp] theorem ag158 : isAggT Tryz.prog 158 = false := by kernel_rfl
@[simp] theorem in158 : (Tryz.prog.info? 158).isSome = true := by kernel_rfl
@[simp] theorem ze158 : zeroT Tryz.prog 158 = some [.nilp] := by kernel_rfl
@[simp] theorem fi158 (m : Nat) : fits Tryz.prog 158 m = decide (m * 8 ≤ 140737488355328) := fits_at ze158 (by kernel_rfl) m
@[simp] theorem an158 (n : Int) : (Tryz.prog.info? 158).any (fun i => decide ((i.bytes : Int) * n ≤ 140737488355328)) = decide (8 * n ≤ 140737488355328) := any_at (by kernel_rfl) n
attribute [simp] Tryz.underlying159
@[simp] theorem sz159 : sizeT Tryz.prog 159 = 1 := by kernel_rfl
@[simp] theorem ag159 : isAggT Tryz.prog 159 = false := by kernel_rfl
@[simp] theorem in159 : (Tryz.prog.info? 159).isSome = true := by kernel_rfl
@[simp] theorem ze159 : zeroT Tryz.prog 159 = some [.int .i32 0] := by kernel_rfl
@[simp] theorem fi159 (m : Nat) : fits Tryz.prog 159 m = decide (m * 4 ≤ 140737488355328) := fits_at ze159 (by kernel_rfl) m
@[simp] theorem an159 (n : Int) : (Tryz.prog.info? 159).any (fun i => decide ((i.bytes : Int) * n ≤ 140737488355328)) = decide (4 * n ≤ 140737488355328) := any_at (by kernel_rfl) n
attribute [simp] Tryz.underlying160
@[simp] theorem sz160 : sizeT Tryz.prog 160 = 1 := by kernel_rfl
@[simp] theorem ag160 : isAggT Tryz.prog 160 = false := by kernel_rfl
@[simp] theorem in160 : (Tryz.prog.info? 160).isSome = true := by kernel_rfl
@[simp] theorem ze160 : zeroT Tryz.prog 160 = some [.int .i32 0] := by kernel_rfl
@[simp] theorem fi160 (m : Nat) : fits Tryz.prog 160 m = decide (m * 4 ≤ 140737488355328) := fits_at ze160 (by kernel_rfl) m
@[simp] theorem an160 (n : Int) : (Tryz.prog.info? 160).any (fun i => decide ((i.bytes : Int) * n ≤ 140737488355328)) = decide (4 * n ≤ 140737488355328) := any_at (by kernel_rfl) n
attribute [simp] Tryz.underlying161
@[simp] theorem sz161 : sizeT Tryz.prog 161 = 11 := by kernel_rfl
@[simp] theorem ag161 : isAggT Tryz.prog 161 = true := by kernel_rfl
@[simp] theorem in161 : (Tryz.prog.info? 161).isSome = true := by kernel_rfl
@[simp] theorem ze161 : zeroT Tryz.prog 161 = some [.int .u64 0, .int .u64 0, .int .u32 0, .int .u8 0, .int .u8 0, .int .u8 0, .int .u8 0, .raw .nilFunc, .nilp, .int .i32 0, .int .i32 0] := by kernel_rfl
@[simp] theorem fi161 (m : Nat) : fits Tryz.prog 161 m = decide (m * 48 ≤ 140737488355328) := fits_at ze161 (by kernel_rfl) m
@[simp] theorem an161 (n : Int) : (Tryz.prog.info? 161).any (fun i => decide ((i.bytes : Int) * n ≤ 140737488355328)) = decide (48 * n ≤ 140737488355328) := any_at (by kernel_rfl) n
attribute [simp] Tryz.underlying162
@[simp] theorem sz162 : sizeT Tryz.prog 162 = 11 := by kernel_rfl
@[simp] theorem ag162 : isAggT Tryz.prog 162 = true := by kernel_rfl
@[simp] theorem in162 : (Tryz.prog.info? 162).isSome = true := by kernel_rfl
@[simp] theorem ze162 : zeroT Tryz.prog 162 = some [.int .u64 0, .int .u64 0, .int .u32 0, .int .u8 0, .int .u8 0, .int .u8 0, .int .u8 0, .raw .nilFunc, .nilp, .int .i32 0, .int .i32 0] := by kernel_rfl
@[simp] theorem fi162 (m : Nat) : fits Tryz.prog 162 m = decide (m * 48 ≤ 140737488355328) := fits_at ze162 (by kernel_rfl) m
@[simp] theorem an162 (n : Int) : (Tryz.prog.info? 162).any (fun i => decide ((i.bytes : Int) * n ≤ 140737488355328)) = decide (48 * n ≤ 140737488355328) := any_at (by kernel_rfl) n
attribute [simp] Tryz.underlying163
@[simp] theorem sz163 : sizeT Tryz.prog 163 = 1 := by kernel_rfl
@[simp] theorem ag163 : isAggT Tryz.prog 163 = false := by kernel_rfl
@[simp] theorem in163 : (Tryz.prog.info? 163).isSome = true := by kernel_rfl
@[simp] theorem ze163 : zeroT Tryz.prog 163 = some [.raw .nilFunc] := by kernel_rfl
@[simp] theorem fi163 (m : Nat) : fits Tryz.prog 163 m = decide (m * 8 ≤ 140737488355328) := fits_at ze163 (by kernel_rfl) m
@[simp] theorem an163 (n : Int) : (Tryz.prog.info? 163).any (fun i => decide ((i.bytes : Int) * n ≤ 140737488355328)) = decide (8 * n ≤ 140737488355328) := any_at (by kernel_rfl) n
attribute [simp] keep2 head2
@[simp] theorem hK2 : hint2.keep = keep2 := rfl
@[simp] theorem hH2 : hint2.head = head2 := rfl
@[simp] theorem hB2 (t : Nat) : hint2.box t = ([] : List Nat).contains t := rfl
@[simp] theorem hD2 (t : Nat) : hint2.dies t = ([] : List Nat).contains t := rfl
@[simp] theorem ow2 : (hints 2).own = none := rfl
@[simp] theorem hS2 (t : Nat) : hint2.soft t = [] := rfl
@[simp] theorem hL2 (t : Nat) : hint2.lazy t = none := rfl
attribute [simp] keep3 head3
@[simp] theorem hK3 : hint3.keep = keep3 := rfl
@[simp] theorem hH3 : hint3.head = head3 := rfl
@[simp] theorem hB3 (t : Nat) : hint3.box t = ([13, 15] : List Nat).contains t := rfl
@[simp] theorem hD3 (t : Nat) : hint3.dies t = ([23, 29, 35, 36, 43, 51, 65, 75, 89, 94, 97, 101, 102, 105, 106, 113, 114, 115, 118, 119, 120, 123, 125, 126, 128] : List Nat).contains t := rfl
@[simp] theorem ow3 : (hints 3).own = none := rfl
theorem hh3 : hints 3 = hint3 := rfl
@[simp] theorem hS3 (t : Nat) : hint3.soft t = [] := rfl
@[simp] theorem hL3 (t : Nat) : hint3.lazy t = none := rfl
attribute [simp] free3 pairs3
@[simp] theorem hF3 : hint3.free = free3 := rfl
@[simp] theorem hP3 : hint3.pairs = pairs3 := rfl
attribute [simp] keep4 head4
@[simp] theorem hK4 : hint4.keep = keep4 := rfl
@[simp] theorem hH4 : hint4.head = head4 := rfl
@[simp] theorem hB4 (t : Nat) : hint4.box t = ([1, 2, 3, 4] : List Nat).contains t := rfl
@[simp] theorem hD4 (t : Nat) : hint4.dies t = ([19, 24, 26, 32, 40, 46, 54] : List Nat).contains t := rfl
@[simp] theorem ow4 : (hints 4).own = none := rfl
theorem hh4 : hints 4 = hint4 := rfl
@[simp] theorem hS4 (t : Nat) : hint4.soft t = [] := rfl
@[simp] theorem hL4 (t : Nat) : hint4.lazy t = none := rfl
attribute [simp] free4 pairs4
@[simp] theorem hF4 : hint4.free = free4 := rfl
@[simp] theorem hP4 : hint4.pairs = pairs4 := rfl
attribute [simp] keep5 head5
@[simp] theorem hK5 : hint5.keep = keep5 := rfl
@[simp] theorem hH5 : hint5.head = head5 := rfl
@[simp] theorem hB5 (t : Nat) : hint5.box t = ([6, 9] : List Nat).contains t := rfl
@[simp] theorem hD5 (t : Nat) : hint5.dies t = ([10, 11, 18, 19, 21, 27] : List Nat).contains t := rfl
@[simp] theorem ow5 : (hints 5).own = none := rfl
theorem hh5 : hints 5 = hint5 := rfl
@[simp] theorem hS5 (t : Nat) : hint5.soft t = [] := rfl
@[simp] theorem hL5 (t : Nat) : hint5.lazy t = none := rfl
attribute [simp] keep6 head6
@[simp] theorem hK6 : hint6.keep = keep6 := rfl
@[simp] theorem hH6 : hint6.head = head6 := rfl
@[simp] theorem hB6 (t : Nat) : hint6.box t = ([2, 5] : List Nat).contains t := rfl
@[simp] theorem hD6 (t : Nat) : hint6.dies t = ([21, 27, 44, 69, 77, 85, 110, 118, 126, 179, 181, 182] : List Nat).contains t := rfl
@[simp] theorem ow6 : (hints 6).own = none := rfl
theorem hh6 : hints 6 = hint6 := rfl
@[simp] theorem hS6 (t : Nat) : hint6.soft t = [] := rfl
@[simp] theorem hL6 (t : Nat) : hint6.lazy t = none := rfl
attribute [simp] free6 pairs6
@[simp] theorem hF6 : hint6.free = free6 := rfl
@[simp] theorem hP6 : hint6.pairs = pairs6 := rfl
attribute [simp] keep7 head7
@[simp] theorem hK7 : hint7.keep = keep7 := rfl
@[simp] theorem hH7 : hint7.head = head7 := rfl
@[simp] theorem hB7 (t : Nat) : hint7.box t = ([2, 4, 7, 8] : List Nat).contains t := rfl
@[simp] theorem hD7 (t : Nat) : hint7.dies t = ([17, 37, 53, 85] : List Nat).contains t := rfl
@[simp] theorem ow7 : (hints 7).own = none := rfl
theorem hh7 : hints 7 = hint7 := rfl
@[simp] theorem hS7 (t : Nat) : hint7.soft t = [] := rfl
@[simp] theorem hL7 (t : Nat) : hint7.lazy t = none := rfl
attribute [simp] free7 pairs7
@[simp] theorem hF7 : hint7.free = free7 := rfl
@[simp] theorem hP7 : hint7.pairs = pairs7 := rfl
attribute [simp] keep8 head8
@[simp] theorem hK8 : hint8.keep = keep8 := rfl
@[simp] theorem hH8 : hint8.head = head8 := rfl
@[simp] theorem hB8 (t : Nat) : hint8.box t = ([1] : List Nat).contains t := rfl
@[simp] theorem hD8 (t : Nat) : hint8.dies t = ([13, 19, 31, 40, 47, 52, 56, 58, 59, 67] : List Nat).contains t := rfl
@[simp] theorem ow8 : (hints 8).own = none := rfl
theorem hh8 : hints 8 = hint8 := rfl
@[simp] theorem hS8 (t : Nat) : hint8.soft t = [] := rfl
@[simp] theorem hL8 (t : Nat) : hint8.lazy t = none := rfl
attribute [simp] keep9 head9
@[simp] theorem hK9 : hint9.keep = keep9 := rfl
@[simp] theorem hH9 : hint9.head = head9 := rfl
@[simp] theorem hB9 (t : Nat) : hint9.box t = ([] : List Nat).contains t := rfl
@[simp] theorem hD9 (t : Nat) : hint9.dies t = ([12, 13] : List Nat).contains t := rfl
@[simp] theorem ow9 : (hints 9).own = none := rfl
theorem hh9 : hints 9 = hint9 := rfl
@[simp] theorem hS9 (t : Nat) : hint9.soft t = [] := rfl
@[simp] theorem hL9 (t : Nat) : hint9.lazy t = none := rfl
attribute [simp] keep10 head10
@[simp] theorem hK10 : hint10.keep = keep10 := rfl
@[simp] theorem hH10 : hint10.head = head10 := rfl
@[simp] theorem hB10 (t : Nat) : hint10.box t = ([] : List Nat).contains t := rfl
@[simp] theorem hD10 (t : Nat) : hint10.dies t = ([7, 13, 14] : List Nat).contains t := rfl
@[simp] theorem ow10 : (hints 10).own = none := rfl
theorem hh10 : hints 10 = hint10 := rfl
@[simp] theorem hS10 (t : Nat) : hint10.soft t = [] := rfl
@[simp] theorem hL10 (t : Nat) : hint10.lazy t = none := rfl
attribute [simp] keep11 head11
@[simp] theorem hK11 : hint11.keep = keep11 := rfl
@[simp] theorem hH11 : hint11.head = head11 := rfl
@[simp] theorem hB11 (t : Nat) : hint11.box t = ([3] : List Nat).contains t := rfl
@[simp] theorem hD11 (t : Nat) : hint11.dies t = ([] : List Nat).contains t := rfl
@[simp] theorem ow11 : (hints 11).own = none := rfl
theorem hh11 : hints 11 = hint11 := rfl
@[simp] theorem hS11 (t : Nat) : hint11.soft t = [] := rfl
@[simp] theorem hL11 (t : Nat) : hint11.lazy t = none := rfl
attribute [simp] keep12 head12
@[simp] theorem hK12 : hint12.keep = keep12 := rfl
@[simp] theorem hH12 : hint12.head = head12 := rfl
@[simp] theorem hB12 (t : Nat) : hint12.box t = ([2, 4, 8, 10, 11, 13] : List Nat).contains t := rfl
@[simp] theorem hD12 (t : Nat) : hint12.dies t = ([18, 26, 27, 36, 40, 46, 61] : List Nat).contains t := rfl
@[simp] theorem ow12 : (hints 12).own = none := rfl
theorem hh12 : hints 12 = hint12 := rfl
@[simp] theorem hS12 (t : Nat) : hint12.soft t = [] := rfl
@[simp] theorem hL12 (t : Nat) : hint12.lazy t = none := rfl
attribute [simp] keep13 head13
@[simp] theorem hK13 : hint13.keep = keep13 := rfl
@[simp] theorem hH13 : hint13.head = head13 := rfl
@[simp] theorem hB13 (t : Nat) : hint13.box t = ([2, 5] : List Nat).contains t := rfl
@[simp] theorem hD13 (t : Nat) : hint13.dies t = ([8, 9, 16, 23] : List Nat).contains t := rfl
@[simp] theorem ow13 : (hints 13).own = none := rfl
theorem hh13 : hints 13 = hint13 := rfl
@[simp] theorem hS13 (t : Nat) : hint13.soft t = [] := rfl
@[simp] theorem hL13 (t : Nat) : hint13.lazy t = none := rfl
attribute [simp] keep14 head14
@[simp] theorem hK14 : hint14.keep = keep14 := rfl
@[simp] theorem hH14 : hint14.head = head14 := rfl
@[simp] theorem hB14 (t : Nat) : hint14.box t = ([1, 6, 8, 10] : List Nat).contains t := rfl
@[simp] theorem hD14 (t : Nat) : hint14.dies t = ([41, 62, 83, 95, 96] : List Nat).contains t := rfl
@[simp] theorem ow14 : (hints 14).own = none := rfl
theorem hh14 : hints 14 = hint14 := rfl
@[simp] theorem hS14 (t : Nat) : hint14.soft t = [] := rfl
@[simp] theorem hL14 (t : Nat) : hint14.lazy t = none := rfl
attribute [simp] keep15 head15
@[simp] theorem hK15 : hint15.keep = keep15 := rfl
@[simp] theorem hH15 : hint15.head = head15 := rfl
@[simp] theorem hB15 (t : Nat) : hint15.box t = ([] : List Nat).contains t := rfl
@[simp] theorem hD15 (t : Nat) : hint15.dies t = ([6, 10] : List Nat).contains t := rfl
@[simp] theorem ow15 : (hints 15).own = none := rfl
theorem hh15 : hints 15 = hint15 := rfl
@[simp] theorem hS15 (t : Nat) : hint15.soft t = [] := rfl
@[simp] theorem hL15 (t : Nat) : hint15.lazy t = none := rfl
attribute [simp] keep16 head16
@[simp] theorem hK16 : hint16.keep = keep16 := rfl
@[simp] theorem hH16 : hint16.head = head16 := rfl
@[simp] theorem hB16 (t : Nat) : hint16.box t = ([] : List Nat).contains t := rfl
@[simp] theorem hD16 (t : Nat) : hint16.dies t = ([18, 20, 21, 22, 28] : List Nat).contains t := rfl
@[simp] theorem ow16 : (hints 16).own = none := rfl
theorem hh16 : hints 16 = hint16 := rfl
@[simp] theorem hS16 (t : Nat) : hint16.soft t = [] := rfl
@[simp] theorem hL16 (t : Nat) : hint16.lazy t = none := rfl
attribute [simp] keep17 head17
@[simp] theorem hK17 : hint17.keep = keep17 := rfl
@[simp] theorem hH17 : hint17.head = head17 := rfl
@[simp] theorem hB17 (t : Nat) : hint17.box t = ([1] : List Nat).contains t := rfl
@[simp] theorem hD17 (t : Nat) : hint17.dies t = ([14, 18, 24, 30] : List Nat).contains t := rfl
@[simp] theorem ow17 : (hints 17).own = none := rfl
theorem hh17 : hints 17 = hint17 := rfl
@[simp] theorem hS17 (t : Nat) : hint17.soft t = [] := rfl
@[simp] theorem hL17 (t : Nat) : hint17.lazy t = none := rfl
attribute [simp] keep18 head18
@[simp] theorem hK18 : hint18.keep = keep18 := rfl
@[simp] theorem hH18 : hint18.head = head18 := rfl
@[simp] theorem hB18 (t : Nat) : hint18.box t = ([3] : List Nat).contains t := rfl
@[simp] theorem hD18 (t : Nat) : hint18.dies t = ([10, 14] : List Nat).contains t := rfl
@[simp] theorem ow18 : (hints 18).own = none := rfl
theorem hh18 : hints 18 = hint18 := rfl
@[simp] theorem hS18 (t : Nat) : hint18.soft t = [] := rfl
@[simp] theorem hL18 (t : Nat) : hint18.lazy t = none := rfl
attribute [simp] keep19 head19
@[simp] theorem hK19 : hint19.keep = keep19 := rfl
@[simp] theorem hH19 : hint19.head = head19 := rfl
@[simp] theorem hB19 (t : Nat) : hint19.box t = ([2, 4] : List Nat).contains t := rfl
@[simp] theorem hD19 (t : Nat) : hint19.dies t = ([11, 29] : List Nat).contains t := rfl
@[simp] theorem ow19 : (hints 19).own = none := rfl
theorem hh19 : hints 19 = hint19 := rfl
@[simp] theorem hS19 (t : Nat) : hint19.soft t = [] := rfl
@[simp] theorem hL19 (t : Nat) : hint19.lazy t = none := rfl
attribute [simp] free19 pairs19
@[simp] theorem hF19 : hint19.free = free19 := rfl
@[simp] theorem hP19 : hint19.pairs = pairs19 := rfl
attribute [simp] keep20 head20
@[simp] theorem hK20 : hint20.keep = keep20 := rfl
@[simp] theorem hH20 : hint20.head = head20 := rfl
@[simp] theorem hB20 (t : Nat) : hint20.box t = ([1, 7] : List Nat).contains t := rfl
@[simp] theorem hD20 (t : Nat) : hint20.dies t = ([23, 25, 46, 58, 60, 81, 93, 100, 133] : List Nat).contains t := rfl
@[simp] theorem ow20 : (hints 20).own = none := rfl
theorem hh20 : hints 20 = hint20 := rfl
@[simp] theorem hS20 (t : Nat) : hint20.soft t = [] := rfl
@[simp] theorem hL20 (t : Nat) : hint20.lazy t = none := rfl
attribute [simp] free20 pairs20
@[simp] theorem hF20 : hint20.free = free20 := rfl
@[simp] theorem hP20 : hint20.pairs = pairs20 := rfl
attribute [simp] keep21 head21
@[simp] theorem hK21 : hint21.keep = keep21 := rfl
@[simp] theorem hH21 : hint21.head = head21 := rfl
@[simp] theorem hB21 (t : Nat) : hint21.box t = ([] : List Nat).contains t := rfl
@[simp] theorem hD21 (t : Nat) : hint21.dies t = ([6] : List Nat).contains t := rfl
@[simp] theorem ow21 : (hints 21).own = none := rfl
theorem hh21 : hints 21 = hint21 := rfl
@[simp] theorem hS21 (t : Nat) : hint21.soft t = [] := rfl
@[simp] theorem hL21 (t : Nat) : hint21.lazy t = none := rfl
attribute [simp] keep22 head22
@[simp] theorem hK22 : hint22.keep = keep22 := rfl
@[simp] theorem hH22 : hint22.head = head22 := rfl
@[simp] theorem hB22 (t : Nat) : hint22.box t = ([] : List Nat).contains t := rfl
@[simp] theorem hD22 (t : Nat) : hint22.dies t = ([8, 17] : List Nat).contains t := rfl
@[simp] theorem ow22 : (hints 22).own = none := rfl
theorem hh22 : hints 22 = hint22 := rfl
@[simp] theorem hS22 (t : Nat) : hint22.soft t = [] := rfl
@[simp] theorem hL22 (t : Nat) : hint22.lazy t = none := rfl
attribute [simp] keep23 head23
@[simp] theorem hK23 : hint23.keep = keep23 := rfl
@[simp] theorem hH23 : hint23.head = head23 := rfl
@[simp] theorem hB23 (t : Nat) : hint23.box t = ([3] : List Nat).contains t := rfl
@[simp] theorem hD23 (t : Nat) : hint23.dies t = ([9] : List Nat).contains t := rfl
@[simp] theorem ow23 : (hints 23).own = none := rfl
theorem hh23 : hints 23 = hint23 := rfl
@[simp] theorem hS23 (t : Nat) : hint23.soft t = [] := rfl
@[simp] theorem hL23 (t : Nat) : hint23.lazy t = none := rfl
attribute [simp] keep24 head24
@[simp] theorem hK24 : hint24.keep = keep24 := rfl
@[simp] theorem hH24 : hint24.head = head24 := rfl
@[simp] theorem hB24 (t : Nat) : hint24.box t = ([1] : List Nat).contains t := rfl
@[simp] theorem hD24 (t : Nat) : hint24.dies t = ([] : List Nat).contains t := rfl
@[simp] theorem ow24 : (hints 24).own = none := rfl
theorem hh24 : hints 24 = hint24 := rfl
@[simp] theorem hS24 (t : Nat) : hint24.soft t = [] := rfl
@[simp] theorem hL24 (t : Nat) : hint24.lazy t = none := rfl
attribute [simp] keep25 head25
@[simp] theorem hK25 : hint25.keep = keep25 := rfl
@[simp] theorem hH25 : hint25.head = head25 := rfl
@[simp] theorem hB25 (t : Nat) : hint25.box t = ([1, 6] : List Nat).contains t := rfl
@[simp] theorem hD25 (t : Nat) : hint25.dies t = ([31, 47, 60, 61, 72, 73] : List Nat).contains t := rfl
@[simp] theorem ow25 : (hints 25).own = none := rfl
theorem hh25 : hints 25 = hint25 := rfl
@[simp] theorem hS25 (t : Nat) : hint25.soft t = [] := rfl
@[simp] theorem hL25 (t : Nat) : hint25.lazy t = none := rfl
attribute [simp] free25 pairs25
@[simp] theorem hF25 : hint25.free = free25 := rfl
@[simp] theorem hP25 : hint25.pairs = pairs25 := rfl
attribute [simp] keep26 head26
@[simp] theorem hK26 : hint26.keep = keep26 := rfl
@[simp] theorem hH26 : hint26.head = head26 := rfl
@[simp] theorem hB26 (t : Nat) : hint26.box t = ([4] : List Nat).contains t := rfl
@[simp] theorem hD26 (t : Nat) : hint26.dies t = ([8, 15, 20] : List Nat).contains t := rfl
@[simp] theorem ow26 : (hints 26).own = none := rfl
theorem hh26 : hints 26 = hint26 := rfl
@[simp] theorem hS26 (t : Nat) : hint26.soft t = [] := rfl
@[simp] theorem hL26 (t : Nat) : hint26.lazy t = none := rfl
attribute [simp] keep27 head27
@[simp] theorem hK27 : hint27.keep = keep27 := rfl
@[simp] theorem hH27 : hint27.head = head27 := rfl
@[simp] theorem hB27 (t : Nat) : hint27.box t = ([] : List Nat).contains t := rfl
@[simp] theorem hD27 (t : Nat) : hint27.dies t = ([10, 16, 19, 24, 30, 34, 36, 38] : List Nat).contains t := rfl
@[simp] theorem ow27 : (hints 27).own = none := rfl
theorem hh27 : hints 27 = hint27 := rfl
@[simp] theorem hS27 (t : Nat) : hint27.soft t = [] := rfl
@[simp] theorem hL27 (t : Nat) : hint27.lazy t = none := rfl
attribute [simp] keep28 head28
@[simp] theorem hK28 : hint28.keep = keep28 := rfl
@[simp] theorem hH28 : hint28.head = head28 := rfl
@[simp] theorem hB28 (t : Nat) : hint28.box t = ([4] : List Nat).contains t := rfl
@[simp] theorem hD28 (t : Nat) : hint28.dies t = ([7, 11, 18, 19] : List Nat).contains t := rfl
@[simp] theorem ow28 : (hints 28).own = none := rfl
theorem hh28 : hints 28 = hint28 := rfl
@[simp] theorem hS28 (t : Nat) : hint28.soft t = [] := rfl
@[simp] theorem hL28 (t : Nat) : hint28.lazy t = none := rfl
attribute [simp] keep29 head29
@[simp] theorem hK29 : hint29.keep = keep29 := rfl
@[simp] theorem hH29 : hint29.head = head29 := rfl
@[simp] theorem hB29 (t : Nat) : hint29.box t = ([2, 8] : List Nat).contains t := rfl
@[simp] theorem hD29 (t : Nat) : hint29.dies t = ([9, 10, 17, 18, 25, 26, 39, 42] : List Nat).contains t := rfl
@[simp] theorem ow29 : (hints 29).own = none := rfl
theorem hh29 : hints 29 = hint29 := rfl
@[simp] theorem hS29 (t : Nat) : hint29.soft t = [] := rfl
@[simp] theorem hL29 (t : Nat) : hint29.lazy t = none := rfl
attribute [simp] keep30 head30
@[simp] theorem hK30 : hint30.keep = keep30 := rfl
@[simp] theorem hH30 : hint30.head = head30 := rfl
@[simp] theorem hB30 (t : Nat) : hint30.box t = ([] : List Nat).contains t := rfl
@[simp] theorem hD30 (t : Nat) : hint30.dies t = ([15] : List Nat).contains t := rfl
@[simp] theorem ow30 : (hints 30).own = none := rfl
theorem hh30 : hints 30 = hint30 := rfl
@[simp] theorem hS30 (t : Nat) : hint30.soft t = [] := rfl
@[simp] theorem hL30 (t : Nat) : hint30.lazy t = none := rfl
attribute [simp] free30 pairs30
@[simp] theorem hF30 : hint30.free = free30 := rfl
@[simp] theorem hP30 : hint30.pairs = pairs30 := rfl
attribute [simp] keep31 head31
@[simp] theorem hK31 : hint31.keep = keep31 := rfl
@[simp] theorem hH31 : hint31.head = head31 := rfl
@[simp] theorem hB31 (t : Nat) : hint31.box t = ([] : List Nat).contains t := rfl
@[simp] theorem hD31 (t : Nat) : hint31.dies t = ([4, 7, 11] : List Nat).contains t := rfl
@[simp] theorem ow31 : (hints 31).own = none := rfl
theorem hh31 : hints 31 = hint31 := rfl
@[simp] theorem hS31 (t : Nat) : hint31.soft t = [] := rfl
@[simp] theorem hL31 (t : Nat) : hint31.lazy t = none := rfl
attribute [simp] keep32 head32
@[simp] theorem hK32 : hint32.keep = keep32 := rfl
@[simp] theorem hH32 : hint32.head = head32 := rfl
@[simp] theorem hB32 (t : Nat) : hint32.box t = ([] : List Nat).contains t := rfl
@[simp] theorem hD32 (t : Nat) : hint32.dies t = ([4, 7, 13] : List Nat).contains t := rfl
@[simp] theorem ow32 : (hints 32).own = none := rfl
theorem hh32 : hints 32 = hint32 := rfl
@[simp] theorem hS32 (t : Nat) : hint32.soft t = [] := rfl
@[simp] theorem hL32 (t : Nat) : hint32.lazy t = none := rfl
attribute [simp] keep33 head33
@[simp] theorem hK33 : hint33.keep = keep33 := rfl
@[simp] theorem hH33 : hint33.head = head33 := rfl
@[simp] theorem hB33 (t : Nat) : hint33.box t = ([] : List Nat).contains t := rfl
@[simp] theorem hD33 (t : Nat) : hint33.dies t = ([9, 12, 14, 15] : List Nat).contains t := rfl
@[simp] theorem ow33 : (hints 33).own = none := rfl
theorem hh33 : hints 33 = hint33 := rfl
@[simp] theorem hS33 (t : Nat) : hint33.soft t = [] := rfl
@[simp] theorem hL33 (t : Nat) : hint33.lazy t = none := rfl
attribute [simp] keep34 head34
@[simp] theorem hK34 : hint34.keep = keep34 := rfl
@[simp] theorem hH34 : hint34.head = head34 := rfl
@[simp] theorem hB34 (t : Nat) : hint34.box t = ([3] : List Nat).contains t := rfl
@[simp] theorem hD34 (t : Nat) : hint34.dies t = ([40] : List Nat).contains t := rfl
@[simp] theorem ow34 : (hints 34).own = none := rfl
theorem hh34 : hints 34 = hint34 := rfl
@[simp] theorem hS34 (t : Nat) : hint34.soft t = [] := rfl
@[simp] theorem hL34 (t : Nat) : hint34.lazy t = none := rfl
attribute [simp] keep35 head35
@[simp] theorem hK35 : hint35.keep = keep35 := rfl
@[simp] theorem hH35 : hint35.head = head35 := rfl
@[simp] theorem hB35 (t : Nat) : hint35.box t = ([] : List Nat).contains t := rfl
@[simp] theorem hD35 (t : Nat) : hint35.dies t = ([5] : List Nat).contains t := rfl
@[simp] theorem ow35 : (hints 35).own = none := rfl
theorem hh35 : hints 35 = hint35 := rfl
@[simp] theorem hS35 (t : Nat) : hint35.soft t = [] := rfl
@[simp] theorem hL35 (t : Nat) : hint35.lazy t = none := rfl
attribute [simp] keep36 head36
@[simp] theorem hK36 : hint36.keep = keep36 := rfl
@[simp] theorem hH36 : hint36.head = head36 := rfl
@[simp] theorem hB36 (t : Nat) : hint36.box t = ([] : List Nat).contains t := rfl
@[simp] theorem hD36 (t : Nat) : hint36.dies t = ([6, 10] : List Nat).contains t := rfl
@[simp] theorem ow36 : (hints 36).own = none := rfl
theorem hh36 : hints 36 = hint36 := rfl
@[simp] theorem hS36 (t : Nat) : hint36.soft t = [] := rfl
@[simp] theorem hL36 (t : Nat) : hint36.lazy t = none := rfl
attribute [simp] keep37 head37
@[simp] theorem hK37 : hint37.keep = keep37 := rfl
@[simp] theorem hH37 : hint37.head = head37 := rfl
@[simp] theorem hB37 (t : Nat) : hint37.box t = ([] : List Nat).contains t := rfl
@[simp] theorem hD37 (t : Nat) : hint37.dies t = ([5, 13] : List Nat).contains t := rfl
@[simp] theorem ow37 : (hints 37).own = none := rfl
theorem hh37 : hints 37 = hint37 := rfl
@[simp] theorem hS37 (t : Nat) : hint37.soft t = [] := rfl
@[simp] theorem hL37 (t : Nat) : hint37.lazy t = none := rfl
attribute [simp] keep38 head38
@[simp] theorem hK38 : hint38.keep = keep38 := rfl
@[simp] theorem hH38 : hint38.head = head38 := rfl
@[simp] theorem hB38 (t : Nat) : hint38.box t = ([] : List Nat).contains t := rfl
@[simp] theorem hD38 (t : Nat) : hint38.dies t = ([3] : List Nat).contains t := rfl
@[simp] theorem ow38 : (hints 38).own = none := rfl
theorem hh38 : hints 38 = hint38 := rfl
@[simp] theorem hS38 (t : Nat) : hint38.soft t = [] := rfl
@[simp] theorem hL38 (t : Nat) : hint38.lazy t = none := rfl
attribute [simp] keep39 head39
@[simp] theorem hK39 : hint39.keep = keep39 := rfl
@[simp] theorem hH39 : hint39.head = head39 := rfl
@[simp] theorem hB39 (t : Nat) : hint39.box t = ([1] : List Nat).contains t := rfl
@[simp] theorem hD39 (t : Nat) : hint39.dies t = ([6, 11, 17, 23, 29] : List Nat).contains t := rfl
@[simp] theorem ow39 : (hints 39).own = none := rfl
theorem hh39 : hints 39 = hint39 := rfl
@[simp] theorem hS39 (t : Nat) : hint39.soft t = [] := rfl
@[simp] theorem hL39 (t : Nat) : hint39.lazy t = none := rfl
attribute [simp] keep40 head40
@[simp] theorem hK40 : hint40.keep = keep40 := rfl
@[simp] theorem hH40 : hint40.head = head40 := rfl
@[simp] theorem hB40 (t : Nat) : hint40.box t = ([3, 9, 10, 12, 13, 17, 18] : List Nat).contains t := rfl
@[simp] theorem hD40 (t : Nat) : hint40.dies t = ([21, 26, 33, 36, 46, 53, 68, 73, 79, 86, 97, 113, 120, 124, 134, 141, 158, 178, 188, 200, 204, 221, 230, 245, 252, 256, 266, 273, 298, 305, 308, 313] : List Nat).contains t := rfl
@[simp] theorem ow40 : (hints 40).own = none := rfl
theorem hh40 : hints 40 = hint40 := rfl
@[simp] theorem hS40 (t : Nat) : hint40.soft t = [] := rfl
@[simp] theorem hL40 (t : Nat) : hint40.lazy t = none := rfl
attribute [simp] free40 pairs40
@[simp] theorem hF40 : hint40.free = free40 := rfl
@[simp] theorem hP40 : hint40.pairs = pairs40 := rfl
attribute [simp] keep41 head41
@[simp] theorem hK41 : hint41.keep = keep41 := rfl
@[simp] theorem hH41 : hint41.head = head41 := rfl
@[simp] theorem hB41 (t : Nat) : hint41.box t = ([] : List Nat).contains t := rfl
@[simp] theorem hD41 (t : Nat) : hint41.dies t = ([7, 9, 11] : List Nat).contains t := rfl
@[simp] theorem ow41 : (hints 41).own = none := rfl
theorem hh41 : hints 41 = hint41 := rfl
@[simp] theorem hS41 (t : Nat) : hint41.soft t = [] := rfl
@[simp] theorem hL41 (t : Nat) : hint41.lazy t = none := rfl
attribute [simp] keep42 head42
@[simp] theorem hK42 : hint42.keep = keep42 := rfl
@[simp] theorem hH42 : hint42.head = head42 := rfl
@[simp] theorem hB42 (t : Nat) : hint42.box t = ([] : List Nat).contains t := rfl
@[simp] theorem hD42 (t : Nat) : hint42.dies t = ([3] : List Nat).contains t := rfl
@[simp] theorem ow42 : (hints 42).own = none := rfl
theorem hh42 : hints 42 = hint42 := rfl
@[simp] theorem hS42 (t : Nat) : hint42.soft t = [] := rfl
@[simp] theorem hL42 (t : Nat) : hint42.lazy t = none := rfl
attribute [simp] keep43 head43
@[simp] theorem hK43 : hint43.keep = keep43 := rfl
@[simp] theorem hH43 : hint43.head = head43 := rfl
@[simp] theorem hB43 (t : Nat) : hint43.box t = ([] : List Nat).contains t := rfl
@[simp] theorem hD43 (t : Nat) : hint43.dies t = ([3] : List Nat).contains t := rfl
@[simp] theorem ow43 : (hints 43).own = none := rfl
theorem hh43 : hints 43 = hint43 := rfl
@[simp] theorem hS43 (t : Nat) : hint43.soft t = [] := rfl
@[simp] theorem hL43 (t : Nat) : hint43.lazy t = none := rfl
attribute [simp] keep44 head44
@[simp] theorem hK44 : hint44.keep = keep44 := rfl
@[simp] theorem hH44 : hint44.head = head44 := rfl
@[simp] theorem hB44 (t : Nat) : hint44.box t = ([] : List Nat).contains t := rfl
@[simp] theorem hD44 (t : Nat) : hint44.dies t = ([15, 17, 24, 29, 53] : List Nat).contains t := rfl
@[simp] theorem ow44 : (hints 44).own = none := rfl
theorem hh44 : hints 44 = hint44 := rfl
@[simp] theorem hS44 (t : Nat) : hint44.soft t = [] := rfl
@[simp] theorem hL44 (t : Nat) : hint44.lazy t = none := rfl
attribute [simp] free44 pairs44
@[simp] theorem hF44 : hint44.free = free44 := rfl
@[simp] theorem hP44 : hint44.pairs = pairs44 := rfl
attribute [simp] keep45 head45
@[simp] theorem hK45 : hint45.keep = keep45 := rfl
@[simp] theorem hH45 : hint45.head = head45 := rfl
@[simp] theorem hB45 (t : Nat) : hint45.box t = ([7, 8] : List Nat).contains t := rfl
@[simp] theorem hD45 (t : Nat) : hint45.dies t = ([13, 15, 22, 32, 33, 49] : List Nat).contains t := rfl
@[simp] theorem ow45 : (hints 45).own = none := rfl
theorem hh45 : hints 45 = hint45 := rfl
@[simp] theorem hS45 (t : Nat) : hint45.soft t = [] := rfl
@[simp] theorem hL45 (t : Nat) : hint45.lazy t = none := rfl
attribute [simp] free45 pairs45
@[simp] theorem hF45 : hint45.free = free45 := rfl
@[simp] theorem hP45 : hint45.pairs = pairs45 := rfl
attribute [simp] keep46 head46
@[simp] theorem hK46 : hint46.keep = keep46 := rfl
@[simp] theorem hH46 : hint46.head = head46 := rfl
@[simp] theorem hB46 (t : Nat) : hint46.box t = ([1, 5] : List Nat).contains t := rfl
@[simp] theorem hD46 (t : Nat) : hint46.dies t = ([9, 14, 15, 25] : List Nat).contains t := rfl
@[simp] theorem ow46 : (hints 46).own = none := rfl
theorem hh46 : hints 46 = hint46 := rfl
@[simp] theorem hS46 (t : Nat) : hint46.soft t = [] := rfl
@[simp] theorem hL46 (t : Nat) : hint46.lazy t = none := rfl
attribute [simp] keep47 head47
@[simp] theorem hK47 : hint47.keep = keep47 := rfl
@[simp] theorem hH47 : hint47.head = head47 := rfl
@[simp] theorem hB47 (t : Nat) : hint47.box t = ([] : List Nat).contains t := rfl
@[simp] theorem hD47 (t : Nat) : hint47.dies t = ([5] : List Nat).contains t := rfl
@[simp] theorem ow47 : (hints 47).own = none := rfl
theorem hh47 : hints 47 = hint47 := rfl
@[simp] theorem hS47 (t : Nat) : hint47.soft t = [] := rfl
@[simp] theorem hL47 (t : Nat) : hint47.lazy t = none := rfl
attribute [simp] keep48 head48
@[simp] theorem hK48 : hint48.keep = keep48 := rfl
@[simp] theorem hH48 : hint48.head = head48 := rfl
@[simp] theorem hB48 (t : Nat) : hint48.box t = ([] : List Nat).contains t := rfl
@[simp] theorem hD48 (t : Nat) : hint48.dies t = ([18, 19] : List Nat).contains t := rfl
@[simp] theorem ow48 : (hints 48).own = none := rfl
theorem hh48 : hints 48 = hint48 := rfl
@[simp] theorem hS48 (t : Nat) : hint48.soft t = [] := rfl
@[simp] theorem hL48 (t : Nat) : hint48.lazy t = none := rfl
attribute [simp] keep49 head49
@[simp] theorem hK49 : hint49.keep = keep49 := rfl
@[simp] theorem hH49 : hint49.head = head49 := rfl
@[simp] theorem hB49 (t : Nat) : hint49.box t = ([] : List Nat).contains t := rfl
@[simp] theorem hD49 (t : Nat) : hint49.dies t = ([3] : List Nat).contains t := rfl
@[simp] theorem ow49 : (hints 49).own = none := rfl
theorem hh49 : hints 49 = hint49 := rfl
@[simp] theorem hS49 (t : Nat) : hint49.soft t = [] := rfl
@[simp] theorem hL49 (t : Nat) : hint49.lazy t = none := rfl
attribute [simp] keep50 head50
@[simp] theorem hK50 : hint50.keep = keep50 := rfl
@[simp] theorem hH50 : hint50.head = head50 := rfl
@[simp] theorem hB50 (t : Nat) : hint50.box t = ([] : List Nat).contains t := rfl
@[simp] theorem hD50 (t : Nat) : hint50.dies t = ([5, 6] : List Nat).contains t := rfl
@[simp] theorem ow50 : (hints 50).own = none := rfl
theorem hh50 : hints 50 = hint50 := rfl
@[simp] theorem hS50 (t : Nat) : hint50.soft t = [] := rfl
@[simp] theorem hL50 (t : Nat) : hint50.lazy t = none := rfl
attribute [simp] keep51 head51
@[simp] theorem hK51 : hint51.keep = keep51 := rfl
@[simp] theorem hH51 : hint51.head = head51 := rfl
@[simp] theorem hB51 (t : Nat) : hint51.box t = ([] : List Nat).contains t := rfl
@[simp] theorem hD51 (t : Nat) : hint51.dies t = ([5] : List Nat).contains t := rfl
@[simp] theorem ow51 : (hints 51).own = none := rfl
theorem hh51 : hints 51 = hint51 := rfl
@[simp] theorem hS51 (t : Nat) : hint51.soft t = [] := rfl
@[simp] theorem hL51 (t : Nat) : hint51.lazy t = none := rfl
attribute [simp] keep52 head52
@[simp] theorem hK52 : hint52.keep = keep52 := rfl
@[simp] theorem hH52 : hint52.head = head52 := rfl
@[simp] theorem hB52 (t : Nat) : hint52.box t = ([2, 3] : List Nat).contains t := rfl
@[simp] theorem hD52 (t : Nat) : hint52.dies t = ([12, 29, 35, 52, 58, 89] : List Nat).contains t := rfl
@[simp] theorem ow52 : (hints 52).own = none := rfl
theorem hh52 : hints 52 = hint52 := rfl
@[simp] theorem hS52 (t : Nat) : hint52.soft t = [] := rfl
@[simp] theorem hL52 (t : Nat) : hint52.lazy t = none := rfl
attribute [simp] free52 pairs52
@[simp] theorem hF52 : hint52.free = free52 := rfl
@[simp] theorem hP52 : hint52.pairs = pairs52 := rfl
attribute [simp] keep53 head53
@[simp] theorem hK53 : hint53.keep = keep53 := rfl
@[simp] theorem hH53 : hint53.head = head53 := rfl
@[simp] theorem hB53 (t : Nat) : hint53.box t = ([] : List Nat).contains t := rfl
@[simp] theorem hD53 (t : Nat) : hint53.dies t = ([5, 18] : List Nat).contains t := rfl
@[simp] theorem ow53 : (hints 53).own = none := rfl
theorem hh53 : hints 53 = hint53 := rfl
@[simp] theorem hS53 (t : Nat) : hint53.soft t = [] := rfl
@[simp] theorem hL53 (t : Nat) : hint53.lazy t = none := rfl
attribute [simp] free53 pairs53
@[simp] theorem hF53 : hint53.free = free53 := rfl
@[simp] theorem hP53 : hint53.pairs = pairs53 := rfl
attribute [simp] keep54 head54
@[simp] theorem hK54 : hint54.keep = keep54 := rfl
@[simp] theorem hH54 : hint54.head = head54 := rfl
@[simp] theorem hB54 (t : Nat) : hint54.box t = ([1] : List Nat).contains t := rfl
@[simp] theorem hD54 (t : Nat) : hint54.dies t = ([6, 12, 18] : List Nat).contains t := rfl
@[simp] theorem ow54 : (hints 54).own = none := rfl
theorem hh54 : hints 54 = hint54 := rfl
@[simp] theorem hS54 (t : Nat) : hint54.soft t = [] := rfl
@[simp] theorem hL54 (t : Nat) : hint54.lazy t = none := rfl
attribute [simp] keep55 head55
@[simp] theorem hK55 : hint55.keep = keep55 := rfl
@[simp] theorem hH55 : hint55.head = head55 := rfl
@[simp] theorem hB55 (t : Nat) : hint55.box t = ([] : List Nat).contains t := rfl
@[simp] theorem hD55 (t : Nat) : hint55.dies t = ([9, 13, 14] : List Nat).contains t := rfl
@[simp] theorem ow55 : (hints 55).own = some 0 := rfl
theorem hh55 : hints 55 = hint55 := rfl
@[simp] theorem hS55 (t : Nat) : hint55.soft t = [] := rfl
@[simp] theorem hL55 (t : Nat) : hint55.lazy t = none := rfl
attribute [simp] keep56 head56
@[simp] theorem hK56 : hint56.keep = keep56 := rfl
@[simp] theorem hH56 : hint56.head = head56 := rfl
@[simp] theorem hB56 (t : Nat) : hint56.box t = ([] : List Nat).contains t := rfl
@[simp] theorem hD56 (t : Nat) : hint56.dies t = ([11, 15, 16, 23, 31, 42, 51, 60, 71, 75] : List Nat).contains t := rfl
@[simp] theorem ow56 : (hints 56).own = some 0 := rfl
theorem hh56 : hints 56 = hint56 := rfl
@[simp] theorem hS56 (t : Nat) : hint56.soft t = [] := rfl
@[simp] theorem hL56 (t : Nat) : hint56.lazy t = none := rfl
attribute [simp] free56 pairs56
@[simp] theorem hF56 : hint56.free = free56 := rfl
@[simp] theorem hP56 : hint56.pairs = pairs56 := rfl
attribute [simp] keep57 head57
@[simp] theorem hK57 : hint57.keep = keep57 := rfl
@[simp] theorem hH57 : hint57.head = head57 := rfl
@[simp] theorem hB57 (t : Nat) : hint57.box t = ([] : List Nat).contains t := rfl
@[simp] theorem hD57 (t : Nat) : hint57.dies t = ([9, 13, 14] : List Nat).contains t := rfl
@[simp] theorem ow57 : (hints 57).own = some 0 := rfl
theorem hh57 : hints 57 = hint57 := rfl
@[simp] theorem hS57 (t : Nat) : hint57.soft t = [] := rfl
@[simp] theorem hL57 (t : Nat) : hint57.lazy t = none := rfl
attribute [simp] keep58 head58
@[simp] theorem hK58 : hint58.keep = keep58 := rfl
@[simp] theorem hH58 : hint58.head = head58 := rfl
@[simp] theorem hB58 (t : Nat) : hint58.box t = ([] : List Nat).contains t := rfl
@[simp] theorem hD58 (t : Nat) : hint58.dies t = ([10, 11, 17, 18, 25] : List Nat).contains t := rfl
@[simp] theorem ow58 : (hints 58).own = some 0 := rfl
theorem hh58 : hints 58 = hint58 := rfl
@[simp] theorem hS58 (t : Nat) : hint58.soft t = [] := rfl
@[simp] theorem hL58 (t : Nat) : hint58.lazy t = none := rfl
attribute [simp] keep59 head59
@[simp] theorem hK59 : hint59.keep = keep59 := rfl
@[simp] theorem hH59 : hint59.head = head59 := rfl
@[simp] theorem hB59 (t : Nat) : hint59.box t = ([] : List Nat).contains t := rfl
@[simp] theorem hD59 (t : Nat) : hint59.dies t = ([11] : List Nat).contains t := rfl
@[simp] theorem ow59 : (hints 59).own = none := rfl
theorem hh59 : hints 59 = hint59 := rfl
@[simp] theorem hS59 (t : Nat) : hint59.soft t = [] := rfl
@[simp] theorem hL59 (t : Nat) : hint59.lazy t = none := rfl
attribute [simp] free59 pairs59
@[simp] theorem hF59 : hint59.free = free59 := rfl
@[simp] theorem hP59 : hint59.pairs = pairs59 := rfl
attribute [simp] keep60 head60
@[simp] theorem hK60 : hint60.keep = keep60 := rfl
@[simp] theorem hH60 : hint60.head = head60 := rfl
@[simp] theorem hB60 (t : Nat) : hint60.box t = ([2, 7] : List Nat).contains t := rfl
@[simp] theorem hD60 (t : Nat) : hint60.dies t = ([13, 21, 26, 35] : List Nat).contains t := rfl
@[simp] theorem ow60 : (hints 60).own = none := rfl
theorem hh60 : hints 60 = hint60 := rfl
@[simp] theorem hS60 (t : Nat) : hint60.soft t = [] := rfl
@[simp] theorem hL60 (t : Nat) : hint60.lazy t = none := rfl
attribute [simp] keep61 head61
@[simp] theorem hK61 : hint61.keep = keep61 := rfl
@[simp] theorem hH61 : hint61.head = head61 := rfl
@[simp] theorem hB61 (t : Nat) : hint61.box t = ([] : List Nat).contains t := rfl
@[simp] theorem hD61 (t : Nat) : hint61.dies t = ([7, 11, 18, 27, 29] : List Nat).contains t := rfl
@[simp] theorem ow61 : (hints 61).own = none := rfl
theorem hh61 : hints 61 = hint61 := rfl
@[simp] theorem hS61 (t : Nat) : hint61.soft t = [] := rfl
@[simp] theorem hL61 (t : Nat) : hint61.lazy t = none := rfl
attribute [simp] keep62 head62
@[simp] theorem hK62 : hint62.keep = keep62 := rfl
@[simp] theorem hH62 : hint62.head = head62 := rfl
@[simp] theorem hB62 (t : Nat) : hint62.box t = ([] : List Nat).contains t := rfl
@[simp] theorem hD62 (t : Nat) : hint62.dies t = ([7, 10, 12, 17] : List Nat).contains t := rfl
@[simp] theorem ow62 : (hints 62).own = none := rfl
theorem hh62 : hints 62 = hint62 := rfl
@[simp] theorem hS62 (t : Nat) : hint62.soft t = [] := rfl
@[simp] theorem hL62 (t : Nat) : hint62.lazy t = none := rfl
attribute [simp] keep63 head63
@[simp] theorem hK63 : hint63.keep = keep63 := rfl
@[simp] theorem hH63 : hint63.head = head63 := rfl
@[simp] theorem hB63 (t : Nat) : hint63.box t = ([] : List Nat).contains t := rfl
@[simp] theorem hD63 (t : Nat) : hint63.dies t = ([3] : List Nat).contains t := rfl
@[simp] theorem ow63 : (hints 63).own = none := rfl
theorem hh63 : hints 63 = hint63 := rfl
@[simp] theorem hS63 (t : Nat) : hint63.soft t = [] := rfl
@[simp] theorem hL63 (t : Nat) : hint63.lazy t = none := rfl
attribute [simp] keep64 head64
@[simp] theorem hK64 : hint64.keep = keep64 := rfl
@[simp] theorem hH64 : hint64.head = head64 := rfl
@[simp] theorem hB64 (t : Nat) : hint64.box t = ([] : List Nat).contains t := rfl
@[simp] theorem hD64 (t : Nat) : hint64.dies t = ([3] : List Nat).contains t := rfl
@[simp] theorem ow64 : (hints 64).own = none := rfl
theorem hh64 : hints 64 = hint64 := rfl
@[simp] theorem hS64 (t : Nat) : hint64.soft t = [] := rfl
@[simp] theorem hL64 (t : Nat) : hint64.lazy t = none := rfl
attribute [simp] keep65 head65
@[simp] theorem hK65 : hint65.keep = keep65 := rfl
@[simp] theorem hH65 : hint65.head = head65 := rfl
@[simp] theorem hB65 (t : Nat) : hint65.box t = ([] : List Nat).contains t := rfl
@[simp] theorem hD65 (t : Nat) : hint65.dies t = ([11, 15, 17, 24] : List Nat).contains t := rfl
@[simp] theorem ow65 : (hints 65).own = none := rfl
theorem hh65 : hints 65 = hint65 := rfl
@[simp] theorem hS65 (t : Nat) : hint65.soft t = [] := rfl
@[simp] theorem hL65 (t : Nat) : hint65.lazy t = none := rfl
attribute [simp] keep66 head66
@[simp] theorem hK66 : hint66.keep = keep66 := rfl
@[simp] theorem hH66 : hint66.head = head66 := rfl
@[simp] theorem hB66 (t : Nat) : hint66.box t = ([1] : List Nat).contains t := rfl
@[simp] theorem hD66 (t : Nat) : hint66.dies t = ([6, 11, 16, 28, 33, 47, 52, 57, 62, 67, 72, 77, 85, 90, 95] : List Nat).contains t := rfl
@[simp] theorem ow66 : (hints 66).own = none := rfl
theorem hh66 : hints 66 = hint66 := rfl
@[simp] theorem hS66 (t : Nat) : hint66.soft t = [] := rfl
@[simp] theorem hL66 (t : Nat) : hint66.lazy t = none := rfl
attribute [simp] free66 pairs66
@[simp] theorem hF66 : hint66.free = free66 := rfl
@[simp] theorem hP66 : hint66.pairs = pairs66 := rfl
attribute [simp] keep67 head67
@[simp] theorem hK67 : hint67.keep = keep67 := rfl
@[simp] theorem hH67 : hint67.head = head67 := rfl
@[simp] theorem hB67 (t : Nat) : hint67.box t = ([] : List Nat).contains t := rfl
@[simp] theorem hD67 (t : Nat) : hint67.dies t = ([10, 11, 15, 16] : List Nat).contains t := rfl
@[simp] theorem ow67 : (hints 67).own = none := rfl
theorem hh67 : hints 67 = hint67 := rfl
@[simp] theorem hS67 (t : Nat) : hint67.soft t = [] := rfl
@[simp] theorem hL67 (t : Nat) : hint67.lazy t = none := rfl
attribute [simp] keep68 head68
@[simp] theorem hK68 : hint68.keep = keep68 := rfl
@[simp] theorem hH68 : hint68.head = head68 := rfl
@[simp] theorem hB68 (t : Nat) : hint68.box t = ([2, 3] : List Nat).contains t := rfl
@[simp] theorem hD68 (t : Nat) : hint68.dies t = ([8, 16, 21, 28] : List Nat).contains t := rfl
@[simp] theorem ow68 : (hints 68).own = none := rfl
theorem hh68 : hints 68 = hint68 := rfl
@[simp] theorem hS68 (t : Nat) : hint68.soft t = [] := rfl
@[simp] theorem hL68 (t : Nat) : hint68.lazy t = none := rfl
attribute [simp] keep69 head69
@[simp] theorem hK69 : hint69.keep = keep69 := rfl
@[simp] theorem hH69 : hint69.head = head69 := rfl
@[simp] theorem hB69 (t : Nat) : hint69.box t = ([2, 3] : List Nat).contains t := rfl
@[simp] theorem hD69 (t : Nat) : hint69.dies t = ([7, 11, 16] : List Nat).contains t := rfl
@[simp] theorem ow69 : (hints 69).own = none := rfl
theorem hh69 : hints 69 = hint69 := rfl
@[simp] theorem hS69 (t : Nat) : hint69.soft t = [] := rfl
@[simp] theorem hL69 (t : Nat) : hint69.lazy t = none := rfl
attribute [simp] keep70 head70
@[simp] theorem hK70 : hint70.keep = keep70 := rfl
@[simp] theorem hH70 : hint70.head = head70 := rfl
@[simp] theorem hB70 (t : Nat) : hint70.box t = ([2, 3] : List Nat).contains t := rfl
@[simp] theorem hD70 (t : Nat) : hint70.dies t = ([8, 16, 21, 28, 35] : List Nat).contains t := rfl
@[simp] theorem ow70 : (hints 70).own = none := rfl
theorem hh70 : hints 70 = hint70 := rfl
@[simp] theorem hS70 (t : Nat) : hint70.soft t = [] := rfl
@[simp] theorem hL70 (t : Nat) : hint70.lazy t = none := rfl
attribute [simp] keep71 head71
@[simp] theorem hK71 : hint71.keep = keep71 := rfl
@[simp] theorem hH71 : hint71.head = head71 := rfl
@[simp] theorem hB71 (t : Nat) : hint71.box t = ([2] : List Nat).contains t := rfl
@[simp] theorem hD71 (t : Nat) : hint71.dies t = ([12, 16, 26, 36, 52] : List Nat).contains t := rfl
@[simp] theorem ow71 : (hints 71).own = none := rfl
theorem hh71 : hints 71 = hint71 := rfl
@[simp] theorem hS71 (t : Nat) : hint71.soft t = [] := rfl
@[simp] theorem hL71 (t : Nat) : hint71.lazy t = none := rfl
attribute [simp] free71 pairs71
@[simp] theorem hF71 : hint71.free = free71 := rfl
@[simp] theorem hP71 : hint71.pairs = pairs71 := rfl
attribute [simp] keep72 head72
@[simp] theorem hK72 : hint72.keep = keep72 := rfl
@[simp] theorem hH72 : hint72.head = head72 := rfl
@[simp] theorem hB72 (t : Nat) : hint72.box t = ([] : List Nat).contains t := rfl
@[simp] theorem hD72 (t : Nat) : hint72.dies t = ([6, 11, 12, 14] : List Nat).contains t := rfl
@[simp] theorem ow72 : (hints 72).own = none := rfl
theorem hh72 : hints 72 = hint72 := rfl
@[simp] theorem hS72 (t : Nat) : hint72.soft t = [] := rfl
@[simp] theorem hL72 (t : Nat) : hint72.lazy t = none := rfl
attribute [simp] keep73 head73
@[simp] theorem hK73 : hint73.keep = keep73 := rfl
@[simp] theorem hH73 : hint73.head = head73 := rfl
@[simp] theorem hB73 (t : Nat) : hint73.box t = ([] : List Nat).contains t := rfl
@[simp] theorem hD73 (t : Nat) : hint73.dies t = ([5, 6] : List Nat).contains t := rfl
@[simp] theorem ow73 : (hints 73).own = none := rfl
theorem hh73 : hints 73 = hint73 := rfl
@[simp] theorem hS73 (t : Nat) : hint73.soft t = [] := rfl
@[simp] theorem hL73 (t : Nat) : hint73.lazy t = none := rfl
attribute [simp] keep74 head74
@[simp] theorem hK74 : hint74.keep = keep74 := rfl
@[simp] theorem hH74 : hint74.head = head74 := rfl
@[simp] theorem hB74 (t : Nat) : hint74.box t = ([2] : List Nat).contains t := rfl
@[simp] theorem hD74 (t : Nat) : hint74.dies t = ([7, 10] : List Nat).contains t := rfl
@[simp] theorem ow74 : (hints 74).own = none := rfl
theorem hh74 : hints 74 = hint74 := rfl
@[simp] theorem hS74 (t : Nat) : hint74.soft t = [] := rfl
@[simp] theorem hL74 (t : Nat) : hint74.lazy t = none := rfl
attribute [simp] keep75 head75
@[simp] theorem hK75 : hint75.keep = keep75 := rfl
@[simp] theorem hH75 : hint75.head = head75 := rfl
@[simp] theorem hB75 (t : Nat) : hint75.box t = ([1, 2] : List Nat).contains t := rfl
@[simp] theorem hD75 (t : Nat) : hint75.dies t = ([] : List Nat).contains t := rfl
@[simp] theorem ow75 : (hints 75).own = none := rfl
theorem hh75 : hints 75 = hint75 := rfl
@[simp] theorem hS75 (t : Nat) : hint75.soft t = [] := rfl
@[simp] theorem hL75 (t : Nat) : hint75.lazy t = none := rfl
attribute [simp] keep76 head76
@[simp] theorem hK76 : hint76.keep = keep76 := rfl
@[simp] theorem hH76 : hint76.head = head76 := rfl
@[simp] theorem hB76 (t : Nat) : hint76.box t = ([] : List Nat).contains t := rfl
@[simp] theorem hD76 (t : Nat) : hint76.dies t = ([5, 6] : List Nat).contains t := rfl
@[simp] theorem ow76 : (hints 76).own = none := rfl
theorem hh76 : hints 76 = hint76 := rfl
@[simp] theorem hS76 (t : Nat) : hint76.soft t = [] := rfl
@[simp] theorem hL76 (t : Nat) : hint76.lazy t = none := rfl
attribute [simp] keep77 head77
@[simp] theorem hK77 : hint77.keep = keep77 := rfl
@[simp] theorem hH77 : hint77.head = head77 := rfl
@[simp] theorem hB77 (t : Nat) : hint77.box t = ([2, 4] : List Nat).contains t := rfl
@[simp] theorem hD77 (t : Nat) : hint77.dies t = ([6, 14] : List Nat).contains t := rfl
@[simp] theorem ow77 : (hints 77).own = none := rfl
theorem hh77 : hints 77 = hint77 := rfl
@[simp] theorem hS77 (t : Nat) : hint77.soft t = [] := rfl
@[simp] theorem hL77 (t : Nat) : hint77.lazy t = none := rfl
attribute [simp] free77 pairs77
@[simp] theorem hF77 : hint77.free = free77 := rfl
@[simp] theorem hP77 : hint77.pairs = pairs77 := rfl
attribute [simp] keep78 head78
@[simp] theorem hK78 : hint78.keep = keep78 := rfl
@[simp] theorem hH78 : hint78.head = head78 := rfl
@[simp] theorem hB78 (t : Nat) : hint78.box t = ([2, 3, 4, 6] : List Nat).contains t := rfl
@[simp] theorem hD78 (t : Nat) : hint78.dies t = ([10] : List Nat).contains t := rfl
@[simp] theorem ow78 : (hints 78).own = none := rfl
theorem hh78 : hints 78 = hint78 := rfl
@[simp] theorem hS78 (t : Nat) : hint78.soft t = [] := rfl
@[simp] theorem hL78 (t : Nat) : hint78.lazy t = none := rfl
attribute [simp] keep79 head79
@[simp] theorem hK79 : hint79.keep = keep79 := rfl
@[simp] theorem hH79 : hint79.head = head79 := rfl
@[simp] theorem hB79 (t : Nat) : hint79.box t = ([1] : List Nat).contains t := rfl
@[simp] theorem hD79 (t : Nat) : hint79.dies t = ([6, 11, 16, 21, 26] : List Nat).contains t := rfl
@[simp] theorem ow79 : (hints 79).own = none := rfl
theorem hh79 : hints 79 = hint79 := rfl
@[simp] theorem hS79 (t : Nat) : hint79.soft t = [] := rfl
@[simp] theorem hL79 (t : Nat) : hint79.lazy t = none := rfl
attribute [simp] keep80 head80
@[simp] theorem hK80 : hint80.keep = keep80 := rfl
@[simp] theorem hH80 : hint80.head = head80 := rfl
@[simp] theorem hB80 (t : Nat) : hint80.box t = ([1, 2] : List Nat).contains t := rfl
@[simp] theorem hD80 (t : Nat) : hint80.dies t = ([] : List Nat).contains t := rfl
@[simp] theorem ow80 : (hints 80).own = none := rfl
theorem hh80 : hints 80 = hint80 := rfl
@[simp] theorem hS80 (t : Nat) : hint80.soft t = [] := rfl
@[simp] theorem hL80 (t : Nat) : hint80.lazy t = none := rfl
attribute [simp] keep81 head81
@[simp] theorem hK81 : hint81.keep = keep81 := rfl
@[simp] theorem hH81 : hint81.head = head81 := rfl
@[simp] theorem hB81 (t : Nat) : hint81.box t = ([] : List Nat).contains t := rfl
@[simp] theorem hD81 (t : Nat) : hint81.dies t = ([5, 10, 12, 13] : List Nat).contains t := rfl
@[simp] theorem ow81 : (hints 81).own = none := rfl
theorem hh81 : hints 81 = hint81 := rfl
@[simp] theorem hS81 (t : Nat) : hint81.soft t = [] := rfl
@[simp] theorem hL81 (t : Nat) : hint81.lazy t = none := rfl
attribute [simp] keep82 head82
@[simp] theorem hK82 : hint82.keep = keep82 := rfl
@[simp] theorem hH82 : hint82.head = head82 := rfl
@[simp] theorem hB82 (t : Nat) : hint82.box t = ([] : List Nat).contains t := rfl
@[simp] theorem hD82 (t : Nat) : hint82.dies t = ([9, 20, 37, 56, 60, 64] : List Nat).contains t := rfl
@[simp] theorem ow82 : (hints 82).own = none := rfl
theorem hh82 : hints 82 = hint82 := rfl
@[simp] theorem hS82 (t : Nat) : hint82.soft t = [] := rfl
@[simp] theorem hL82 (t : Nat) : hint82.lazy t = none := rfl
attribute [simp] free82 pairs82
@[simp] theorem hF82 : hint82.free = free82 := rfl
@[simp] theorem hP82 : hint82.pairs = pairs82 := rfl
attribute [simp] keep83 head83
@[simp] theorem hK83 : hint83.keep = keep83 := rfl
@[simp] theorem hH83 : hint83.head = head83 := rfl
@[simp] theorem hB83 (t : Nat) : hint83.box t = ([] : List Nat).contains t := rfl
@[simp] theorem hD83 (t : Nat) : hint83.dies t = ([4, 11] : List Nat).contains t := rfl
@[simp] theorem ow83 : (hints 83).own = none := rfl
theorem hh83 : hints 83 = hint83 := rfl
@[simp] theorem hS83 (t : Nat) : hint83.soft t = [] := rfl
@[simp] theorem hL83 (t : Nat) : hint83.lazy t = none := rfl
attribute [simp] free83 pairs83
@[simp] theorem hF83 : hint83.free = free83 := rfl
@[simp] theorem hP83 : hint83.pairs = pairs83 := rfl
attribute [simp] keep84 head84
@[simp] theorem hK84 : hint84.keep = keep84 := rfl
@[simp] theorem hH84 : hint84.head = head84 := rfl
@[simp] theorem hB84 (t : Nat) : hint84.box t = ([] : List Nat).contains t := rfl
@[simp] theorem hD84 (t : Nat) : hint84.dies t = ([4, 8] : List Nat).contains t := rfl
@[simp] theorem ow84 : (hints 84).own = none := rfl
theorem hh84 : hints 84 = hint84 := rfl
@[simp] theorem hS84 (t : Nat) : hint84.soft t = [] := rfl
@[simp] theorem hL84 (t : Nat) : hint84.lazy t = none := rfl
attribute [simp] keep85 head85
@[simp] theorem hK85 : hint85.keep = keep85 := rfl
@[simp] theorem hH85 : hint85.head = head85 := rfl
@[simp] theorem hB85 (t : Nat) : hint85.box t = ([] : List Nat).contains t := rfl
@[simp] theorem hD85 (t : Nat) : hint85.dies t = ([8, 10, 11, 12] : List Nat).contains t := rfl
@[simp] theorem ow85 : (hints 85).own = none := rfl
theorem hh85 : hints 85 = hint85 := rfl
@[simp] theorem hS85 (t : Nat) : hint85.soft t = [] := rfl
@[simp] theorem hL85 (t : Nat) : hint85.lazy t = none := rfl
attribute [simp] keep86 head86
@[simp] theorem hK86 : hint86.keep = keep86 := rfl
@[simp] theorem hH86 : hint86.head = head86 := rfl
@[simp] theorem hB86 (t : Nat) : hint86.box t = ([] : List Nat).contains t := rfl
@[simp] theorem hD86 (t : Nat) : hint86.dies t = ([7] : List Nat).contains t := rfl
@[simp] theorem ow86 : (hints 86).own = none := rfl
theorem hh86 : hints 86 = hint86 := rfl
@[simp] theorem hS86 (t : Nat) : hint86.soft t = [] := rfl
@[simp] theorem hL86 (t : Nat) : hint86.lazy t = none := rfl
attribute [simp] free86 pairs86
@[simp] theorem hF86 : hint86.free = free86 := rfl
@[simp] theorem hP86 : hint86.pairs = pairs86 := rfl
attribute [simp] keep87 head87
@[simp] theorem hK87 : hint87.keep = keep87 := rfl
@[simp] theorem hH87 : hint87.head = head87 := rfl
@[simp] theorem hB87 (t : Nat) : hint87.box t = ([2, 3] : List Nat).contains t := rfl
@[simp] theorem hD87 (t : Nat) : hint87.dies t = ([11, 21] : List Nat).contains t := rfl
@[simp] theorem ow87 : (hints 87).own = none := rfl
theorem hh87 : hints 87 = hint87 := rfl
@[simp] theorem hS87 (t : Nat) : hint87.soft t = [] := rfl
@[simp] theorem hL87 (t : Nat) : hint87.lazy t = none := rfl
attribute [simp] keep88 head88
@[simp] theorem hK88 : hint88.keep = keep88 := rfl
@[simp] theorem hH88 : hint88.head = head88 := rfl
@[simp] theorem hB88 (t : Nat) : hint88.box t = ([] : List Nat).contains t := rfl
@[simp] theorem hD88 (t : Nat) : hint88.dies t = ([12] : List Nat).contains t := rfl
@[simp] theorem ow88 : (hints 88).own = none := rfl
theorem hh88 : hints 88 = hint88 := rfl
@[simp] theorem hS88 (t : Nat) : hint88.soft t = [] := rfl
@[simp] theorem hL88 (t : Nat) : hint88.lazy t = none := rfl
attribute [simp] keep89 head89
@[simp] theorem hK89 : hint89.keep = keep89 := rfl
@[simp] theorem hH89 : hint89.head = head89 := rfl
@[simp] theorem hB89 (t : Nat) : hint89.box t = ([2, 4] : List Nat).contains t := rfl
@[simp] theorem hD89 (t : Nat) : hint89.dies t = ([6, 20] : List Nat).contains t := rfl
@[simp] theorem ow89 : (hints 89).own = none := rfl
theorem hh89 : hints 89 = hint89 := rfl
@[simp] theorem hS89 (t : Nat) : hint89.soft t = [] := rfl
@[simp] theorem hL89 (t : Nat) : hint89.lazy t = none := rfl
attribute [simp] keep90 head90
@[simp] theorem hK90 : hint90.keep = keep90 := rfl
@[simp] theorem hH90 : hint90.head = head90 := rfl
@[simp] theorem hB90 (t : Nat) : hint90.box t = ([] : List Nat).contains t := rfl
@[simp] theorem hD90 (t : Nat) : hint90.dies t = ([7] : List Nat).contains t := rfl
@[simp] theorem ow90 : (hints 90).own = none := rfl
theorem hh90 : hints 90 = hint90 := rfl
@[simp] theorem hS90 (t : Nat) : hint90.soft t = [] := rfl
@[simp] theorem hL90 (t : Nat) : hint90.lazy t = none := rfl
attribute [simp] free90 pairs90
@[simp] theorem hF90 : hint90.free = free90 := rfl
@[simp] theorem hP90 : hint90.pairs = pairs90 := rfl
attribute [simp] keep91 head91
@[simp] theorem hK91 : hint91.keep = keep91 := rfl
@[simp] theorem hH91 : hint91.head = head91 := rfl
@[simp] theorem hB91 (t : Nat) : hint91.box t = ([2, 3] : List Nat).contains t := rfl
@[simp] theorem hD91 (t : Nat) : hint91.dies t = ([11] : List Nat).contains t := rfl
@[simp] theorem ow91 : (hints 91).own = none := rfl
theorem hh91 : hints 91 = hint91 := rfl
@[simp] theorem hS91 (t : Nat) : hint91.soft t = [] := rfl
@[simp] theorem hL91 (t : Nat) : hint91.lazy t = none := rfl
attribute [simp] keep92 head92
@[simp] theorem hK92 : hint92.keep = keep92 := rfl
@[simp] theorem hH92 : hint92.head = head92 := rfl
@[simp] theorem hB92 (t : Nat) : hint92.box t = ([] : List Nat).contains t := rfl
@[simp] theorem hD92 (t : Nat) : hint92.dies t = ([12] : List Nat).contains t := rfl
@[simp] theorem ow92 : (hints 92).own = none := rfl
theorem hh92 : hints 92 = hint92 := rfl
@[simp] theorem hS92 (t : Nat) : hint92.soft t = [] := rfl
@[simp] theorem hL92 (t : Nat) : hint92.lazy t = none := rfl
attribute [simp] keep93 head93
@[simp] theorem hK93 : hint93.keep = keep93 := rfl
@[simp] theorem hH93 : hint93.head = head93 := rfl
@[simp] theorem hB93 (t : Nat) : hint93.box t = ([] : List Nat).contains t := rfl
@[simp] theorem hD93 (t : Nat) : hint93.dies t = ([5, 6] : List Nat).contains t := rfl
@[simp] theorem ow93 : (hints 93).own = none := rfl
theorem hh93 : hints 93 = hint93 := rfl
@[simp] theorem hS93 (t : Nat) : hint93.soft t = [] := rfl
@[simp] theorem hL93 (t : Nat) : hint93.lazy t = none := rfl
attribute [simp] keep94 head94
@[simp] theorem hK94 : hint94.keep = keep94 := rfl
@[simp] theorem hH94 : hint94.head = head94 := rfl
@[simp] theorem hB94 (t : Nat) : hint94.box t = ([2, 4] : List Nat).contains t := rfl
@[simp] theorem hD94 (t : Nat) : hint94.dies t = ([6, 20, 21] : List Nat).contains t := rfl
@[simp] theorem ow94 : (hints 94).own = none := rfl
theorem hh94 : hints 94 = hint94 := rfl
@[simp] theorem hS94 (t : Nat) : hint94.soft t = [] := rfl
@[simp] theorem hL94 (t : Nat) : hint94.lazy t = none := rfl
attribute [simp] keep95 head95
@[simp] theorem hK95 : hint95.keep = keep95 := rfl
@[simp] theorem hH95 : hint95.head = head95 := rfl
@[simp] theorem hB95 (t : Nat) : hint95.box t = ([2] : List Nat).contains t := rfl
@[simp] theorem hD95 (t : Nat) : hint95.dies t = ([] : List Nat).contains t := rfl
@[simp] theorem ow95 : (hints 95).own = none := rfl
theorem hh95 : hints 95 = hint95 := rfl
@[simp] theorem hS95 (t : Nat) : hint95.soft t = [] := rfl
@[simp] theorem hL95 (t : Nat) : hint95.lazy t = none := rfl
attribute [simp] keep96 head96
@[simp] theorem hK96 : hint96.keep = keep96 := rfl
@[simp] theorem hH96 : hint96.head = head96 := rfl
@[simp] theorem hB96 (t : Nat) : hint96.box t = ([] : List Nat).contains t := rfl
@[simp] theorem hD96 (t : Nat) : hint96.dies t = ([8, 17] : List Nat).contains t := rfl
@[simp] theorem ow96 : (hints 96).own = none := rfl
theorem hh96 : hints 96 = hint96 := rfl
@[simp] theorem hS96 (t : Nat) : hint96.soft t = [] := rfl
@[simp] theorem hL96 (t : Nat) : hint96.lazy t = none := rfl
attribute [simp] keep97 head97
@[simp] theorem hK97 : hint97.keep = keep97 := rfl
@[simp] theorem hH97 : hint97.head = head97 := rfl
@[simp] theorem hB97 (t : Nat) : hint97.box t = ([1] : List Nat).contains t := rfl
@[simp] theorem hD97 (t : Nat) : hint97.dies t = ([] : List Nat).contains t := rfl
@[simp] theorem ow97 : (hints 97).own = none := rfl
theorem hh97 : hints 97 = hint97 := rfl
@[simp] theorem hS97 (t : Nat) : hint97.soft t = [] := rfl
@[simp] theorem hL97 (t : Nat) : hint97.lazy t = none := rfl
attribute [simp] keep98 head98
@[simp] theorem hK98 : hint98.keep = keep98 := rfl
@[simp] theorem hH98 : hint98.head = head98 := rfl
@[simp] theorem hB98 (t : Nat) : hint98.box t = ([] : List Nat).contains t := rfl
@[simp] theorem hD98 (t : Nat) : hint98.dies t = ([6] : List Nat).contains t := rfl
@[simp] theorem ow98 : (hints 98).own = none := rfl
theorem hh98 : hints 98 = hint98 := rfl
@[simp] theorem hS98 (t : Nat) : hint98.soft t = [] := rfl
@[simp] theorem hL98 (t : Nat) : hint98.lazy t = none := rfl
attribute [simp] keep99 head99
@[simp] theorem hK99 : hint99.keep = keep99 := rfl
@[simp] theorem hH99 : hint99.head = head99 := rfl
@[simp] theorem hB99 (t : Nat) : hint99.box t = ([1] : List Nat).contains t := rfl
@[simp] theorem hD99 (t : Nat) : hint99.dies t = ([8, 22, 39, 50, 59] : List Nat).contains t := rfl
@[simp] theorem ow99 : (hints 99).own = none := rfl
theorem hh99 : hints 99 = hint99 := rfl
@[simp] theorem hS99 (t : Nat) : hint99.soft t = [] := rfl
@[simp] theorem hL99 (t : Nat) : hint99.lazy t = none := rfl
attribute [simp] free99 pairs99
@[simp] theorem hF99 : hint99.free = free99 := rfl
@[simp] theorem hP99 : hint99.pairs = pairs99 := rfl
attribute [simp] keep100 head100
@[simp] theorem hK100 : hint100.keep = keep100 := rfl
@[simp] theorem hH100 : hint100.head = head100 := rfl
@[simp] theorem hB100 (t : Nat) : hint100.box t = ([] : List Nat).contains t := rfl
@[simp] theorem hD100 (t : Nat) : hint100.dies t = ([12, 15] : List Nat).contains t := rfl
@[simp] theorem ow100 : (hints 100).own = none := rfl
theorem hh100 : hints 100 = hint100 := rfl
@[simp] theorem hS100 (t : Nat) : hint100.soft t = [] := rfl
@[simp] theorem hL100 (t : Nat) : hint100.lazy t = none := rfl
attribute [simp] keep101 head101
@[simp] theorem hK101 : hint101.keep = keep101 := rfl
@[simp] theorem hH101 : hint101.head = head101 := rfl
@[simp] theorem hB101 (t : Nat) : hint101.box t = ([] : List Nat).contains t := rfl
@[simp] theorem hD101 (t : Nat) : hint101.dies t = ([5, 6] : List Nat).contains t := rfl
@[simp] theorem ow101 : (hints 101).own = none := rfl
theorem hh101 : hints 101 = hint101 := rfl
@[simp] theorem hS101 (t : Nat) : hint101.soft t = [] := rfl
@[simp] theorem hL101 (t : Nat) : hint101.lazy t = none := rfl
attribute [simp] keep102 head102
@[simp] theorem hK102 : hint102.keep = keep102 := rfl
@[simp] theorem hH102 : hint102.head = head102 := rfl
@[simp] theorem hB102 (t : Nat) : hint102.box t = ([2] : List Nat).contains t := rfl
@[simp] theorem hD102 (t : Nat) : hint102.dies t = ([6] : List Nat).contains t := rfl
@[simp] theorem ow102 : (hints 102).own = none := rfl
theorem hh102 : hints 102 = hint102 := rfl
@[simp] theorem hS102 (t : Nat) : hint102.soft t = [] := rfl
@[simp] theorem hL102 (t : Nat) : hint102.lazy t = none := rfl
attribute [simp] keep103 head103
@[simp] theorem hK103 : hint103.keep = keep103 := rfl
@[simp] theorem hH103 : hint103.head = head103 := rfl
@[simp] theorem hB103 (t : Nat) : hint103.box t = ([2, 3, 5, 7] : List Nat).contains t := rfl
@[simp] theorem hD103 (t : Nat) : hint103.dies t = ([9, 23, 42, 49, 50, 52, 53] : List Nat).contains t := rfl
@[simp] theorem ow103 : (hints 103).own = none := rfl
theorem hh103 : hints 103 = hint103 := rfl
@[simp] theorem hS103 (t : Nat) : hint103.soft t = [] := rfl
@[simp] theorem hL103 (t : Nat) : hint103.lazy t = none := rfl
attribute [simp] free103 pairs103
@[simp] theorem hF103 : hint103.free = free103 := rfl
@[simp] theorem hP103 : hint103.pairs = pairs103 := rfl
attribute [simp] keep104 head104
@[simp] theorem hK104 : hint104.keep = keep104 := rfl
@[simp] theorem hH104 : hint104.head = head104 := rfl
@[simp] theorem hB104 (t : Nat) : hint104.box t = ([] : List Nat).contains t := rfl
@[simp] theorem hD104 (t : Nat) : hint104.dies t = ([9, 10] : List Nat).contains t := rfl
@[simp] theorem ow104 : (hints 104).own = none := rfl
theorem hh104 : hints 104 = hint104 := rfl
@[simp] theorem hS104 (t : Nat) : hint104.soft t = [] := rfl
@[simp] theorem hL104 (t : Nat) : hint104.lazy t = none := rfl
attribute [simp] keep105 head105
@[simp] theorem hK105 : hint105.keep = keep105 := rfl
@[simp] theorem hH105 : hint105.head = head105 := rfl
@[simp] theorem hB105 (t : Nat) : hint105.box t = ([] : List Nat).contains t := rfl
@[simp] theorem hD105 (t : Nat) : hint105.dies t = ([6, 8, 12, 16, 19, 21, 24] : List Nat).contains t := rfl
@[simp] theorem ow105 : (hints 105).own = none := rfl
theorem hh105 : hints 105 = hint105 := rfl
@[simp] theorem hS105 (t : Nat) : hint105.soft t = [] := rfl
@[simp] theorem hL105 (t : Nat) : hint105.lazy t = none := rfl
attribute [simp] keep106 head106
@[simp] theorem hK106 : hint106.keep = keep106 := rfl
@[simp] theorem hH106 : hint106.head = head106 := rfl
@[simp] theorem hB106 (t : Nat) : hint106.box t = ([] : List Nat).contains t := rfl
@[simp] theorem hD106 (t : Nat) : hint106.dies t = ([8, 11, 12, 14, 16] : List Nat).contains t := rfl
@[simp] theorem ow106 : (hints 106).own = none := rfl
theorem hh106 : hints 106 = hint106 := rfl
@[simp] theorem hS106 (t : Nat) : hint106.soft t = [] := rfl
@[simp] theorem hL106 (t : Nat) : hint106.lazy t = none := rfl
attribute [simp] keep107 head107
@[simp] theorem hK107 : hint107.keep = keep107 := rfl
@[simp] theorem hH107 : hint107.head = head107 := rfl
@[simp] theorem hB107 (t : Nat) : hint107.box t = ([] : List Nat).contains t := rfl
@[simp] theorem hD107 (t : Nat) : hint107.dies t = ([7, 12, 14, 16] : List Nat).contains t := rfl
@[simp] theorem ow107 : (hints 107).own = none := rfl
theorem hh107 : hints 107 = hint107 := rfl
@[simp] theorem hS107 (t : Nat) : hint107.soft t = [] := rfl
@[simp] theorem hL107 (t : Nat) : hint107.lazy t = none := rfl
attribute [simp] keep108 head108
@[simp] theorem hK108 : hint108.keep = keep108 := rfl
@[simp] theorem hH108 : hint108.head = head108 := rfl
@[simp] theorem hB108 (t : Nat) : hint108.box t = ([] : List Nat).contains t := rfl
@[simp] theorem hD108 (t : Nat) : hint108.dies t = ([5, 9, 13, 17, 21] : List Nat).contains t := rfl
@[simp] theorem ow108 : (hints 108).own = none := rfl
theorem hh108 : hints 108 = hint108 := rfl
@[simp] theorem hS108 (t : Nat) : hint108.soft t = [] := rfl
@[simp] theorem hL108 (t : Nat) : hint108.lazy t = none := rfl
attribute [simp] keep109 head109
@[simp] theorem hK109 : hint109.keep = keep109 := rfl
@[simp] theorem hH109 : hint109.head = head109 := rfl
@[simp] theorem hB109 (t : Nat) : hint109.box t = ([1] : List Nat).contains t := rfl
@[simp] theorem hD109 (t : Nat) : hint109.dies t = ([] : List Nat).contains t := rfl
@[simp] theorem ow109 : (hints 109).own = none := rfl
theorem hh109 : hints 109 = hint109 := rfl
@[simp] theorem hS109 (t : Nat) : hint109.soft t = [] := rfl
@[simp] theorem hL109 (t : Nat) : hint109.lazy t = none := rfl
attribute [simp] keep110 head110
@[simp] theorem hK110 : hint110.keep = keep110 := rfl
@[simp] theorem hH110 : hint110.head = head110 := rfl
@[simp] theorem hB110 (t : Nat) : hint110.box t = ([2] : List Nat).contains t := rfl
@[simp] theorem hD110 (t : Nat) : hint110.dies t = ([8, 14, 15] : List Nat).contains t := rfl
@[simp] theorem ow110 : (hints 110).own = none := rfl
theorem hh110 : hints 110 = hint110 := rfl
@[simp] theorem hS110 (t : Nat) : hint110.soft t = [] := rfl
@[simp] theorem hL110 (t : Nat) : hint110.lazy t = none := rfl
attribute [simp] keep111 head111
@[simp] theorem hK111 : hint111.keep = keep111 := rfl
@[simp] theorem hH111 : hint111.head = head111 := rfl
@[simp] theorem hB111 (t : Nat) : hint111.box t = ([1] : List Nat).contains t := rfl
@[simp] theorem hD111 (t : Nat) : hint111.dies t = ([6] : List Nat).contains t := rfl
@[simp] theorem ow111 : (hints 111).own = none := rfl
theorem hh111 : hints 111 = hint111 := rfl
@[simp] theorem hS111 (t : Nat) : hint111.soft t = [] := rfl
@[simp] theorem hL111 (t : Nat) : hint111.lazy t = none := rfl
attribute [simp] keep112 head112
@[simp] theorem hK112 : hint112.keep = keep112 := rfl
@[simp] theorem hH112 : hint112.head = head112 := rfl
@[simp] theorem hB112 (t : Nat) : hint112.box t = ([] : List Nat).contains t := rfl
@[simp] theorem hD112 (t : Nat) : hint112.dies t = ([8, 17] : List Nat).contains t := rfl
@[simp] theorem ow112 : (hints 112).own = none := rfl
theorem hh112 : hints 112 = hint112 := rfl
@[simp] theorem hS112 (t : Nat) : hint112.soft t = [] := rfl
@[simp] theorem hL112 (t : Nat) : hint112.lazy t = none := rfl
attribute [simp] keep113 head113
@[simp] theorem hK113 : hint113.keep = keep113 := rfl
@[simp] theorem hH113 : hint113.head = head113 := rfl
@[simp] theorem hB113 (t : Nat) : hint113.box t = ([] : List Nat).contains t := rfl
@[simp] theorem hD113 (t : Nat) : hint113.dies t = ([9, 21, 22] : List Nat).contains t := rfl
@[simp] theorem ow113 : (hints 113).own = none := rfl
theorem hh113 : hints 113 = hint113 := rfl
@[simp] theorem hS113 (t : Nat) : hint113.soft t = [] := rfl
@[simp] theorem hL113 (t : Nat) : hint113.lazy t = none := rfl
attribute [simp] keep114 head114
@[simp] theorem hK114 : hint114.keep = keep114 := rfl
@[simp] theorem hH114 : hint114.head = head114 := rfl
@[simp] theorem hB114 (t : Nat) : hint114.box t = ([] : List Nat).contains t := rfl
@[simp] theorem hD114 (t : Nat) : hint114.dies t = ([5, 6] : List Nat).contains t := rfl
@[simp] theorem ow114 : (hints 114).own = none := rfl
theorem hh114 : hints 114 = hint114 := rfl
@[simp] theorem hS114 (t : Nat) : hint114.soft t = [] := rfl
@[simp] theorem hL114 (t : Nat) : hint114.lazy t = none := rfl
attribute [simp] keep115 head115
@[simp] theorem hK115 : hint115.keep = keep115 := rfl
@[simp] theorem hH115 : hint115.head = head115 := rfl
@[simp] theorem hB115 (t : Nat) : hint115.box t = ([1] : List Nat).contains t := rfl
@[simp] theorem hD115 (t : Nat) : hint115.dies t = ([] : List Nat).contains t := rfl
@[simp] theorem ow115 : (hints 115).own = none := rfl
theorem hh115 : hints 115 = hint115 := rfl
@[simp] theorem hS115 (t : Nat) : hint115.soft t = [] := rfl
@[simp] theorem hL115 (t : Nat) : hint115.lazy t = none := rfl
attribute [simp] keep116 head116
@[simp] theorem hK116 : hint116.keep = keep116 := rfl
@[simp] theorem hH116 : hint116.head = head116 := rfl
@[simp] theorem hB116 (t : Nat) : hint116.box t = ([] : List Nat).contains t := rfl
@[simp] theorem hD116 (t : Nat) : hint116.dies t = ([5, 7] : List Nat).contains t := rfl
@[simp] theorem ow116 : (hints 116).own = none := rfl
theorem hh116 : hints 116 = hint116 := rfl
@[simp] theorem hS116 (t : Nat) : hint116.soft t = [] := rfl
@[simp] theorem hL116 (t : Nat) : hint116.lazy t = none := rfl
attribute [simp] keep117 head117
@[simp] theorem hK117 : hint117.keep = keep117 := rfl
@[simp] theorem hH117 : hint117.head = head117 := rfl
@[simp] theorem hB117 (t : Nat) : hint117.box t = ([] : List Nat).contains t := rfl
@[simp] theorem hD117 (t : Nat) : hint117.dies t = ([10] : List Nat).contains t := rfl
@[simp] theorem ow117 : (hints 117).own = none := rfl
theorem hh117 : hints 117 = hint117 := rfl
@[simp] theorem hS117 (t : Nat) : hint117.soft t = [] := rfl
@[simp] theorem hL117 (t : Nat) : hint117.lazy t = none := rfl
attribute [simp] keep118 head118
@[simp] theorem hK118 : hint118.keep = keep118 := rfl
@[simp] theorem hH118 : hint118.head = head118 := rfl
@[simp] theorem hB118 (t : Nat) : hint118.box t = ([4] : List Nat).contains t := rfl
@[simp] theorem hD118 (t : Nat) : hint118.dies t = ([6, 7] : List Nat).contains t := rfl
@[simp] theorem ow118 : (hints 118).own = none := rfl
theorem hh118 : hints 118 = hint118 := rfl
@[simp] theorem hS118 (t : Nat) : hint118.soft t = [] := rfl
@[simp] theorem hL118 (t : Nat) : hint118.lazy t = none := rfl
attribute [simp] keep119 head119
@[simp] theorem hK119 : hint119.keep = keep119 := rfl
@[simp] theorem hH119 : hint119.head = head119 := rfl
@[simp] theorem hB119 (t : Nat) : hint119.box t = ([] : List Nat).contains t := rfl
@[simp] theorem hD119 (t : Nat) : hint119.dies t = ([8, 17] : List Nat).contains t := rfl
@[simp] theorem ow119 : (hints 119).own = none := rfl
theorem hh119 : hints 119 = hint119 := rfl
@[simp] theorem hS119 (t : Nat) : hint119.soft t = [] := rfl
@[simp] theorem hL119 (t : Nat) : hint119.lazy t = none := rfl
attribute [simp] keep120 head120
@[simp] theorem hK120 : hint120.keep = keep120 := rfl
@[simp] theorem hH120 : hint120.head = head120 := rfl
@[simp] theorem hB120 (t : Nat) : hint120.box t = ([2, 4] : List Nat).contains t := rfl
@[simp] theorem hD120 (t : Nat) : hint120.dies t = ([6, 12] : List Nat).contains t := rfl
@[simp] theorem ow120 : (hints 120).own = none := rfl
theorem hh120 : hints 120 = hint120 := rfl
@[simp] theorem hS120 (t : Nat) : hint120.soft t = [] := rfl
@[simp] theorem hL120 (t : Nat) : hint120.lazy t = none := rfl
theorem prims : PrimSound Tryz.prog hints := ⟨fun f k h => by
    unfold hints at h
    split at h <;> first | (cases h; done),
  fun f k h => by
    unfold hints at h
    split at h <;> first | (cases h; done)⟩
end Go.Proofs.YtaiiboplopljoaaGreat
end
