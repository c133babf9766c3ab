/-
  What the evaluator asks of the types of this program and of the hints, as rules. No condition.
-/
import Derived.Test.YtknoiemnpllapaaGreatHints
import Derived.Test.YtknoiemnpllapaaGreatPsD

set_option linter.all false
section
namespace Go.Proofs.YtknoiemnpllapaaGreat
open Go Go.PS
attribute [simp] Tryz.underlying3
@[simp] theorem sz3 : sizeT Tryz.prog 3 = 1 := by kernel_rfl
@[simp] theorem ag3 : isAggT Tryz.prog 3 = false := by kernel_rfl
@[simp] theorem in3 : (Tryz.prog.info? 3).isSome = true := by kernel_rfl
@[simp] theorem ze3 : zeroT Tryz.prog 3 = some [.int .i64 0] := by kernel_rfl
@[simp] theorem fi3 (m : Nat) : fits Tryz.prog 3 m = decide (m * 8 ≤ 140737488355328) := fits_at ze3 (by kernel_rfl) m
@[simp] theorem an3 (n : Int) : (Tryz.prog.info? 3).any (fun i => decide ((i.bytes : Int) * n ≤ 140737488355328)) = decide (8 * n ≤ 140737488355328) := any_at (by kernel_rfl) n
attribute [simp] Tryz.underlying4
@[simp] theorem sz4 : sizeT Tryz.prog 4 = 1 := by kernel_rfl
@[simp] theorem ag4 : isAggT Tryz.prog 4 = false := by kernel_rfl
@[simp] theorem in4 : (Tryz.prog.info? 4).isSome = true := by kernel_rfl
@[simp] theorem ze4 : zeroT Tryz.prog 4 = some [.bool false] := by kernel_rfl
@[simp] theorem fi4 (m : Nat) : fits Tryz.prog 4 m = decide (m * 1 ≤ 140737488355328) := fits_at ze4 (by kernel_rfl) m
@[simp] theorem an4 (n : Int) : (Tryz.prog.info? 4).any (fun i => decide ((i.bytes : Int) * n ≤ 140737488355328)) = decide (1 * n ≤ 140737488355328) := any_at (by kernel_rfl) n
attribute [simp] Tryz.underlying5
@[simp] theorem sz5 : sizeT Tryz.prog 5 = 1 := by kernel_rfl
@[simp] theorem ag5 : isAggT Tryz.prog 5 = false := by kernel_rfl
@[simp] theorem in5 : (Tryz.prog.info? 5).isSome = true := by kernel_rfl
@[simp] theorem ze5 : zeroT Tryz.prog 5 = some [.int .u8 0] := by kernel_rfl
@[simp] theorem fi5 (m : Nat) : fits Tryz.prog 5 m = decide (m * 1 ≤ 140737488355328) := fits_at ze5 (by kernel_rfl) m
@[simp] theorem an5 (n : Int) : (Tryz.prog.info? 5).any (fun i => decide ((i.bytes : Int) * n ≤ 140737488355328)) = decide (1 * n ≤ 140737488355328) := any_at (by kernel_rfl) n
attribute [simp] Tryz.underlying9
@[simp] theorem sz9 : sizeT Tryz.prog 9 = 1 := by kernel_rfl
@[simp] theorem ag9 : isAggT Tryz.prog 9 = false := by kernel_rfl
@[simp] theorem in9 : (Tryz.prog.info? 9).isSome = true := by kernel_rfl
@[simp] theorem ze9 : zeroT Tryz.prog 9 = some [.str []] := by kernel_rfl
@[simp] theorem fi9 (m : Nat) : fits Tryz.prog 9 m = decide (m * 16 ≤ 140737488355328) := fits_at ze9 (by kernel_rfl) m
@[simp] theorem an9 (n : Int) : (Tryz.prog.info? 9).any (fun i => decide ((i.bytes : Int) * n ≤ 140737488355328)) = decide (16 * n ≤ 140737488355328) := any_at (by kernel_rfl) n
attribute [simp] Tryz.underlying22
@[simp] theorem sz22 : sizeT Tryz.prog 22 = 1 := by kernel_rfl
@[simp] theorem ag22 : isAggT Tryz.prog 22 = false := by kernel_rfl
@[simp] theorem in22 : (Tryz.prog.info? 22).isSome = true := by kernel_rfl
@[simp] theorem el22 : elemT Tryz.prog 22 = some 35 := by kernel_rfl
@[simp] theorem ze22 : zeroT Tryz.prog 22 = some [.sl (.mu 0) 0 []] := by kernel_rfl
@[simp] theorem fi22 (m : Nat) : fits Tryz.prog 22 m = decide (m * 24 ≤ 140737488355328) := fits_at ze22 (by kernel_rfl) m
@[simp] theorem an22 (n : Int) : (Tryz.prog.info? 22).any (fun i => decide ((i.bytes : Int) * n ≤ 140737488355328)) = decide (24 * n ≤ 140737488355328) := any_at (by kernel_rfl) n
attribute [simp] Tryz.underlying23
@[simp] theorem sz23 : sizeT Tryz.prog 23 = 1 := by kernel_rfl
@[simp] theorem ag23 : isAggT Tryz.prog 23 = false := by kernel_rfl
@[simp] theorem in23 : (Tryz.prog.info? 23).isSome = true := by kernel_rfl
@[simp] theorem el23 : elemT Tryz.prog 23 = some 49 := by kernel_rfl
@[simp] theorem ze23 : zeroT Tryz.prog 23 = some [.sl (.mu 0) 0 []] := by kernel_rfl
@[simp] theorem fi23 (m : Nat) : fits Tryz.prog 23 m = decide (m * 24 ≤ 140737488355328) := fits_at ze23 (by kernel_rfl) m
@[simp] theorem an23 (n : Int) : (Tryz.prog.info? 23).any (fun i => decide ((i.bytes : Int) * n ≤ 140737488355328)) = decide (24 * n ≤ 140737488355328) := any_at (by kernel_rfl) n
attribute [simp] Tryz.underlying24
@[simp] theorem sz24 : sizeT Tryz.prog 24 = 1 := by kernel_rfl
@[simp] theorem ag24 : isAggT Tryz.prog 24 = false := by kernel_rfl
@[simp] theorem in24 : (Tryz.prog.info? 24).isSome = true := by kernel_rfl
@[simp] theorem el24 : elemT Tryz.prog 24 = some 50 := by kernel_rfl
@[simp] theorem ze24 : zeroT Tryz.prog 24 = some [.sl (.mu 0) 0 []] := by kernel_rfl
@[simp] theorem fi24 (m : Nat) : fits Tryz.prog 24 m = decide (m * 24 ≤ 140737488355328) := fits_at ze24 (by kernel_rfl) m
@[simp] theorem an24 (n : Int) : (Tryz.prog.info? 24).any (fun i => decide ((i.bytes : Int) * n ≤ 140737488355328)) = decide (24 * n ≤ 140737488355328) := any_at (by kernel_rfl) n
attribute [simp] Tryz.underlying25
@[simp] theorem sz25 : sizeT Tryz.prog 25 = 1 := by kernel_rfl
@[simp] theorem ag25 : isAggT Tryz.prog 25 = false := by kernel_rfl
@[simp] theorem in25 : (Tryz.prog.info? 25).isSome = true := by kernel_rfl
@[simp] theorem el25 : elemT Tryz.prog 25 = some 52 := by kernel_rfl
@[simp] theorem ze25 : zeroT Tryz.prog 25 = some [.sl (.mu 0) 0 []] := by kernel_rfl
@[simp] theorem fi25 (m : Nat) : fits Tryz.prog 25 m = decide (m * 24 ≤ 140737488355328) := fits_at ze25 (by kernel_rfl) m
@[simp] theorem an25 (n : Int) : (Tryz.prog.info? 25).any (fun i => decide ((i.bytes : Int) * n ≤ 140737488355328)) = decide (24 * n ≤ 140737488355328) := any_at (by kernel_rfl) n
attribute [simp] Tryz.underlying27
@[simp] theorem sz27 : sizeT Tryz.prog 27 = 4 := by kernel_rfl
@[simp] theorem ag27 : isAggT Tryz.prog 27 = true := by kernel_rfl
@[simp] theorem in27 : (Tryz.prog.info? 27).isSome = true := by kernel_rfl
@[simp] theorem ze27 : zeroT Tryz.prog 27 = some [.int .i64 0, .sl (.mu 0) 0 [], .sl (.mu 0) 0 [], .sl (.mu 0) 0 []] := by kernel_rfl
@[simp] theorem fi27 (m : Nat) : fits Tryz.prog 27 m = decide (m * 80 ≤ 140737488355328) := fits_at ze27 (by kernel_rfl) m
@[simp] theorem an27 (n : Int) : (Tryz.prog.info? 27).any (fun i => decide ((i.bytes : Int) * n ≤ 140737488355328)) = decide (80 * n ≤ 140737488355328) := any_at (by kernel_rfl) n
attribute [simp] Tryz.underlying28
@[simp] theorem sz28 : sizeT Tryz.prog 28 = 1 := by kernel_rfl
@[simp] theorem ag28 : isAggT Tryz.prog 28 = false := by kernel_rfl
@[simp] theorem in28 : (Tryz.prog.info? 28).isSome = true := by kernel_rfl
@[simp] theorem el28 : elemT Tryz.prog 28 = some 47 := by kernel_rfl
@[simp] theorem ze28 : zeroT Tryz.prog 28 = some [.sl (.mu 0) 0 []] := by kernel_rfl
@[simp] theorem fi28 (m : Nat) : fits Tryz.prog 28 m = decide (m * 24 ≤ 140737488355328) := fits_at ze28 (by kernel_rfl) m
@[simp] theorem an28 (n : Int) : (Tryz.prog.info? 28).any (fun i => decide ((i.bytes : Int) * n ≤ 140737488355328)) = decide (24 * n ≤ 140737488355328) := any_at (by kernel_rfl) n
attribute [simp] Tryz.underlying33
@[simp] theorem sz33 : sizeT Tryz.prog 33 = 7 := by kernel_rfl
@[simp] theorem ag33 : isAggT Tryz.prog 33 = true := by kernel_rfl
@[simp] theorem in33 : (Tryz.prog.info? 33).isSome = true := by kernel_rfl
@[simp] theorem ze33 : zeroT Tryz.prog 33 = some [.int .i64 0, .int .i64 0, .int .i64 0, .int .i64 0, .bool false, .bool false, .bool false] := by kernel_rfl
@[simp] theorem fi33 (m : Nat) : fits Tryz.prog 33 m = decide (m * 40 ≤ 140737488355328) := fits_at ze33 (by kernel_rfl) m
@[simp] theorem an33 (n : Int) : (Tryz.prog.info? 33).any (fun i => decide ((i.bytes : Int) * n ≤ 140737488355328)) = decide (40 * n ≤ 140737488355328) := any_at (by kernel_rfl) n
attribute [simp] Tryz.underlying35
@[simp] theorem sz35 : sizeT Tryz.prog 35 = 7 := by kernel_rfl
@[simp] theorem ag35 : isAggT Tryz.prog 35 = true := by kernel_rfl
@[simp] theorem in35 : (Tryz.prog.info? 35).isSome = true := by kernel_rfl
@[simp] theorem ze35 : zeroT Tryz.prog 35 = some [.int .i64 0, .int .i64 0, .int .i64 0, .int .i64 0, .bool false, .bool false, .bool false] := by kernel_rfl
@[simp] theorem fi35 (m : Nat) : fits Tryz.prog 35 m = decide (m * 40 ≤ 140737488355328) := fits_at ze35 (by kernel_rfl) m
@[simp] theorem an35 (n : Int) : (Tryz.prog.info? 35).any (fun i => decide ((i.bytes : Int) * n ≤ 140737488355328)) = decide (40 * n ≤ 140737488355328) := any_at (by kernel_rfl) n
attribute [simp] Tryz.underlying38
@[simp] theorem sz38 : sizeT Tryz.prog 38 = 1 := by kernel_rfl
@[simp] theorem ag38 : isAggT Tryz.prog 38 = false := by kernel_rfl
@[simp] theorem in38 : (Tryz.prog.info? 38).isSome = true := by kernel_rfl
@[simp] theorem ze38 : zeroT Tryz.prog 38 = some [.nilp] := by kernel_rfl
@[simp] theorem fi38 (m : Nat) : fits Tryz.prog 38 m = decide (m * 8 ≤ 140737488355328) := fits_at ze38 (by kernel_rfl) m
@[simp] theorem an38 (n : Int) : (Tryz.prog.info? 38).any (fun i => decide ((i.bytes : Int) * n ≤ 140737488355328)) = decide (8 * n ≤ 140737488355328) := any_at (by kernel_rfl) n
attribute [simp] Tryz.underlying39
@[simp] theorem sz39 : sizeT Tryz.prog 39 = 1 := by kernel_rfl
@[simp] theorem ag39 : isAggT Tryz.prog 39 = false := by kernel_rfl
@[simp] theorem in39 : (Tryz.prog.info? 39).isSome = true := by kernel_rfl
@[simp] theorem ze39 : zeroT Tryz.prog 39 = some [.int .i64 0] := by kernel_rfl
@[simp] theorem fi39 (m : Nat) : fits Tryz.prog 39 m = decide (m * 8 ≤ 140737488355328) := fits_at ze39 (by kernel_rfl) m
@[simp] theorem an39 (n : Int) : (Tryz.prog.info? 39).any (fun i => decide ((i.bytes : Int) * n ≤ 140737488355328)) = decide (8 * n ≤ 140737488355328) := any_at (by kernel_rfl) n
attribute [simp] Tryz.underlying47
@[simp] theorem sz47 : sizeT Tryz.prog 47 = 2 := by kernel_rfl
@[simp] theorem ag47 : isAggT Tryz.prog 47 = true := by kernel_rfl
@[simp] theorem in47 : (Tryz.prog.info? 47).isSome = true := by kernel_rfl
@[simp] theorem ze47 : zeroT Tryz.prog 47 = some [.int .i64 0, .int .i64 0] := by kernel_rfl
@[simp] theorem fi47 (m : Nat) : fits Tryz.prog 47 m = decide (m * 16 ≤ 140737488355328) := fits_at ze47 (by kernel_rfl) m
@[simp] theorem an47 (n : Int) : (Tryz.prog.info? 47).any (fun i => decide ((i.bytes : Int) * n ≤ 140737488355328)) = decide (16 * n ≤ 140737488355328) := any_at (by kernel_rfl) n
attribute [simp] Tryz.underlying49
@[simp] theorem sz49 : sizeT Tryz.prog 49 = 3 := by kernel_rfl
@[simp] theorem ag49 : isAggT Tryz.prog 49 = true := by kernel_rfl
@[simp] theorem in49 : (Tryz.prog.info? 49).isSome = true := by kernel_rfl
@[simp] theorem ze49 : zeroT Tryz.prog 49 = some [.int .i64 0, .int .i64 0, .int .i64 0] := by kernel_rfl
@[simp] theorem fi49 (m : Nat) : fits Tryz.prog 49 m = decide (m * 24 ≤ 140737488355328) := fits_at ze49 (by kernel_rfl) m
@[simp] theorem an49 (n : Int) : (Tryz.prog.info? 49).any (fun i => decide ((i.bytes : Int) * n ≤ 140737488355328)) = decide (24 * n ≤ 140737488355328) := any_at (by kernel_rfl) n
attribute [simp] Tryz.underlying50
@[simp] theorem sz50 : sizeT Tryz.prog 50 = 3 := by kernel_rfl
@[simp] theorem ag50 : isAggT Tryz.prog 50 = true := by kernel_rfl
@[simp] theorem in50 : (Tryz.prog.info? 50).isSome = true := by kernel_rfl
@[simp] theorem ze50 : zeroT Tryz.prog 50 = some [.int .i64 0, .int .i64 0, .int .i64 0] := by kernel_rfl
@[simp] theorem fi50 (m : Nat) : fits Tryz.prog 50 m = decide (m * 24 ≤ 140737488355328) := fits_at ze50 (by kernel_rfl) m
@[simp] theorem an50 (n : Int) : (Tryz.prog.info? 50).any (fun i => decide ((i.bytes : Int) * n ≤ 140737488355328)) = decide (24 * n ≤ 140737488355328) := any_at (by kernel_rfl) n
attribute [simp] Tryz.underlying52
@[simp] theorem sz52 : sizeT Tryz.prog 52 = 10 := by kernel_rfl
@[simp] theorem ag52 : isAggT Tryz.prog 52 = true := by kernel_rfl
@[simp] theorem in52 : (Tryz.prog.info? 52).isSome = true := by kernel_rfl
@[simp] theorem ze52 : zeroT Tryz.prog 52 = some [.int .i64 0, .int .i64 0, .int .i64 0, .int .i64 0, .int .i64 0, .int .i64 0, .int .i64 0, .int .i64 0, .int .i64 0, .int .i64 0] := by kernel_rfl
@[simp] theorem fi52 (m : Nat) : fits Tryz.prog 52 m = decide (m * 80 ≤ 140737488355328) := fits_at ze52 (by kernel_rfl) m
@[simp] theorem an52 (n : Int) : (Tryz.prog.info? 52).any (fun i => decide ((i.bytes : Int) * n ≤ 140737488355328)) = decide (80 * n ≤ 140737488355328) := any_at (by kernel_rfl) n
attribute [simp] Tryz.underlying57
@[simp] theorem sz57 : sizeT Tryz.prog 57 = 1 := by kernel_rfl
@[simp] theorem ag57 : isAggT Tryz.prog 57 = false := by kernel_rfl
@[simp] theorem in57 : (Tryz.prog.info? 57).isSome = true := by kernel_rfl
@[simp] theorem el57 : elemT Tryz.prog 57 = some 9 := by kernel_rfl
@[simp] theorem ze57 : zeroT Tryz.prog 57 = some [.sl (.mu 0) 0 []] := by kernel_rfl
@[simp] theorem fi57 (m : Nat) : fits Tryz.prog 57 m = decide (m * 24 ≤ 140737488355328) := fits_at ze57 (by kernel_rfl) m
@[simp] theorem an57 (n : Int) : (Tryz.prog.info? 57).any (fun i => decide ((i.bytes : Int) * n ≤ 140737488355328)) = decide (24 * n ≤ 140737488355328) := any_at (by kernel_rfl) n
attribute [simp] Tryz.underlying58
@[simp] theorem sz58 : sizeT Tryz.prog 58 = 1 := by kernel_rfl
@[simp] theorem ag58 : isAggT Tryz.prog 58 = false := by kernel_rfl
@[simp] theorem in58 : (Tryz.prog.info? 58).isSome = true := by kernel_rfl
@[simp] theorem el58 : elemT Tryz.prog 58 = some 106 := by kernel_rfl
@[simp] theorem ze58 : zeroT Tryz.prog 58 = some [.sl (.mu 0) 0 []] := by kernel_rfl
@[simp] theorem fi58 (m : Nat) : fits Tryz.prog 58 m = decide (m * 24 ≤ 140737488355328) := fits_at ze58 (by kernel_rfl) m
@[simp] theorem an58 (n : Int) : (Tryz.prog.info? 58).any (fun i => decide ((i.bytes : Int) * n ≤ 140737488355328)) = decide (24 * n ≤ 140737488355328) := any_at (by kernel_rfl) n
attribute [simp] Tryz.underlying60
@[simp] theorem sz60 : sizeT Tryz.prog 60 = 3 := by kernel_rfl
@[simp] theorem ag60 : isAggT Tryz.prog 60 = true := by kernel_rfl
@[simp] theorem in60 : (Tryz.prog.info? 60).isSome = true := by kernel_rfl
@[simp] theorem ze60 : zeroT Tryz.prog 60 = some [.str [], .sl (.mu 0) 0 [], .sl (.mu 0) 0 []] := by kernel_rfl
@[simp] theorem fi60 (m : Nat) : fits Tryz.prog 60 m = decide (m * 64 ≤ 140737488355328) := fits_at ze60 (by kernel_rfl) m
@[simp] theorem an60 (n : Int) : (Tryz.prog.info? 60).any (fun i => decide ((i.bytes : Int) * n ≤ 140737488355328)) = decide (64 * n ≤ 140737488355328) := any_at (by kernel_rfl) n
attribute [simp] Tryz.underlying63
@[simp] theorem sz63 : sizeT Tryz.prog 63 = 2 := by kernel_rfl
@[simp] theorem ag63 : isAggT Tryz.prog 63 = true := by kernel_rfl
@[simp] theorem in63 : (Tryz.prog.info? 63).isSome = true := by kernel_rfl
@[simp] theorem ze63 : zeroT Tryz.prog 63 = some [.int .i64 0, .int .i64 0] := by kernel_rfl
@[simp] theorem fi63 (m : Nat) : fits Tryz.prog 63 m = decide (m * 16 ≤ 140737488355328) := fits_at ze63 (by kernel_rfl) m
@[simp] theorem an63 (n : Int) : (Tryz.prog.info? 63).any (fun i => decide ((i.bytes : Int) * n ≤ 140737488355328)) = decide (16 * n ≤ 140737488355328) := any_at (by kernel_rfl) n
attribute [simp] Tryz.underlying64
@[simp] theorem sz64 : sizeT Tryz.prog 64 = 18 := by kernel_rfl
@[simp] theorem ag64 : isAggT Tryz.prog 64 = true := by kernel_rfl
@[simp] theorem in64 : (Tryz.prog.info? 64).isSome = true := by kernel_rfl
@[simp] theorem ze64 : zeroT Tryz.prog 64 = some [.int .i64 0, .int .i64 0, .int .i64 0, .int .i64 0, .int .i64 0, .int .i64 0, .int .i64 0, .int .i64 0, .int .i64 0, .int .i64 0, .int .i64 0, .int .i64 0, .int .i64 0, .int .i64 0, .int .i64 0, .int .i64 0, .int .i64 0, .int .i64 0] := by kernel_rfl
@[simp] theorem fi64 (m : Nat) : fits Tryz.prog 64 m = decide (m * 144 ≤ 140737488355328) := fits_at ze64 (by kernel_rfl) m
@[simp] theorem an64 (n : Int) : (Tryz.prog.info? 64).any (fun i => decide ((i.bytes : Int) * n ≤ 140737488355328)) = decide (144 * n ≤ 140737488355328) := any_at (by kernel_rfl) n
attribute [simp] Tryz.underlying65
@[simp] theorem sz65 : sizeT Tryz.prog 65 = 1 := by kernel_rfl
@[simp] theorem ag65 : isAggT Tryz.prog 65 = false := by kernel_rfl
@[simp] theorem in65 : (Tryz.prog.info? 65).isSome = true := by kernel_rfl
@[simp] theorem ze65 : zeroT Tryz.prog 65 = some [.nilp] := by kernel_rfl
@[simp] theorem fi65 (m : Nat) : fits Tryz.prog 65 m = decide (m * 8 ≤ 140737488355328) := fits_at ze65 (by kernel_rfl) m
@[simp] theorem an65 (n : Int) : (Tryz.prog.info? 65).any (fun i => decide ((i.bytes : Int) * n ≤ 140737488355328)) = decide (8 * n ≤ 140737488355328) := any_at (by kernel_rfl) n
attribute [simp] Tryz.underlying66
@[simp] theorem sz66 : sizeT Tryz.prog 66 = 1 := by kernel_rfl
@[simp] theorem ag66 : isAggT Tryz.prog 66 = false := by kernel_rfl
@[simp] theorem in66 : (Tryz.prog.info? 66).isSome = true := by kernel_rfl
@[simp] theorem ze66 : zeroT Tryz.prog 66 = some [.nilp] := by kernel_rfl
@[simp] theorem fi66 (m : Nat) : fits Tryz.prog 66 m = decide (m * 8 ≤ 140737488355328) := fits_at ze66 (by kernel_rfl) m
@[simp] theorem an66 (n : Int) : (Tryz.prog.info? 66).any (fun i => decide ((i.bytes : Int) * n ≤ 140737488355328)) = decide (8 * n ≤ 140737488355328) := any_at (by kernel_rfl) n
attribute [simp] Tryz.underlying68
@[simp] theorem sz68 : sizeT Tryz.prog 68 = 24 := by kernel_rfl
@[simp] theorem ag68 : isAggT Tryz.prog 68 = true := by kernel_rfl
@[simp] theorem in68 : (Tryz.prog.info? 68).isSome = true := by kernel_rfl
@[simp] theorem ze68 : zeroT Tryz.prog 68 = some [.int .i64 0, .sl (.mu 0) 0 [], .sl (.mu 0) 0 [], .sl (.mu 0) 0 [], .int .i64 0, .int .i64 0, .int .i64 0, .int .i64 0, .int .i64 0, .int .i64 0, .int .i64 0, .int .i64 0, .int .i64 0, .int .i64 0, .int .i64 0, .int .i64 0, .int .i64 0, .int .i64 0, .int .i64 0, .int .i64 0, .int .i64 0, .int .i64 0, .nilp, .nilp] := by kernel_rfl
@[simp] theorem fi68 (m : Nat) : fits Tryz.prog 68 m = decide (m * 240 ≤ 140737488355328) := fits_at ze68 (by kernel_rfl) m
@[simp] theorem an68 (n : Int) : (Tryz.prog.info? 68).any (fun i => decide ((i.bytes : Int) * n ≤ 140737488355328)) = decide (240 * n ≤ 140737488355328) := any_at (by kernel_rfl) n
attribute [simp] Tryz.underlying73
@[simp] theorem sz73 : sizeT Tryz.prog 73 = 1 := by kernel_rfl
@[simp] theorem ag73 : isAggT Tryz.prog 73 = false := by kernel_rfl
@[simp] theorem in73 : (Tryz.prog.info? 73).isSome = true := by kernel_rfl
@[simp] theorem el73 : elemT Tryz.prog 73 = some 123 := by kernel_rfl
@[simp] theorem ze73 : zeroT Tryz.prog 73 = some [.sl (.mu 0) 0 []] := by kernel_rfl
@[simp] theorem fi73 (m : Nat) : fits Tryz.prog 73 m = decide (m * 24 ≤ 140737488355328) := fits_at ze73 (by kernel_rfl) m
@[simp] theorem an73 (n : Int) : (Tryz.prog.info? 73).any (fun i => decide ((i.bytes : Int) * n ≤ 140737488355328)) = decide (24 * n ≤ 140737488355328) := any_at (by kernel_rfl) n
attribute [simp] Tryz.underlying77
@[simp] theorem sz77 : sizeT Tryz.prog 77 = 3 := by kernel_rfl
@[simp] theorem ag77 : isAggT Tryz.prog 77 = true := by kernel_rfl
@[simp] theorem in77 : (Tryz.prog.info? 77).isSome = true := by kernel_rfl
@[simp] theorem ze77 : zeroT Tryz.prog 77 = some [.int .i64 0, .int .i64 0, .int .i64 0] := by kernel_rfl
@[simp] theorem fi77 (m : Nat) : fits Tryz.prog 77 m = decide (m * 24 ≤ 140737488355328) := fits_at ze77 (by kernel_rfl) m
@[simp] theorem an77 (n : Int) : (Tryz.prog.info? 77).any (fun i => decide ((i.bytes : Int) * n ≤ 140737488355328)) = decide (24 * n ≤ 140737488355328) := any_at (by kernel_rfl) n
attribute [simp] Tryz.underlying80
@[simp] theorem sz80 : sizeT Tryz.prog 80 = 2 := by kernel_rfl
@[simp] theorem ag80 : isAggT Tryz.prog 80 = true := by kernel_rfl
@[simp] theorem in80 : (Tryz.prog.info? 80).isSome = true := by kernel_rfl
@[simp] theorem ze80 : zeroT Tryz.prog 80 = some [.int .i64 0, .int .i64 0] := by kernel_rfl
@[simp] theorem fi80 (m : Nat) : fits Tryz.prog 80 m = decide (m * 16 ≤ 140737488355328) := fits_at ze80 (by kernel_rfl) m
@[simp] theorem an80 (n : Int) : (Tryz.prog.info? 80).any (fun i => decide ((i.bytes : Int) * n ≤ 140737488355328)) = decide (16 * n ≤ 140737488355328) := any_at (by kernel_rfl) n
attribute [simp] Tryz.underlying83
@[simp] theorem sz83 : sizeT Tryz.prog 83 = 3 := by kernel_rfl
@[simp] theorem ag83 : isAggT Tryz.prog 83 = true := by kernel_rfl
@[simp] theorem in83 : (Tryz.prog.info? 83).isSome = true := by kernel_rfl
@[simp] theorem ze83 : zeroT Tryz.prog 83 = some [.int .i64 0, .int .i64 0, .int .i64 0] := by kernel_rfl
@[simp] theorem fi83 (m : Nat) : fits Tryz.prog 83 m = decide (m * 24 ≤ 140737488355328) := fits_at ze83 (by kernel_rfl) m
@[simp] theorem an83 (n : Int) : (Tryz.prog.info? 83).any (fun i => decide ((i.bytes : Int) * n ≤ 140737488355328)) = decide (24 * n ≤ 140737488355328) := any_at (by kernel_rfl) n
attribute [simp] Tryz.underlying88
@[simp] theorem sz88 : sizeT Tryz.prog 88 = 1 := by kernel_rfl
@[simp] theorem ag88 : isAggT Tryz.prog 88 = false := by kernel_rfl
@[simp] theorem in88 : (Tryz.prog.info? 88).isSome = true := by kernel_rfl
@[simp] theorem ze88 : zeroT Tryz.prog 88 = some [.raw .nilFunc] := by kernel_rfl
@[simp] theorem fi88 (m : Nat) : fits Tryz.prog 88 m = decide (m * 8 ≤ 140737488355328) := fits_at ze88 (by kernel_rfl) m
@[simp] theorem an88 (n : Int) : (Tryz.prog.info? 88).any (fun i => decide ((i.bytes : Int) * n ≤ 140737488355328)) = decide (8 * n ≤ 140737488355328) := any_at (by kernel_rfl) n
attribute [simp] Tryz.underlying99
@[simp] theorem sz99 : sizeT Tryz.prog 99 = 1 := by kernel_rfl
@[simp] theorem ag99 : isAggT Tryz.prog 99 = false := by kernel_rfl
@[simp] theorem in99 : (Tryz.prog.info? 99).isSome = true := by kernel_rfl
@[simp] theorem ze99 : zeroT Tryz.prog 99 = some [.nilp] := by kernel_rfl
@[simp] theorem fi99 (m : Nat) : fits Tryz.prog 99 m = decide (m * 8 ≤ 140737488355328) := fits_at ze99 (by kernel_rfl) m
@[simp] theorem an99 (n : Int) : (Tryz.prog.info? 99).any (fun i => decide ((i.bytes : Int) * n ≤ 140737488355328)) = decide (8 * n ≤ 140737488355328) := any_at (by kernel_rfl) n
attribute [simp] Tryz.underlying104
@[simp] theorem sz104 : sizeT Tryz.prog 104 = 1 := by kernel_rfl
@[simp] theorem ag104 : isAggT Tryz.prog 104 = false := by kernel_rfl
@[simp] theorem in104 : (Tryz.prog.info? 104).isSome = true := by kernel_rfl
@[simp] theorem ze104 : zeroT Tryz.prog 104 = some [.nilp] := by kernel_rfl
@[simp] theorem fi104 (m : Nat) : fits Tryz.prog 104 m = decide (m * 8 ≤ 140737488355328) := fits_at ze104 (by kernel_rfl) m
@[simp] theorem an104 (n : Int) : (Tryz.prog.info? 104).any (fun i => decide ((i.bytes : Int) * n ≤ 140737488355328)) = decide (8 * n ≤ 140737488355328) := any_at (by kernel_rfl) n
attribute [simp] Tryz.underlying106
@[simp] theorem sz106 : sizeT Tryz.prog 106 = 1 := by kernel_rfl
@[simp] theorem ag106 : isAggT Tryz.prog 106 = false := by kernel_rfl
@[simp] theorem in106 : (Tryz.prog.info? 106).isSome = true := by kernel_rfl
@[simp] theorem el106 : elemT Tryz.prog 106 = some 168 := by kernel_rfl
@[simp] theorem ze106 : zeroT Tryz.prog 106 = some [.sl (.mu 0) 0 []] := by kernel_rfl
@[simp] theorem fi106 (m : Nat) : fits Tryz.prog 106 m = decide (m * 24 ≤ 140737488355328) := fits_at ze106 (by kernel_rfl) m
@[simp] theorem an106 (n : Int) : (Tryz.prog.info? 106).any (fun i => decide ((i.bytes : Int) * n ≤ 140737488355328)) = decide (24 * n ≤ 140737488355328) := any_at (by kernel_rfl) n
attribute [simp] Tryz.underlying109
@[simp] theorem sz109 : sizeT Tryz.prog 109 = 1 := by kernel_rfl
@[simp] theorem ag109 : isAggT Tryz.prog 109 = false := by kernel_rfl
@[simp] theorem in109 : (Tryz.prog.info? 109).isSome = true := by kernel_rfl
@[simp] theorem ze109 : zeroT Tryz.prog 109 = some [.raw .nilFunc] := by kernel_rfl
@[simp] theorem fi109 (m : Nat) : fits Tryz.prog 109 m = decide (m * 8 ≤ 140737488355328) := fits_at ze109 (by kernel_rfl) m
@[simp] theorem an109 (n : Int) : (Tryz.prog.info? 109).any (fun i => decide ((i.bytes : Int) * n ≤ 140737488355328)) = decide (8 * n ≤ 140737488355328) := any_at (by kernel_rfl) n
attribute [simp] Tryz.underlying111
@[simp] theorem sz111 : sizeT Tryz.prog 111 = 2 := by kernel_rfl
@[simp] theorem ag111 : isAggT Tryz.prog 111 = true := by kernel_rfl
@[simp] theorem in111 : (Tryz.prog.info? 111).isSome = true := by kernel_rfl
@[simp] theorem ze111 : zeroT Tryz.prog 111 = some [.int .i64 0, .sl (.mu 0) 0 []] := by kernel_rfl
@[simp] theorem fi111 (m : Nat) : fits Tryz.prog 111 m = decide (m * 32 ≤ 140737488355328) := fits_at ze111 (by kernel_rfl) m
@[simp] theorem an111 (n : Int) : (Tryz.prog.info? 111).any (fun i => decide ((i.bytes : Int) * n ≤ 140737488355328)) = decide (32 * n ≤ 140737488355328) := any_at (by kernel_rfl) n
attribute [simp] Tryz.underlying112
@[simp] theorem sz112 : sizeT Tryz.prog 112 = 1 := by kernel_rfl
@[simp] theorem ag112 : isAggT Tryz.prog 112 = false := by kernel_rfl
@[simp] theorem in112 : (Tryz.prog.info? 112).isSome = true := by kernel_rfl
@[simp] theorem ze112 : zeroT Tryz.prog 112 = some [.raw .nilFunc] := by kernel_rfl
@[simp] theorem fi112 (m : Nat) : fits Tryz.prog 112 m = decide (m * 8 ≤ 140737488355328) := fits_at ze112 (by kernel_rfl) m
@[simp] theorem an112 (n : Int) : (Tryz.prog.info? 112).any (fun i => decide ((i.bytes : Int) * n ≤ 140737488355328)) = decide (8 * n ≤ 140737488355328) := any_at (by kernel_rfl) n
attribute [simp] Tryz.underlying117
@[simp] theorem sz117 : sizeT Tryz.prog 117 = 1 := by kernel_rfl
@[simp] theorem ag117 : isAggT Tryz.prog 117 = false := by kernel_rfl
@[simp] theorem in117 : (Tryz.prog.info? 117).isSome = true := by kernel_rfl
@[simp] theorem ze117 : zeroT Tryz.prog 117 = some [.raw .nilFunc] := by kernel_rfl
@[simp] theorem fi117 (m : Nat) : fits Tryz.prog 117 m = decide (m * 8 ≤ 140737488355328) := fits_at ze117 (by kernel_rfl) m
@[simp] theorem an117 (n : Int) : (Tryz.prog.info? 117).any (fun i => decide ((i.bytes : Int) * n ≤ 140737488355328)) = decide (8 * n ≤ 140737488355328) := any_at (by kernel_rfl) n
attribute [simp] Tryz.underlying118
@[simp] theorem sz118 : sizeT Tryz.prog 118 = 1 := by kernel_rfl
@[simp] theorem ag118 : isAggT Tryz.prog 118 = false := by kernel_rfl
@[simp] theorem in118 : (Tryz.prog.info? 118).isSome = true := by kernel_rfl
@[simp] theorem ze118 : zeroT Tryz.prog 118 = some [.raw (.map none)] := by kernel_rfl
@[simp] theorem zv123 : zeroV Tryz.prog 123 = some (.agg [.int .i64 0, .int .i64 0, .int .i64 0]) := by kernel_rfl
attribute [simp] Tryz.underlying120
@[simp] theorem sz120 : sizeT Tryz.prog 120 = 1 := by kernel_rfl
@[simp] theorem ag120 : isAggT Tryz.prog 120 = true := by kernel_rfl
@[simp] theorem in120 : (Tryz.prog.info? 120).isSome = true := by kernel_rfl
@[simp] theorem ze120 : zeroT Tryz.prog 120 = some [.raw (.map none)] := by kernel_rfl
@[simp] theorem fi120 (m : Nat) : fits Tryz.prog 120 m = decide (m * 8 ≤ 140737488355328) := fits_at ze120 (by kernel_rfl) m
@[simp] theorem an120 (n : Int) : (Tryz.prog.info? 120).any (fun i => decide ((i.bytes : Int) * n ≤ 140737488355328)) = decide (8 * n ≤ 140737488355328) := any_at (by kernel_rfl) n
attribute [simp] Tryz.underlying121
@[simp] theorem sz121 : sizeT Tryz.prog 121 = 1 := by kernel_rfl
@[simp] theorem ag121 : isAggT Tryz.prog 121 = false := by kernel_rfl
@[simp] theorem in121 : (Tryz.prog.info? 121).isSome = true := by kernel_rfl
@[simp] theorem el121 : elemT Tryz.prog 121 = some 63 := by kernel_rfl
@[simp] theorem ze121 : zeroT Tryz.prog 121 = some [.sl (.mu 0) 0 []] := by kernel_rfl
@[simp] theorem fi121 (m : Nat) : fits Tryz.prog 121 m = decide (m * 24 ≤ 140737488355328) := fits_at ze121 (by kernel_rfl) m
@[simp] theorem an121 (n : Int) : (Tryz.prog.info? 121).any (fun i => decide ((i.bytes : Int) * n ≤ 140737488355328)) = decide (24 * n ≤ 140737488355328) := any_at (by kernel_rfl) n
attribute [simp] Tryz.underlying123
@[simp] theorem sz123 : sizeT Tryz.prog 123 = 3 := by kernel_rfl
@[simp] theorem ag123 : isAggT Tryz.prog 123 = true := by kernel_rfl
@[simp] theorem in123 : (Tryz.prog.info? 123).isSome = true := by kernel_rfl
@[simp] theorem ze123 : zeroT Tryz.prog 123 = some [.int .i64 0, .int .i64 0, .int .i64 0] := by kernel_rfl
@[simp] theorem fi123 (m : Nat) : fits Tryz.prog 123 m = decide (m * 24 ≤ 140737488355328) := fits_at ze123 (by kernel_rfl) m
@[simp] theorem an123 (n : Int) : (Tryz.prog.info? 123).any (fun i => decide ((i.bytes : Int) * n ≤ 140737488355328)) = decide (24 * n ≤ 140737488355328) := any_at (by kernel_rfl) n
attribute [simp] Tryz.underlying134
@[simp] theorem sz134 : sizeT Tryz.prog 134 = 1 := by kernel_rfl
@[simp] theorem ag134 : isAggT Tryz.prog 134 = false := by kernel_rfl
@[simp] theorem in134 : (Tryz.prog.info? 134).isSome = true := by kernel_rfl
@[simp] theorem ze134 : zeroT Tryz.prog 134 = some [.raw .nilFunc] := by kernel_rfl
@[simp] theorem fi134 (m : Nat) : fits Tryz.prog 134 m = decide (m * 8 ≤ 140737488355328) := fits_at ze134 (by kernel_rfl) m
@[simp] theorem an134 (n : Int) : (Tryz.prog.info? 134).any (fun i => decide ((i.bytes : Int) * n ≤ 140737488355328)) = decide (8 * n ≤ 140737488355328) := any_at (by kernel_rfl) n
attribute [simp] Tryz.underlying136
@[simp] theorem sz136 : sizeT Tryz.prog 136 = 1 := by kernel_rfl
@[simp] theorem ag136 : isAggT Tryz.prog 136 = false := by kernel_rfl
@[simp] theorem in136 : (Tryz.prog.info? 136).isSome = true := by kernel_rfl
@[simp] theorem el136 : elemT Tryz.prog 136 = some 5 := by kernel_rfl
@[simp] theorem ze136 : zeroT Tryz.prog 136 = some [.sl (.mu 0) 0 []] := by kernel_rfl
@[simp] theorem fi136 (m : Nat) : fits Tryz.prog 136 m = decide (m * 24 ≤ 140737488355328) := fits_at ze136 (by kernel_rfl) m
@[simp] theorem an136 (n : Int) : (Tryz.prog.info? 136).any (fun i => decide ((i.bytes : Int) * n ≤ 140737488355328)) = decide (24 * n ≤ 140737488355328) := any_at (by kernel_rfl) n
attribute [simp] Tryz.underlying144
@[simp] theorem sz144 : sizeT Tryz.prog 144 = 4 := by kernel_rfl
@[simp] theorem ag144 : isAggT Tryz.prog 144 = true := by kernel_rfl
@[simp] theorem in144 : (Tryz.prog.info? 144).isSome = true := by kernel_rfl
@[simp] theorem ze144 : zeroT Tryz.prog 144 = some [.nilp, .nilp, .nilp, .nilp] := by kernel_rfl
@[simp] theorem fi144 (m : Nat) : fits Tryz.prog 144 m = decide (m * 32 ≤ 140737488355328) := fits_at ze144 (by kernel_rfl) m
@[simp] theorem an144 (n : Int) : (Tryz.prog.info? 144).any (fun i => decide ((i.bytes : Int) * n ≤ 140737488355328)) = decide (32 * n ≤ 140737488355328) := any_at (by kernel_rfl) n
attribute [simp] Tryz.underlying150
@[simp] theorem sz150 : sizeT Tryz.prog 150 = 24 := by kernel_rfl
@[simp] theorem ag150 : isAggT Tryz.prog 150 = true := by kernel_rfl
@[simp] theorem in150 : (Tryz.prog.info? 150).isSome = true := by kernel_rfl
@[simp] theorem ze150 : zeroT Tryz.prog 150 = some [.nilp, .nilp, .nilp, .nilp, .nilp, .int .i64 0, .nilp, .nilp, .nilp, .nilp, .nilp, .nilp, .nilp, .nilp, .nilp, .sl (.mu 0) 0 [], .sl (.mu 0) 0 [], .sl (.mu 0) 0 [], .sl (.mu 0) 0 [], .sl (.mu 0) 0 [], .sl (.mu 0) 0 [], .sl (.mu 0) 0 [], .sl (.mu 0) 0 [], .sl (.mu 0) 0 []] := by kernel_rfl
@[simp] theorem fi150 (m : Nat) : fits Tryz.prog 150 m = decide (m * 336 ≤ 140737488355328) := fits_at ze150 (by kernel_rfl) m
@[simp] theorem an150 (n : Int) : (Tryz.prog.info? 150).any (fun i => decide ((i.bytes : Int) * n ≤ 140737488355328)) = decide (336 * n ≤ 140737488355328) := any_at (by kernel_rfl) n
attribute [simp] Tryz.underlying189
@[simp] theorem sz189 : sizeT Tryz.prog 189 = 1 := by kernel_rfl
@[simp] theorem ag189 : isAggT Tryz.prog 189 = true := by kernel_rfl
@[simp] theorem in189 : (Tryz.prog.info? 189).isSome = true := by kernel_rfl
@[simp] theorem ze189 : zeroT Tryz.prog 189 = some [.sl (.mu 0) 0 []] := by kernel_rfl
@[simp] theorem fi189 (m : Nat) : fits Tryz.prog 189 m = decide (m * 24 ≤ 140737488355328) := fits_at ze189 (by kernel_rfl) m
@[simp] theorem an189 (n : Int) : (Tryz.prog.info? 189).any (fun i => decide ((i.bytes : Int) * n ≤ 140737488355328)) = decide (24 * n ≤ 140737488355328) := any_at (by kernel_rfl) n
attribute [simp] Tryz.underlying259
@[simp] theorem sz259 : sizeT Tryz.prog 259 = 1 := by kernel_rfl
@[simp] theorem ag259 : isAggT Tryz.prog 259 = false := by kernel_rfl
@[simp] theorem in259 : (Tryz.prog.info? 259).isSome = true := by kernel_rfl
@[simp] theorem ze259 : zeroT Tryz.prog 259 = some [.raw .nilFunc] := by kernel_rfl
@[simp] theorem fi259 (m : Nat) : fits Tryz.prog 259 m = decide (m * 8 ≤ 140737488355328) := fits_at ze259 (by kernel_rfl) m
@[simp] theorem an259 (n : Int) : (Tryz.prog.info? 259).any (fun i => decide ((i.bytes : Int) * n ≤ 140737488355328)) = decide (8 * n ≤ 140737488355328) := any_at (by kernel_rfl) n
attribute [simp] keep3 head3
@[simp] theorem hK3 : hint3.keep = keep3 := rfl
@[simp] theorem hH3 : hint3.head = head3 := rfl
@[simp] theorem hB3 (t : Nat) : hint3.box t = ([3] : List Nat).contains t := rfl
@[simp] theorem hD3 (t : Nat) : hint3.dies t = ([15, 24, 33, 40, 52] : List Nat).contains t := rfl
@[simp] theorem ow3 : (hints 3).own = none := rfl
@[simp] theorem hS3 (t : Nat) : hint3.soft t = [] := rfl
@[simp] theorem hL3 (t : Nat) : hint3.lazy t = none := rfl
attribute [simp] free3 pairs3
@[simp] theorem hF3 : hint3.free = free3 := rfl
@[simp] theorem hP3 : hint3.pairs = pairs3 := rfl
attribute [simp] keep4 head4
@[simp] theorem hK4 : hint4.keep = keep4 := rfl
@[simp] theorem hH4 : hint4.head = head4 := rfl
@[simp] theorem hB4 (t : Nat) : hint4.box t = ([3] : List Nat).contains t := rfl
@[simp] theorem hD4 (t : Nat) : hint4.dies t = ([9, 14, 16, 21, 27, 31, 32, 37, 38, 44, 45] : List Nat).contains t := rfl
@[simp] theorem ow4 : (hints 4).own = none := rfl
theorem hh4 : hints 4 = hint4 := rfl
@[simp] theorem hS4 (t : Nat) : hint4.soft t = [] := rfl
@[simp] theorem hL4 (t : Nat) : hint4.lazy t = none := rfl
attribute [simp] free4 pairs4
@[simp] theorem hF4 : hint4.free = free4 := rfl
@[simp] theorem hP4 : hint4.pairs = pairs4 := rfl
attribute [simp] keep5 head5
@[simp] theorem hK5 : hint5.keep = keep5 := rfl
@[simp] theorem hH5 : hint5.head = head5 := rfl
@[simp] theorem hB5 (t : Nat) : hint5.box t = ([1] : List Nat).contains t := rfl
@[simp] theorem hD5 (t : Nat) : hint5.dies t = ([14, 18, 24, 30] : List Nat).contains t := rfl
@[simp] theorem ow5 : (hints 5).own = none := rfl
theorem hh5 : hints 5 = hint5 := rfl
@[simp] theorem hS5 (t : Nat) : hint5.soft t = [] := rfl
@[simp] theorem hL5 (t : Nat) : hint5.lazy t = none := rfl
attribute [simp] keep6 head6
@[simp] theorem hK6 : hint6.keep = keep6 := rfl
@[simp] theorem hH6 : hint6.head = head6 := rfl
@[simp] theorem hB6 (t : Nat) : hint6.box t = ([1] : List Nat).contains t := rfl
@[simp] theorem hD6 (t : Nat) : hint6.dies t = ([14, 19, 20, 27, 29, 34, 41, 42, 48] : List Nat).contains t := rfl
@[simp] theorem ow6 : (hints 6).own = none := rfl
@[simp] theorem hS6 (t : Nat) : hint6.soft t = [] := rfl
@[simp] theorem hL6 (t : Nat) : hint6.lazy t = none := rfl
attribute [simp] keep7 head7
@[simp] theorem hK7 : hint7.keep = keep7 := rfl
@[simp] theorem hH7 : hint7.head = head7 := rfl
@[simp] theorem hB7 (t : Nat) : hint7.box t = ([2, 3, 5] : List Nat).contains t := rfl
@[simp] theorem hD7 (t : Nat) : hint7.dies t = ([9, 19, 38] : List Nat).contains t := rfl
@[simp] theorem ow7 : (hints 7).own = none := rfl
theorem hh7 : hints 7 = hint7 := rfl
@[simp] theorem hS7 (t : Nat) : hint7.soft t = [] := rfl
@[simp] theorem hL7 (t : Nat) : hint7.lazy t = none := rfl
attribute [simp] keep8 head8
@[simp] theorem hK8 : hint8.keep = keep8 := rfl
@[simp] theorem hH8 : hint8.head = head8 := rfl
@[simp] theorem hB8 (t : Nat) : hint8.box t = ([1, 2] : List Nat).contains t := rfl
@[simp] theorem hD8 (t : Nat) : hint8.dies t = ([] : List Nat).contains t := rfl
@[simp] theorem ow8 : (hints 8).own = none := rfl
theorem hh8 : hints 8 = hint8 := rfl
@[simp] theorem hS8 (t : Nat) : hint8.soft t = [] := rfl
@[simp] theorem hL8 (t : Nat) : hint8.lazy t = none := rfl
attribute [simp] keep9 head9
@[simp] theorem hK9 : hint9.keep = keep9 := rfl
@[simp] theorem hH9 : hint9.head = head9 := rfl
@[simp] theorem hB9 (t : Nat) : hint9.box t = ([3, 7] : List Nat).contains t := rfl
@[simp] theorem hD9 (t : Nat) : hint9.dies t = ([8, 10, 17, 22] : List Nat).contains t := rfl
@[simp] theorem ow9 : (hints 9).own = none := rfl
@[simp] theorem hS9 (t : Nat) : hint9.soft t = [] := rfl
@[simp] theorem hL9 (t : Nat) : hint9.lazy t = none := rfl
attribute [simp] keep10 head10
@[simp] theorem hK10 : hint10.keep = keep10 := rfl
@[simp] theorem hH10 : hint10.head = head10 := rfl
@[simp] theorem hB10 (t : Nat) : hint10.box t = ([1, 6] : List Nat).contains t := rfl
@[simp] theorem hD10 (t : Nat) : hint10.dies t = ([31, 47, 60, 61, 72, 73] : List Nat).contains t := rfl
@[simp] theorem ow10 : (hints 10).own = none := rfl
theorem hh10 : hints 10 = hint10 := rfl
@[simp] theorem hS10 (t : Nat) : hint10.soft t = [] := rfl
@[simp] theorem hL10 (t : Nat) : hint10.lazy t = none := rfl
attribute [simp] free10 pairs10
@[simp] theorem hF10 : hint10.free = free10 := rfl
@[simp] theorem hP10 : hint10.pairs = pairs10 := rfl
attribute [simp] keep11 head11
@[simp] theorem hK11 : hint11.keep = keep11 := rfl
@[simp] theorem hH11 : hint11.head = head11 := rfl
@[simp] theorem hB11 (t : Nat) : hint11.box t = ([6, 7, 8] : List Nat).contains t := rfl
@[simp] theorem hD11 (t : Nat) : hint11.dies t = ([14, 28, 33, 37, 51, 52, 54] : List Nat).contains t := rfl
@[simp] theorem ow11 : (hints 11).own = none := rfl
theorem hh11 : hints 11 = hint11 := rfl
@[simp] theorem hS11 (t : Nat) : hint11.soft t = [] := rfl
@[simp] theorem hL11 (t : Nat) : hint11.lazy t = none := rfl
attribute [simp] keep12 head12
@[simp] theorem hK12 : hint12.keep = keep12 := rfl
@[simp] theorem hH12 : hint12.head = head12 := rfl
@[simp] theorem hB12 (t : Nat) : hint12.box t = ([3, 6, 7, 8] : List Nat).contains t := rfl
@[simp] theorem hD12 (t : Nat) : hint12.dies t = ([16, 30, 40, 45, 49, 56, 58, 59, 65, 67] : List Nat).contains t := rfl
@[simp] theorem ow12 : (hints 12).own = none := rfl
theorem hh12 : hints 12 = hint12 := rfl
@[simp] theorem hS12 (t : Nat) : hint12.soft t = [] := rfl
@[simp] theorem hL12 (t : Nat) : hint12.lazy t = none := rfl
attribute [simp] keep13 head13
@[simp] theorem hK13 : hint13.keep = keep13 := rfl
@[simp] theorem hH13 : hint13.head = head13 := rfl
@[simp] theorem hB13 (t : Nat) : hint13.box t = ([1] : List Nat).contains t := rfl
@[simp] theorem hD13 (t : Nat) : hint13.dies t = ([6, 11, 17, 23, 29] : List Nat).contains t := rfl
@[simp] theorem ow13 : (hints 13).own = none := rfl
theorem hh13 : hints 13 = hint13 := rfl
@[simp] theorem hS13 (t : Nat) : hint13.soft t = [] := rfl
@[simp] theorem hL13 (t : Nat) : hint13.lazy t = none := rfl
attribute [simp] keep14 head14
@[simp] theorem hK14 : hint14.keep = keep14 := rfl
@[simp] theorem hH14 : hint14.head = head14 := rfl
@[simp] theorem hB14 (t : Nat) : hint14.box t = ([3, 9, 10, 12, 13, 17, 18] : List Nat).contains t := rfl
@[simp] theorem hD14 (t : Nat) : hint14.dies t = ([21, 26, 33, 36, 46, 53, 68, 73, 79, 86, 97, 113, 120, 124, 134, 141, 158, 178, 188, 200, 204, 221, 230, 245, 252, 256, 266, 273, 298, 305, 308, 313] : List Nat).contains t := rfl
@[simp] theorem ow14 : (hints 14).own = none := rfl
theorem hh14 : hints 14 = hint14 := rfl
@[simp] theorem hS14 (t : Nat) : hint14.soft t = [] := rfl
@[simp] theorem hL14 (t : Nat) : hint14.lazy t = none := rfl
attribute [simp] free14 pairs14
@[simp] theorem hF14 : hint14.free = free14 := rfl
@[simp] theorem hP14 : hint14.pairs = pairs14 := rfl
@[simp] theorem ow15 : (hints 15).own = none := rfl
attribute [simp] keep16 head16
@[simp] theorem hK16 : hint16.keep = keep16 := rfl
@[simp] theorem hH16 : hint16.head = head16 := rfl
@[simp] theorem hB16 (t : Nat) : hint16.box t = ([1] : List Nat).contains t := rfl
@[simp] theorem hD16 (t : Nat) : hint16.dies t = ([17, 28, 45, 56, 63, 68, 82, 87, 91, 92, 96] : List Nat).contains t := rfl
@[simp] theorem ow16 : (hints 16).own = none := rfl
theorem hh16 : hints 16 = hint16 := rfl
@[simp] theorem hS16 (t : Nat) : hint16.soft t = [] := rfl
@[simp] theorem hL16 (t : Nat) : hint16.lazy t = none := rfl
attribute [simp] keep17 head17
@[simp] theorem hK17 : hint17.keep = keep17 := rfl
@[simp] theorem hH17 : hint17.head = head17 := rfl
@[simp] theorem hB17 (t : Nat) : hint17.box t = ([2, 3, 5] : List Nat).contains t := rfl
@[simp] theorem hD17 (t : Nat) : hint17.dies t = ([10, 21, 35, 43] : List Nat).contains t := rfl
@[simp] theorem ow17 : (hints 17).own = none := rfl
@[simp] theorem hS17 (t : Nat) : hint17.soft t = [] := rfl
@[simp] theorem hL17 (t : Nat) : hint17.lazy t = none := rfl
attribute [simp] free17 pairs17
@[simp] theorem hF17 : hint17.free = free17 := rfl
@[simp] theorem hP17 : hint17.pairs = pairs17 := rfl
attribute [simp] keep18 head18
@[simp] theorem hK18 : hint18.keep = keep18 := rfl
@[simp] theorem hH18 : hint18.head = head18 := rfl
@[simp] theorem hB18 (t : Nat) : hint18.box t = ([1] : List Nat).contains t := rfl
@[simp] theorem hD18 (t : Nat) : hint18.dies t = ([] : List Nat).contains t := rfl
@[simp] theorem ow18 : (hints 18).own = none := rfl
theorem hh18 : hints 18 = hint18 := rfl
@[simp] theorem hS18 (t : Nat) : hint18.soft t = [] := rfl
@[simp] theorem hL18 (t : Nat) : hint18.lazy t = none := rfl
attribute [simp] keep19 head19
@[simp] theorem hK19 : hint19.keep = keep19 := rfl
@[simp] theorem hH19 : hint19.head = head19 := rfl
@[simp] theorem hB19 (t : Nat) : hint19.box t = ([] : List Nat).contains t := rfl
@[simp] theorem hD19 (t : Nat) : hint19.dies t = ([15, 17, 24, 29, 53] : List Nat).contains t := rfl
@[simp] theorem ow19 : (hints 19).own = none := rfl
theorem hh19 : hints 19 = hint19 := rfl
@[simp] theorem hS19 (t : Nat) : hint19.soft t = [] := rfl
@[simp] theorem hL19 (t : Nat) : hint19.lazy t = none := rfl
attribute [simp] free19 pairs19
@[simp] theorem hF19 : hint19.free = free19 := rfl
@[simp] theorem hP19 : hint19.pairs = pairs19 := rfl
attribute [simp] keep20 head20
@[simp] theorem hK20 : hint20.keep = keep20 := rfl
@[simp] theorem hH20 : hint20.head = head20 := rfl
@[simp] theorem hB20 (t : Nat) : hint20.box t = ([7, 8] : List Nat).contains t := rfl
@[simp] theorem hD20 (t : Nat) : hint20.dies t = ([13, 15, 22, 32, 33, 49] : List Nat).contains t := rfl
@[simp] theorem ow20 : (hints 20).own = none := rfl
theorem hh20 : hints 20 = hint20 := rfl
@[simp] theorem hS20 (t : Nat) : hint20.soft t = [] := rfl
@[simp] theorem hL20 (t : Nat) : hint20.lazy t = none := rfl
attribute [simp] free20 pairs20
@[simp] theorem hF20 : hint20.free = free20 := rfl
@[simp] theorem hP20 : hint20.pairs = pairs20 := rfl
attribute [simp] keep21 head21
@[simp] theorem hK21 : hint21.keep = keep21 := rfl
@[simp] theorem hH21 : hint21.head = head21 := rfl
@[simp] theorem hB21 (t : Nat) : hint21.box t = ([1, 5] : List Nat).contains t := rfl
@[simp] theorem hD21 (t : Nat) : hint21.dies t = ([9, 14, 15, 25] : List Nat).contains t := rfl
@[simp] theorem ow21 : (hints 21).own = none := rfl
theorem hh21 : hints 21 = hint21 := rfl
@[simp] theorem hS21 (t : Nat) : hint21.soft t = [] := rfl
@[simp] theorem hL21 (t : Nat) : hint21.lazy t = none := rfl
attribute [simp] keep22 head22
@[simp] theorem hK22 : hint22.keep = keep22 := rfl
@[simp] theorem hH22 : hint22.head = head22 := rfl
@[simp] theorem hB22 (t : Nat) : hint22.box t = ([] : List Nat).contains t := rfl
@[simp] theorem hD22 (t : Nat) : hint22.dies t = ([5] : List Nat).contains t := rfl
@[simp] theorem ow22 : (hints 22).own = none := rfl
theorem hh22 : hints 22 = hint22 := rfl
@[simp] theorem hS22 (t : Nat) : hint22.soft t = [] := rfl
@[simp] theorem hL22 (t : Nat) : hint22.lazy t = none := rfl
attribute [simp] keep23 head23
@[simp] theorem hK23 : hint23.keep = keep23 := rfl
@[simp] theorem hH23 : hint23.head = head23 := rfl
@[simp] theorem hB23 (t : Nat) : hint23.box t = ([4] : List Nat).contains t := rfl
@[simp] theorem hD23 (t : Nat) : hint23.dies t = ([5, 7] : List Nat).contains t := rfl
@[simp] theorem ow23 : (hints 23).own = none := rfl
theorem hh23 : hints 23 = hint23 := rfl
@[simp] theorem hS23 (t : Nat) : hint23.soft t = [] := rfl
@[simp] theorem hL23 (t : Nat) : hint23.lazy t = none := rfl
attribute [simp] keep24 head24
@[simp] theorem hK24 : hint24.keep = keep24 := rfl
@[simp] theorem hH24 : hint24.head = head24 := rfl
@[simp] theorem hB24 (t : Nat) : hint24.box t = ([4] : List Nat).contains t := rfl
@[simp] theorem hD24 (t : Nat) : hint24.dies t = ([9, 16, 24, 26, 30, 32, 37, 40] : List Nat).contains t := rfl
@[simp] theorem ow24 : (hints 24).own = none := rfl
theorem hh24 : hints 24 = hint24 := rfl
@[simp] theorem hS24 (t : Nat) : hint24.soft t = [] := rfl
@[simp] theorem hL24 (t : Nat) : hint24.lazy t = none := rfl
attribute [simp] keep25 head25
@[simp] theorem hK25 : hint25.keep = keep25 := rfl
@[simp] theorem hH25 : hint25.head = head25 := rfl
@[simp] theorem hB25 (t : Nat) : hint25.box t = ([] : List Nat).contains t := rfl
@[simp] theorem hD25 (t : Nat) : hint25.dies t = ([5, 6] : List Nat).contains t := rfl
@[simp] theorem ow25 : (hints 25).own = none := rfl
theorem hh25 : hints 25 = hint25 := rfl
@[simp] theorem hS25 (t : Nat) : hint25.soft t = [] := rfl
@[simp] theorem hL25 (t : Nat) : hint25.lazy t = none := rfl
attribute [simp] keep26 head26
@[simp] theorem hK26 : hint26.keep = keep26 := rfl
@[simp] theorem hH26 : hint26.head = head26 := rfl
@[simp] theorem hB26 (t : Nat) : hint26.box t = ([6] : List Nat).contains t := rfl
@[simp] theorem hD26 (t : Nat) : hint26.dies t = ([14, 15, 21, 30, 52, 58, 59, 63, 64, 65, 68, 70, 71] : List Nat).contains t := rfl
@[simp] theorem ow26 : (hints 26).own = none := rfl
theorem hh26 : hints 26 = hint26 := rfl
@[simp] theorem hS26 (t : Nat) : hint26.soft t = [] := rfl
@[simp] theorem hL26 (t : Nat) : hint26.lazy t = none := rfl
attribute [simp] keep27 head27
@[simp] theorem hK27 : hint27.keep = keep27 := rfl
@[simp] theorem hH27 : hint27.head = head27 := rfl
@[simp] theorem hB27 (t : Nat) : hint27.box t = ([2] : List Nat).contains t := rfl
@[simp] theorem hD27 (t : Nat) : hint27.dies t = ([13, 17, 21, 32, 33] : List Nat).contains t := rfl
@[simp] theorem ow27 : (hints 27).own = none := rfl
theorem hh27 : hints 27 = hint27 := rfl
@[simp] theorem hS27 (t : Nat) : hint27.soft t = [] := rfl
@[simp] theorem hL27 (t : Nat) : hint27.lazy t = none := rfl
attribute [simp] free27 pairs27
@[simp] theorem hF27 : hint27.free = free27 := rfl
@[simp] theorem hP27 : hint27.pairs = pairs27 := rfl
attribute [simp] keep28 head28
@[simp] theorem hK28 : hint28.keep = keep28 := rfl
@[simp] theorem hH28 : hint28.head = head28 := rfl
@[simp] theorem hB28 (t : Nat) : hint28.box t = ([2] : List Nat).contains t := rfl
@[simp] theorem hD28 (t : Nat) : hint28.dies t = ([12, 16, 29, 39, 40, 51] : List Nat).contains t := rfl
@[simp] theorem ow28 : (hints 28).own = none := rfl
theorem hh28 : hints 28 = hint28 := rfl
@[simp] theorem hS28 (t : Nat) : hint28.soft t = [] := rfl
@[simp] theorem hL28 (t : Nat) : hint28.lazy t = none := rfl
attribute [simp] keep29 head29
@[simp] theorem hK29 : hint29.keep = keep29 := rfl
@[simp] theorem hH29 : hint29.head = head29 := rfl
@[simp] theorem hB29 (t : Nat) : hint29.box t = ([1] : List Nat).contains t := rfl
@[simp] theorem hD29 (t : Nat) : hint29.dies t = ([6, 11, 16, 28, 33, 47, 52, 57, 62, 67, 72, 77, 85, 90, 95] : List Nat).contains t := rfl
@[simp] theorem ow29 : (hints 29).own = none := rfl
theorem hh29 : hints 29 = hint29 := rfl
@[simp] theorem hS29 (t : Nat) : hint29.soft t = [] := rfl
@[simp] theorem hL29 (t : Nat) : hint29.lazy t = none := rfl
attribute [simp] free29 pairs29
@[simp] theorem hF29 : hint29.free = free29 := rfl
@[simp] theorem hP29 : hint29.pairs = pairs29 := rfl
attribute [simp] keep30 head30
@[simp] theorem hK30 : hint30.keep = keep30 := rfl
@[simp] theorem hH30 : hint30.head = head30 := rfl
@[simp] theorem hB30 (t : Nat) : hint30.box t = ([] : List Nat).contains t := rfl
@[simp] theorem hD30 (t : Nat) : hint30.dies t = ([10, 11, 15, 16] : List Nat).contains t := rfl
@[simp] theorem ow30 : (hints 30).own = none := rfl
theorem hh30 : hints 30 = hint30 := rfl
@[simp] theorem hS30 (t : Nat) : hint30.soft t = [] := rfl
@[simp] theorem hL30 (t : Nat) : hint30.lazy t = none := rfl
attribute [simp] keep31 head31
@[simp] theorem hK31 : hint31.keep = keep31 := rfl
@[simp] theorem hH31 : hint31.head = head31 := rfl
@[simp] theorem hB31 (t : Nat) : hint31.box t = ([2, 3] : List Nat).contains t := rfl
@[simp] theorem hD31 (t : Nat) : hint31.dies t = ([8, 16, 21, 28] : List Nat).contains t := rfl
@[simp] theorem ow31 : (hints 31).own = none := rfl
theorem hh31 : hints 31 = hint31 := rfl
@[simp] theorem hS31 (t : Nat) : hint31.soft t = [] := rfl
@[simp] theorem hL31 (t : Nat) : hint31.lazy t = none := rfl
attribute [simp] keep32 head32
@[simp] theorem hK32 : hint32.keep = keep32 := rfl
@[simp] theorem hH32 : hint32.head = head32 := rfl
@[simp] theorem hB32 (t : Nat) : hint32.box t = ([2, 3] : List Nat).contains t := rfl
@[simp] theorem hD32 (t : Nat) : hint32.dies t = ([7, 11, 16] : List Nat).contains t := rfl
@[simp] theorem ow32 : (hints 32).own = none := rfl
theorem hh32 : hints 32 = hint32 := rfl
@[simp] theorem hS32 (t : Nat) : hint32.soft t = [] := rfl
@[simp] theorem hL32 (t : Nat) : hint32.lazy t = none := rfl
attribute [simp] keep33 head33
@[simp] theorem hK33 : hint33.keep = keep33 := rfl
@[simp] theorem hH33 : hint33.head = head33 := rfl
@[simp] theorem hB33 (t : Nat) : hint33.box t = ([2, 3] : List Nat).contains t := rfl
@[simp] theorem hD33 (t : Nat) : hint33.dies t = ([8, 16, 21, 28, 35] : List Nat).contains t := rfl
@[simp] theorem ow33 : (hints 33).own = none := rfl
theorem hh33 : hints 33 = hint33 := rfl
@[simp] theorem hS33 (t : Nat) : hint33.soft t = [] := rfl
@[simp] theorem hL33 (t : Nat) : hint33.lazy t = none := rfl
attribute [simp] keep34 head34
@[simp] theorem hK34 : hint34.keep = keep34 := rfl
@[simp] theorem hH34 : hint34.head = head34 := rfl
@[simp] theorem hB34 (t : Nat) : hint34.box t = ([2] : List Nat).contains t := rfl
@[simp] theorem hD34 (t : Nat) : hint34.dies t = ([12, 16, 26, 36, 52] : List Nat).contains t := rfl
@[simp] theorem ow34 : (hints 34).own = none := rfl
theorem hh34 : hints 34 = hint34 := rfl
@[simp] theorem hS34 (t : Nat) : hint34.soft t = [] := rfl
@[simp] theorem hL34 (t : Nat) : hint34.lazy t = none := rfl
attribute [simp] free34 pairs34
@[simp] theorem hF34 : hint34.free = free34 := rfl
@[simp] theorem hP34 : hint34.pairs = pairs34 := rfl
@[simp] theorem ow38 : (hints 38).own = none := rfl
@[simp] theorem ow39 : (hints 39).own = none := rfl
attribute [simp] keep40 head40
@[simp] theorem hK40 : hint40.keep = keep40 := rfl
@[simp] theorem hH40 : hint40.head = head40 := rfl
@[simp] theorem hB40 (t : Nat) : hint40.box t = ([9] : List Nat).contains t := rfl
@[simp] theorem hD40 (t : Nat) : hint40.dies t = ([10, 12, 17, 19, 23, 37] : List Nat).contains t := rfl
@[simp] theorem ow40 : (hints 40).own = none := rfl
theorem hh40 : hints 40 = hint40 := rfl
@[simp] theorem hS40 (t : Nat) : hint40.soft t = [] := rfl
@[simp] theorem hL40 (t : Nat) : hint40.lazy t = none := rfl
attribute [simp] keep41 head41
@[simp] theorem hK41 : hint41.keep = keep41 := rfl
@[simp] theorem hH41 : hint41.head = head41 := rfl
@[simp] theorem hB41 (t : Nat) : hint41.box t = ([] : List Nat).contains t := rfl
@[simp] theorem hD41 (t : Nat) : hint41.dies t = ([5] : List Nat).contains t := rfl
@[simp] theorem ow41 : (hints 41).own = none := rfl
theorem hh41 : hints 41 = hint41 := rfl
@[simp] theorem hS41 (t : Nat) : hint41.soft t = [] := rfl
@[simp] theorem hL41 (t : Nat) : hint41.lazy t = none := rfl
@[simp] theorem ow42 : (hints 42).own = none := rfl
@[simp] theorem ow43 : (hints 43).own = none := rfl
@[simp] theorem ow44 : (hints 44).own = none := rfl
attribute [simp] keep45 head45
@[simp] theorem hK45 : hint45.keep = keep45 := rfl
@[simp] theorem hH45 : hint45.head = head45 := rfl
@[simp] theorem hB45 (t : Nat) : hint45.box t = ([5] : List Nat).contains t := rfl
@[simp] theorem hD45 (t : Nat) : hint45.dies t = ([12, 13, 14, 19, 21, 22, 23, 26] : List Nat).contains t := rfl
@[simp] theorem ow45 : (hints 45).own = some 0 := rfl
theorem hh45 : hints 45 = hint45 := rfl
@[simp] theorem hS45 (t : Nat) : hint45.soft t = [] := rfl
@[simp] theorem hL45 (t : Nat) : hint45.lazy t = none := rfl
attribute [simp] keep46 head46
@[simp] theorem hK46 : hint46.keep = keep46 := rfl
@[simp] theorem hH46 : hint46.head = head46 := rfl
@[simp] theorem hB46 (t : Nat) : hint46.box t = ([] : List Nat).contains t := rfl
@[simp] theorem hD46 (t : Nat) : hint46.dies t = ([3] : List Nat).contains t := rfl
@[simp] theorem ow46 : (hints 46).own = none := rfl
theorem hh46 : hints 46 = hint46 := rfl
@[simp] theorem hS46 (t : Nat) : hint46.soft t = [] := rfl
@[simp] theorem hL46 (t : Nat) : hint46.lazy t = none := rfl
attribute [simp] keep47 head47
@[simp] theorem hK47 : hint47.keep = keep47 := rfl
@[simp] theorem hH47 : hint47.head = head47 := rfl
@[simp] theorem hB47 (t : Nat) : hint47.box t = ([] : List Nat).contains t := rfl
@[simp] theorem hD47 (t : Nat) : hint47.dies t = ([6] : List Nat).contains t := rfl
@[simp] theorem ow47 : (hints 47).own = none := rfl
theorem hh47 : hints 47 = hint47 := rfl
@[simp] theorem hS47 (t : Nat) : hint47.soft t = [] := rfl
@[simp] theorem hL47 (t : Nat) : hint47.lazy t = none := rfl
attribute [simp] keep48 head48
@[simp] theorem hK48 : hint48.keep = keep48 := rfl
@[simp] theorem hH48 : hint48.head = head48 := rfl
@[simp] theorem hB48 (t : Nat) : hint48.box t = ([] : List Nat).contains t := rfl
@[simp] theorem hD48 (t : Nat) : hint48.dies t = ([15] : List Nat).contains t := rfl
@[simp] theorem ow48 : (hints 48).own = none := rfl
theorem hh48 : hints 48 = hint48 := rfl
@[simp] theorem hS48 (t : Nat) : hint48.soft t = [] := rfl
@[simp] theorem hL48 (t : Nat) : hint48.lazy t = none := rfl
attribute [simp] free48 pairs48
@[simp] theorem hF48 : hint48.free = free48 := rfl
@[simp] theorem hP48 : hint48.pairs = pairs48 := rfl
attribute [simp] keep49 head49
@[simp] theorem hK49 : hint49.keep = keep49 := rfl
@[simp] theorem hH49 : hint49.head = head49 := rfl
@[simp] theorem hB49 (t : Nat) : hint49.box t = ([] : List Nat).contains t := rfl
@[simp] theorem hD49 (t : Nat) : hint49.dies t = ([5, 6] : List Nat).contains t := rfl
@[simp] theorem ow49 : (hints 49).own = none := rfl
theorem hh49 : hints 49 = hint49 := rfl
@[simp] theorem hS49 (t : Nat) : hint49.soft t = [] := rfl
@[simp] theorem hL49 (t : Nat) : hint49.lazy t = none := rfl
attribute [simp] keep50 head50
@[simp] theorem hK50 : hint50.keep = keep50 := rfl
@[simp] theorem hH50 : hint50.head = head50 := rfl
@[simp] theorem hB50 (t : Nat) : hint50.box t = ([2] : List Nat).contains t := rfl
@[simp] theorem hD50 (t : Nat) : hint50.dies t = ([7, 10] : List Nat).contains t := rfl
@[simp] theorem ow50 : (hints 50).own = none := rfl
theorem hh50 : hints 50 = hint50 := rfl
@[simp] theorem hS50 (t : Nat) : hint50.soft t = [] := rfl
@[simp] theorem hL50 (t : Nat) : hint50.lazy t = none := rfl
attribute [simp] keep51 head51
@[simp] theorem hK51 : hint51.keep = keep51 := rfl
@[simp] theorem hH51 : hint51.head = head51 := rfl
@[simp] theorem hB51 (t : Nat) : hint51.box t = ([1, 2] : List Nat).contains t := rfl
@[simp] theorem hD51 (t : Nat) : hint51.dies t = ([] : List Nat).contains t := rfl
@[simp] theorem ow51 : (hints 51).own = none := rfl
theorem hh51 : hints 51 = hint51 := rfl
@[simp] theorem hS51 (t : Nat) : hint51.soft t = [] := rfl
@[simp] theorem hL51 (t : Nat) : hint51.lazy t = none := rfl
attribute [simp] keep52 head52
@[simp] theorem hK52 : hint52.keep = keep52 := rfl
@[simp] theorem hH52 : hint52.head = head52 := rfl
@[simp] theorem hB52 (t : Nat) : hint52.box t = ([] : List Nat).contains t := rfl
@[simp] theorem hD52 (t : Nat) : hint52.dies t = ([5, 6] : List Nat).contains t := rfl
@[simp] theorem ow52 : (hints 52).own = none := rfl
theorem hh52 : hints 52 = hint52 := rfl
@[simp] theorem hS52 (t : Nat) : hint52.soft t = [] := rfl
@[simp] theorem hL52 (t : Nat) : hint52.lazy t = none := rfl
attribute [simp] keep53 head53
@[simp] theorem hK53 : hint53.keep = keep53 := rfl
@[simp] theorem hH53 : hint53.head = head53 := rfl
@[simp] theorem hB53 (t : Nat) : hint53.box t = ([2, 4] : List Nat).contains t := rfl
@[simp] theorem hD53 (t : Nat) : hint53.dies t = ([6, 14] : List Nat).contains t := rfl
@[simp] theorem ow53 : (hints 53).own = none := rfl
theorem hh53 : hints 53 = hint53 := rfl
@[simp] theorem hS53 (t : Nat) : hint53.soft t = [] := rfl
@[simp] theorem hL53 (t : Nat) : hint53.lazy t = none := rfl
attribute [simp] free53 pairs53
@[simp] theorem hF53 : hint53.free = free53 := rfl
@[simp] theorem hP53 : hint53.pairs = pairs53 := rfl
attribute [simp] keep54 head54
@[simp] theorem hK54 : hint54.keep = keep54 := rfl
@[simp] theorem hH54 : hint54.head = head54 := rfl
@[simp] theorem hB54 (t : Nat) : hint54.box t = ([2, 3, 4, 6] : List Nat).contains t := rfl
@[simp] theorem hD54 (t : Nat) : hint54.dies t = ([10] : List Nat).contains t := rfl
@[simp] theorem ow54 : (hints 54).own = none := rfl
theorem hh54 : hints 54 = hint54 := rfl
@[simp] theorem hS54 (t : Nat) : hint54.soft t = [] := rfl
@[simp] theorem hL54 (t : Nat) : hint54.lazy t = none := rfl
attribute [simp] keep55 head55
@[simp] theorem hK55 : hint55.keep = keep55 := rfl
@[simp] theorem hH55 : hint55.head = head55 := rfl
@[simp] theorem hB55 (t : Nat) : hint55.box t = ([1] : List Nat).contains t := rfl
@[simp] theorem hD55 (t : Nat) : hint55.dies t = ([6, 11, 16, 21, 26] : List Nat).contains t := rfl
@[simp] theorem ow55 : (hints 55).own = none := rfl
theorem hh55 : hints 55 = hint55 := rfl
@[simp] theorem hS55 (t : Nat) : hint55.soft t = [] := rfl
@[simp] theorem hL55 (t : Nat) : hint55.lazy t = none := rfl
attribute [simp] keep56 head56
@[simp] theorem hK56 : hint56.keep = keep56 := rfl
@[simp] theorem hH56 : hint56.head = head56 := rfl
@[simp] theorem hB56 (t : Nat) : hint56.box t = ([1, 2] : List Nat).contains t := rfl
@[simp] theorem hD56 (t : Nat) : hint56.dies t = ([] : List Nat).contains t := rfl
@[simp] theorem ow56 : (hints 56).own = none := rfl
theorem hh56 : hints 56 = hint56 := rfl
@[simp] theorem hS56 (t : Nat) : hint56.soft t = [] := rfl
@[simp] theorem hL56 (t : Nat) : hint56.lazy t = none := rfl
attribute [simp] keep57 head57
@[simp] theorem hK57 : hint57.keep = keep57 := rfl
@[simp] theorem hH57 : hint57.head = head57 := rfl
@[simp] theorem hB57 (t : Nat) : hint57.box t = ([] : List Nat).contains t := rfl
@[simp] theorem hD57 (t : Nat) : hint57.dies t = ([5, 10, 12, 13] : List Nat).contains t := rfl
@[simp] theorem ow57 : (hints 57).own = none := rfl
theorem hh57 : hints 57 = hint57 := rfl
@[simp] theorem hS57 (t : Nat) : hint57.soft t = [] := rfl
@[simp] theorem hL57 (t : Nat) : hint57.lazy t = none := rfl
attribute [simp] keep58 head58
@[simp] theorem hK58 : hint58.keep = keep58 := rfl
@[simp] theorem hH58 : hint58.head = head58 := rfl
@[simp] theorem hB58 (t : Nat) : hint58.box t = ([] : List Nat).contains t := rfl
@[simp] theorem hD58 (t : Nat) : hint58.dies t = ([5] : List Nat).contains t := rfl
@[simp] theorem ow58 : (hints 58).own = none := rfl
theorem hh58 : hints 58 = hint58 := rfl
@[simp] theorem hS58 (t : Nat) : hint58.soft t = [] := rfl
@[simp] theorem hL58 (t : Nat) : hint58.lazy t = none := rfl
attribute [simp] keep59 head59
@[simp] theorem hK59 : hint59.keep = keep59 := rfl
@[simp] theorem hH59 : hint59.head = head59 := rfl
@[simp] theorem hB59 (t : Nat) : hint59.box t = ([4, 8] : List Nat).contains t := rfl
@[simp] theorem hD59 (t : Nat) : hint59.dies t = ([12, 17, 18, 26, 31, 40, 60] : List Nat).contains t := rfl
@[simp] theorem ow59 : (hints 59).own = none := rfl
theorem hh59 : hints 59 = hint59 := rfl
@[simp] theorem hS59 (t : Nat) : hint59.soft t = [] := rfl
@[simp] theorem hL59 (t : Nat) : hint59.lazy t = none := rfl
attribute [simp] keep60 head60
@[simp] theorem hK60 : hint60.keep = keep60 := rfl
@[simp] theorem hH60 : hint60.head = head60 := rfl
@[simp] theorem hB60 (t : Nat) : hint60.box t = ([] : List Nat).contains t := rfl
@[simp] theorem hD60 (t : Nat) : hint60.dies t = ([9, 16, 17] : List Nat).contains t := rfl
@[simp] theorem ow60 : (hints 60).own = none := rfl
theorem hh60 : hints 60 = hint60 := rfl
@[simp] theorem hS60 (t : Nat) : hint60.soft t = [] := rfl
@[simp] theorem hL60 (t : Nat) : hint60.lazy t = none := rfl
attribute [simp] free60 pairs60
@[simp] theorem hF60 : hint60.free = free60 := rfl
@[simp] theorem hP60 : hint60.pairs = pairs60 := rfl
attribute [simp] keep61 head61
@[simp] theorem hK61 : hint61.keep = keep61 := rfl
@[simp] theorem hH61 : hint61.head = head61 := rfl
@[simp] theorem hB61 (t : Nat) : hint61.box t = ([] : List Nat).contains t := rfl
@[simp] theorem hD61 (t : Nat) : hint61.dies t = ([5] : List Nat).contains t := rfl
@[simp] theorem ow61 : (hints 61).own = none := rfl
theorem hh61 : hints 61 = hint61 := rfl
@[simp] theorem hS61 (t : Nat) : hint61.soft t = [] := rfl
@[simp] theorem hL61 (t : Nat) : hint61.lazy t = none := rfl
attribute [simp] keep62 head62
@[simp] theorem hK62 : hint62.keep = keep62 := rfl
@[simp] theorem hH62 : hint62.head = head62 := rfl
@[simp] theorem hB62 (t : Nat) : hint62.box t = ([4] : List Nat).contains t := rfl
@[simp] theorem hD62 (t : Nat) : hint62.dies t = ([7, 11, 18, 19] : List Nat).contains t := rfl
@[simp] theorem ow62 : (hints 62).own = none := rfl
theorem hh62 : hints 62 = hint62 := rfl
@[simp] theorem hS62 (t : Nat) : hint62.soft t = [] := rfl
@[simp] theorem hL62 (t : Nat) : hint62.lazy t = none := rfl
attribute [simp] keep63 head63
@[simp] theorem hK63 : hint63.keep = keep63 := rfl
@[simp] theorem hH63 : hint63.head = head63 := rfl
@[simp] theorem hB63 (t : Nat) : hint63.box t = ([] : List Nat).contains t := rfl
@[simp] theorem hD63 (t : Nat) : hint63.dies t = ([12, 13, 23, 34] : List Nat).contains t := rfl
@[simp] theorem ow63 : (hints 63).own = none := rfl
theorem hh63 : hints 63 = hint63 := rfl
@[simp] theorem hS63 (t : Nat) : hint63.soft t = [] := rfl
@[simp] theorem hL63 (t : Nat) : hint63.lazy t = none := rfl
attribute [simp] keep64 head64
@[simp] theorem hK64 : hint64.keep = keep64 := rfl
@[simp] theorem hH64 : hint64.head = head64 := rfl
@[simp] theorem hB64 (t : Nat) : hint64.box t = ([2] : List Nat).contains t := rfl
@[simp] theorem hD64 (t : Nat) : hint64.dies t = ([7, 13, 14] : List Nat).contains t := rfl
@[simp] theorem ow64 : (hints 64).own = none := rfl
theorem hh64 : hints 64 = hint64 := rfl
@[simp] theorem hS64 (t : Nat) : hint64.soft t = [] := rfl
@[simp] theorem hL64 (t : Nat) : hint64.lazy t = none := rfl
attribute [simp] keep65 head65
@[simp] theorem hK65 : hint65.keep = keep65 := rfl
@[simp] theorem hH65 : hint65.head = head65 := rfl
@[simp] theorem hB65 (t : Nat) : hint65.box t = ([] : List Nat).contains t := rfl
@[simp] theorem hD65 (t : Nat) : hint65.dies t = ([6, 9] : List Nat).contains t := rfl
@[simp] theorem ow65 : (hints 65).own = none := rfl
theorem hh65 : hints 65 = hint65 := rfl
@[simp] theorem hS65 (t : Nat) : hint65.soft t = [] := rfl
@[simp] theorem hL65 (t : Nat) : hint65.lazy t = none := rfl
attribute [simp] keep66 head66
@[simp] theorem hK66 : hint66.keep = keep66 := rfl
@[simp] theorem hH66 : hint66.head = head66 := rfl
@[simp] theorem hB66 (t : Nat) : hint66.box t = ([3] : List Nat).contains t := rfl
@[simp] theorem hD66 (t : Nat) : hint66.dies t = ([10, 14] : List Nat).contains t := rfl
@[simp] theorem ow66 : (hints 66).own = none := rfl
theorem hh66 : hints 66 = hint66 := rfl
@[simp] theorem hS66 (t : Nat) : hint66.soft t = [] := rfl
@[simp] theorem hL66 (t : Nat) : hint66.lazy t = none := rfl
attribute [simp] keep67 head67
@[simp] theorem hK67 : hint67.keep = keep67 := rfl
@[simp] theorem hH67 : hint67.head = head67 := rfl
@[simp] theorem hB67 (t : Nat) : hint67.box t = ([] : List Nat).contains t := rfl
@[simp] theorem hD67 (t : Nat) : hint67.dies t = ([5, 9, 13, 17, 21] : List Nat).contains t := rfl
@[simp] theorem ow67 : (hints 67).own = none := rfl
theorem hh67 : hints 67 = hint67 := rfl
@[simp] theorem hS67 (t : Nat) : hint67.soft t = [] := rfl
@[simp] theorem hL67 (t : Nat) : hint67.lazy t = none := rfl
attribute [simp] keep68 head68
@[simp] theorem hK68 : hint68.keep = keep68 := rfl
@[simp] theorem hH68 : hint68.head = head68 := rfl
@[simp] theorem hB68 (t : Nat) : hint68.box t = ([1] : List Nat).contains t := rfl
@[simp] theorem hD68 (t : Nat) : hint68.dies t = ([] : List Nat).contains t := rfl
@[simp] theorem ow68 : (hints 68).own = none := rfl
theorem hh68 : hints 68 = hint68 := rfl
@[simp] theorem hS68 (t : Nat) : hint68.soft t = [] := rfl
@[simp] theorem hL68 (t : Nat) : hint68.lazy t = none := rfl
attribute [simp] keep69 head69
@[simp] theorem hK69 : hint69.keep = keep69 := rfl
@[simp] theorem hH69 : hint69.head = head69 := rfl
@[simp] theorem hB69 (t : Nat) : hint69.box t = ([2] : List Nat).contains t := rfl
@[simp] theorem hD69 (t : Nat) : hint69.dies t = ([8, 14, 15] : List Nat).contains t := rfl
@[simp] theorem ow69 : (hints 69).own = none := rfl
theorem hh69 : hints 69 = hint69 := rfl
@[simp] theorem hS69 (t : Nat) : hint69.soft t = [] := rfl
@[simp] theorem hL69 (t : Nat) : hint69.lazy t = none := rfl
attribute [simp] keep75 head75
@[simp] theorem hK75 : hint75.keep = keep75 := rfl
@[simp] theorem hH75 : hint75.head = head75 := rfl
@[simp] theorem hB75 (t : Nat) : hint75.box t = ([] : List Nat).contains t := rfl
@[simp] theorem hD75 (t : Nat) : hint75.dies t = ([3] : List Nat).contains t := rfl
@[simp] theorem ow75 : (hints 75).own = none := rfl
theorem hh75 : hints 75 = hint75 := rfl
@[simp] theorem hS75 (t : Nat) : hint75.soft t = [] := rfl
@[simp] theorem hL75 (t : Nat) : hint75.lazy t = none := rfl
attribute [simp] keep80 head80
@[simp] theorem hK80 : hint80.keep = keep80 := rfl
@[simp] theorem hH80 : hint80.head = head80 := rfl
@[simp] theorem hB80 (t : Nat) : hint80.box t = ([] : List Nat).contains t := rfl
@[simp] theorem hD80 (t : Nat) : hint80.dies t = ([15, 16, 21, 22] : List Nat).contains t := rfl
@[simp] theorem ow80 : (hints 80).own = none := rfl
theorem hh80 : hints 80 = hint80 := rfl
@[simp] theorem hS80 (t : Nat) : hint80.soft t = [] := rfl
@[simp] theorem hL80 (t : Nat) : hint80.lazy t = none := rfl
attribute [simp] keep81 head81
@[simp] theorem hK81 : hint81.keep = keep81 := rfl
@[simp] theorem hH81 : hint81.head = head81 := rfl
@[simp] theorem hB81 (t : Nat) : hint81.box t = ([] : List Nat).contains t := rfl
@[simp] theorem hD81 (t : Nat) : hint81.dies t = ([5] : List Nat).contains t := rfl
@[simp] theorem ow81 : (hints 81).own = none := rfl
theorem hh81 : hints 81 = hint81 := rfl
@[simp] theorem hS81 (t : Nat) : hint81.soft t = [] := rfl
@[simp] theorem hL81 (t : Nat) : hint81.lazy t = none := rfl
attribute [simp] keep82 head82
@[simp] theorem hK82 : hint82.keep = keep82 := rfl
@[simp] theorem hH82 : hint82.head = head82 := rfl
@[simp] theorem hB82 (t : Nat) : hint82.box t = ([] : List Nat).contains t := rfl
@[simp] theorem hD82 (t : Nat) : hint82.dies t = ([5] : List Nat).contains t := rfl
@[simp] theorem ow82 : (hints 82).own = none := rfl
@[simp] theorem hS82 (t : Nat) : hint82.soft t = [] := rfl
@[simp] theorem hL82 (t : Nat) : hint82.lazy t = none := rfl
@[simp] theorem ow83 : (hints 83).own = none := rfl
attribute [simp] keep84 head84
@[simp] theorem hK84 : hint84.keep = keep84 := rfl
@[simp] theorem hH84 : hint84.head = head84 := rfl
@[simp] theorem hB84 (t : Nat) : hint84.box t = ([] : List Nat).contains t := rfl
@[simp] theorem hD84 (t : Nat) : hint84.dies t = ([16, 21] : List Nat).contains t := rfl
@[simp] theorem ow84 : (hints 84).own = none := rfl
theorem hh84 : hints 84 = hint84 := rfl
@[simp] theorem hS84 (t : Nat) : hint84.soft t = [] := rfl
@[simp] theorem hL84 (t : Nat) : hint84.lazy t = none := rfl
attribute [simp] free84 pairs84
@[simp] theorem hF84 : hint84.free = free84 := rfl
@[simp] theorem hP84 : hint84.pairs = pairs84 := rfl
attribute [simp] keep89 head89
@[simp] theorem hK89 : hint89.keep = keep89 := rfl
@[simp] theorem hH89 : hint89.head = head89 := rfl
@[simp] theorem hB89 (t : Nat) : hint89.box t = ([] : List Nat).contains t := rfl
@[simp] theorem hD89 (t : Nat) : hint89.dies t = ([5, 6] : List Nat).contains t := rfl
@[simp] theorem ow89 : (hints 89).own = none := rfl
@[simp] theorem hS89 (t : Nat) : hint89.soft t = [] := rfl
@[simp] theorem hL89 (t : Nat) : hint89.lazy t = none := rfl
attribute [simp] keep93 head93
@[simp] theorem hK93 : hint93.keep = keep93 := rfl
@[simp] theorem hH93 : hint93.head = head93 := rfl
@[simp] theorem hB93 (t : Nat) : hint93.box t = ([] : List Nat).contains t := rfl
@[simp] theorem hD93 (t : Nat) : hint93.dies t = ([21, 32, 34, 35] : List Nat).contains t := rfl
@[simp] theorem ow93 : (hints 93).own = none := rfl
theorem hh93 : hints 93 = hint93 := rfl
@[simp] theorem hS93 (t : Nat) : hint93.soft t = [] := rfl
@[simp] theorem hL93 (t : Nat) : hint93.lazy t = none := rfl
attribute [simp] free93 pairs93
@[simp] theorem hF93 : hint93.free = free93 := rfl
@[simp] theorem hP93 : hint93.pairs = pairs93 := rfl
attribute [simp] keep94 head94
@[simp] theorem hK94 : hint94.keep = keep94 := rfl
@[simp] theorem hH94 : hint94.head = head94 := rfl
@[simp] theorem hB94 (t : Nat) : hint94.box t = ([] : List Nat).contains t := rfl
@[simp] theorem hD94 (t : Nat) : hint94.dies t = ([3] : List Nat).contains t := rfl
@[simp] theorem ow94 : (hints 94).own = none := rfl
theorem hh94 : hints 94 = hint94 := rfl
@[simp] theorem hS94 (t : Nat) : hint94.soft t = [] := rfl
@[simp] theorem hL94 (t : Nat) : hint94.lazy t = none := rfl
@[simp] theorem ow95 : (hints 95).own = none := rfl
attribute [simp] keep96 head96
@[simp] theorem hK96 : hint96.keep = keep96 := rfl
@[simp] theorem hH96 : hint96.head = head96 := rfl
@[simp] theorem hB96 (t : Nat) : hint96.box t = ([1] : List Nat).contains t := rfl
@[simp] theorem hD96 (t : Nat) : hint96.dies t = ([6, 12, 18] : List Nat).contains t := rfl
@[simp] theorem ow96 : (hints 96).own = none := rfl
theorem hh96 : hints 96 = hint96 := rfl
@[simp] theorem hS96 (t : Nat) : hint96.soft t = [] := rfl
@[simp] theorem hL96 (t : Nat) : hint96.lazy t = none := rfl
attribute [simp] keep97 head97
@[simp] theorem hK97 : hint97.keep = keep97 := rfl
@[simp] theorem hH97 : hint97.head = head97 := rfl
@[simp] theorem hB97 (t : Nat) : hint97.box t = ([] : List Nat).contains t := rfl
@[simp] theorem hD97 (t : Nat) : hint97.dies t = ([9, 13, 14] : List Nat).contains t := rfl
@[simp] theorem ow97 : (hints 97).own = some 0 := rfl
theorem hh97 : hints 97 = hint97 := rfl
@[simp] theorem hS97 (t : Nat) : hint97.soft t = [] := rfl
@[simp] theorem hL97 (t : Nat) : hint97.lazy t = none := rfl
attribute [simp] keep98 head98
@[simp] theorem hK98 : hint98.keep = keep98 := rfl
@[simp] theorem hH98 : hint98.head = head98 := rfl
@[simp] theorem hB98 (t : Nat) : hint98.box t = ([] : List Nat).contains t := rfl
@[simp] theorem hD98 (t : Nat) : hint98.dies t = ([11, 15, 16, 23, 31, 42, 51, 60, 71, 75] : List Nat).contains t := rfl
@[simp] theorem ow98 : (hints 98).own = some 0 := rfl
theorem hh98 : hints 98 = hint98 := rfl
@[simp] theorem hS98 (t : Nat) : hint98.soft t = [] := rfl
@[simp] theorem hL98 (t : Nat) : hint98.lazy t = none := rfl
attribute [simp] free98 pairs98
@[simp] theorem hF98 : hint98.free = free98 := rfl
@[simp] theorem hP98 : hint98.pairs = pairs98 := rfl
attribute [simp] keep99 head99
@[simp] theorem hK99 : hint99.keep = keep99 := rfl
@[simp] theorem hH99 : hint99.head = head99 := rfl
@[simp] theorem hB99 (t : Nat) : hint99.box t = ([] : List Nat).contains t := rfl
@[simp] theorem hD99 (t : Nat) : hint99.dies t = ([9, 13, 14] : List Nat).contains t := rfl
@[simp] theorem ow99 : (hints 99).own = some 0 := rfl
theorem hh99 : hints 99 = hint99 := rfl
@[simp] theorem hS99 (t : Nat) : hint99.soft t = [] := rfl
@[simp] theorem hL99 (t : Nat) : hint99.lazy t = none := rfl
attribute [simp] keep100 head100
@[simp] theorem hK100 : hint100.keep = keep100 := rfl
@[simp] theorem hH100 : hint100.head = head100 := rfl
@[simp] theorem hB100 (t : Nat) : hint100.box t = ([] : List Nat).contains t := rfl
@[simp] theorem hD100 (t : Nat) : hint100.dies t = ([10, 11, 17, 18, 25] : List Nat).contains t := rfl
@[simp] theorem ow100 : (hints 100).own = some 0 := rfl
theorem hh100 : hints 100 = hint100 := rfl
@[simp] theorem hS100 (t : Nat) : hint100.soft t = [] := rfl
@[simp] theorem hL100 (t : Nat) : hint100.lazy t = none := rfl
attribute [simp] keep101 head101
@[simp] theorem hK101 : hint101.keep = keep101 := rfl
@[simp] theorem hH101 : hint101.head = head101 := rfl
@[simp] theorem hB101 (t : Nat) : hint101.box t = ([] : List Nat).contains t := rfl
@[simp] theorem hD101 (t : Nat) : hint101.dies t = ([11] : List Nat).contains t := rfl
@[simp] theorem ow101 : (hints 101).own = none := rfl
theorem hh101 : hints 101 = hint101 := rfl
@[simp] theorem hS101 (t : Nat) : hint101.soft t = [] := rfl
@[simp] theorem hL101 (t : Nat) : hint101.lazy t = none := rfl
attribute [simp] free101 pairs101
@[simp] theorem hF101 : hint101.free = free101 := rfl
@[simp] theorem hP101 : hint101.pairs = pairs101 := rfl
attribute [simp] keep102 head102
@[simp] theorem hK102 : hint102.keep = keep102 := rfl
@[simp] theorem hH102 : hint102.head = head102 := rfl
@[simp] theorem hB102 (t : Nat) : hint102.box t = ([2, 7] : List Nat).contains t := rfl
@[simp] theorem hD102 (t : Nat) : hint102.dies t = ([13, 21, 26, 35] : List Nat).contains t := rfl
@[simp] theorem ow102 : (hints 102).own = none := rfl
theorem hh102 : hints 102 = hint102 := rfl
@[simp] theorem hS102 (t : Nat) : hint102.soft t = [] := rfl
@[simp] theorem hL102 (t : Nat) : hint102.lazy t = none := rfl
attribute [simp] keep103 head103
@[simp] theorem hK103 : hint103.keep = keep103 := rfl
@[simp] theorem hH103 : hint103.head = head103 := rfl
@[simp] theorem hB103 (t : Nat) : hint103.box t = ([1] : List Nat).contains t := rfl
@[simp] theorem hD103 (t : Nat) : hint103.dies t = ([6] : List Nat).contains t := rfl
@[simp] theorem ow103 : (hints 103).own = none := rfl
theorem hh103 : hints 103 = hint103 := rfl
@[simp] theorem hS103 (t : Nat) : hint103.soft t = [] := rfl
@[simp] theorem hL103 (t : Nat) : hint103.lazy t = none := rfl
attribute [simp] keep104 head104
@[simp] theorem hK104 : hint104.keep = keep104 := rfl
@[simp] theorem hH104 : hint104.head = head104 := rfl
@[simp] theorem hB104 (t : Nat) : hint104.box t = ([] : List Nat).contains t := rfl
@[simp] theorem hD104 (t : Nat) : hint104.dies t = ([8, 17] : List Nat).contains t := rfl
@[simp] theorem ow104 : (hints 104).own = none := rfl
theorem hh104 : hints 104 = hint104 := rfl
@[simp] theorem hS104 (t : Nat) : hint104.soft t = [] := rfl
@[simp] theorem hL104 (t : Nat) : hint104.lazy t = none := rfl
attribute [simp] keep105 head105
@[simp] theorem hK105 : hint105.keep = keep105 := rfl
@[simp] theorem hH105 : hint105.head = head105 := rfl
@[simp] theorem hB105 (t : Nat) : hint105.box t = ([] : List Nat).contains t := rfl
@[simp] theorem hD105 (t : Nat) : hint105.dies t = ([9, 21, 22] : List Nat).contains t := rfl
@[simp] theorem ow105 : (hints 105).own = none := rfl
theorem hh105 : hints 105 = hint105 := rfl
@[simp] theorem hS105 (t : Nat) : hint105.soft t = [] := rfl
@[simp] theorem hL105 (t : Nat) : hint105.lazy t = none := rfl
attribute [simp] keep106 head106
@[simp] theorem hK106 : hint106.keep = keep106 := rfl
@[simp] theorem hH106 : hint106.head = head106 := rfl
@[simp] theorem hB106 (t : Nat) : hint106.box t = ([] : List Nat).contains t := rfl
@[simp] theorem hD106 (t : Nat) : hint106.dies t = ([5, 6] : List Nat).contains t := rfl
@[simp] theorem ow106 : (hints 106).own = none := rfl
theorem hh106 : hints 106 = hint106 := rfl
@[simp] theorem hS106 (t : Nat) : hint106.soft t = [] := rfl
@[simp] theorem hL106 (t : Nat) : hint106.lazy t = none := rfl
attribute [simp] keep107 head107
@[simp] theorem hK107 : hint107.keep = keep107 := rfl
@[simp] theorem hH107 : hint107.head = head107 := rfl
@[simp] theorem hB107 (t : Nat) : hint107.box t = ([1] : List Nat).contains t := rfl
@[simp] theorem hD107 (t : Nat) : hint107.dies t = ([] : List Nat).contains t := rfl
@[simp] theorem ow107 : (hints 107).own = none := rfl
theorem hh107 : hints 107 = hint107 := rfl
@[simp] theorem hS107 (t : Nat) : hint107.soft t = [] := rfl
@[simp] theorem hL107 (t : Nat) : hint107.lazy t = none := rfl
attribute [simp] keep108 head108
@[simp] theorem hK108 : hint108.keep = keep108 := rfl
@[simp] theorem hH108 : hint108.head = head108 := rfl
@[simp] theorem hB108 (t : Nat) : hint108.box t = ([2, 4] : List Nat).contains t := rfl
@[simp] theorem hD108 (t : Nat) : hint108.dies t = ([11, 29] : List Nat).contains t := rfl
@[simp] theorem ow108 : (hints 108).own = none := rfl
theorem hh108 : hints 108 = hint108 := rfl
@[simp] theorem hS108 (t : Nat) : hint108.soft t = [] := rfl
@[simp] theorem hL108 (t : Nat) : hint108.lazy t = none := rfl
attribute [simp] free108 pairs108
@[simp] theorem hF108 : hint108.free = free108 := rfl
@[simp] theorem hP108 : hint108.pairs = pairs108 := rfl
attribute [simp] keep116 head116
@[simp] theorem hK116 : hint116.keep = keep116 := rfl
@[simp] theorem hH116 : hint116.head = head116 := rfl
@[simp] theorem hB116 (t : Nat) : hint116.box t = ([4] : List Nat).contains t := rfl
@[simp] theorem hD116 (t : Nat) : hint116.dies t = ([8, 15, 20] : List Nat).contains t := rfl
@[simp] theorem ow116 : (hints 116).own = none := rfl
@[simp] theorem hS116 (t : Nat) : hint116.soft t = [] := rfl
@[simp] theorem hL116 (t : Nat) : hint116.lazy t = none := rfl
attribute [simp] keep120 head120
@[simp] theorem hK120 : hint120.keep = keep120 := rfl
@[simp] theorem hH120 : hint120.head = head120 := rfl
@[simp] theorem hB120 (t : Nat) : hint120.box t = ([] : List Nat).contains t := rfl
@[simp] theorem hD120 (t : Nat) : hint120.dies t = ([16, 25, 26, 27, 32] : List Nat).contains t := rfl
@[simp] theorem ow120 : (hints 120).own = none := rfl
theorem hh120 : hints 120 = hint120 := rfl
@[simp] theorem hS120 (t : Nat) : hint120.soft t = [] := rfl
@[simp] theorem hL120 (t : Nat) : hint120.lazy t = none := rfl
attribute [simp] keep121 head121
@[simp] theorem hK121 : hint121.keep = keep121 := rfl
@[simp] theorem hH121 : hint121.head = head121 := rfl
@[simp] theorem hB121 (t : Nat) : hint121.box t = ([4, 6] : List Nat).contains t := rfl
@[simp] theorem hD121 (t : Nat) : hint121.dies t = ([10, 11, 15, 19] : List Nat).contains t := rfl
@[simp] theorem ow121 : (hints 121).own = none := rfl
@[simp] theorem hS121 (t : Nat) : hint121.soft t = [] := rfl
@[simp] theorem hL121 (t : Nat) : hint121.lazy t = none := rfl
attribute [simp] keep133 head133
@[simp] theorem hK133 : hint133.keep = keep133 := rfl
@[simp] theorem hH133 : hint133.head = head133 := rfl
@[simp] theorem hB133 (t : Nat) : hint133.box t = ([2] : List Nat).contains t := rfl
@[simp] theorem hD133 (t : Nat) : hint133.dies t = ([7] : List Nat).contains t := rfl
@[simp] theorem ow133 : (hints 133).own = none := rfl
@[simp] theorem hS133 (t : Nat) : hint133.soft t = [] := rfl
@[simp] theorem hL133 (t : Nat) : hint133.lazy t = none := rfl
attribute [simp] keep145 head145
@[simp] theorem hK145 : hint145.keep = keep145 := rfl
@[simp] theorem hH145 : hint145.head = head145 := rfl
@[simp] theorem hB145 (t : Nat) : hint145.box t = ([] : List Nat).contains t := rfl
@[simp] theorem hD145 (t : Nat) : hint145.dies t = ([8, 10, 11, 12] : List Nat).contains t := rfl
@[simp] theorem ow145 : (hints 145).own = none := rfl
theorem hh145 : hints 145 = hint145 := rfl
@[simp] theorem hS145 (t : Nat) : hint145.soft t = [] := rfl
@[simp] theorem hL145 (t : Nat) : hint145.lazy t = none := rfl
attribute [simp] keep146 head146
@[simp] theorem hK146 : hint146.keep = keep146 := rfl
@[simp] theorem hH146 : hint146.head = head146 := rfl
@[simp] theorem hB146 (t : Nat) : hint146.box t = ([] : List Nat).contains t := rfl
@[simp] theorem hD146 (t : Nat) : hint146.dies t = ([7] : List Nat).contains t := rfl
@[simp] theorem ow146 : (hints 146).own = none := rfl
theorem hh146 : hints 146 = hint146 := rfl
@[simp] theorem hS146 (t : Nat) : hint146.soft t = [] := rfl
@[simp] theorem hL146 (t : Nat) : hint146.lazy t = none := rfl
attribute [simp] free146 pairs146
@[simp] theorem hF146 : hint146.free = free146 := rfl
@[simp] theorem hP146 : hint146.pairs = pairs146 := rfl
attribute [simp] keep147 head147
@[simp] theorem hK147 : hint147.keep = keep147 := rfl
@[simp] theorem hH147 : hint147.head = head147 := rfl
@[simp] theorem hB147 (t : Nat) : hint147.box t = ([2, 3] : List Nat).contains t := rfl
@[simp] theorem hD147 (t : Nat) : hint147.dies t = ([11, 21] : List Nat).contains t := rfl
@[simp] theorem ow147 : (hints 147).own = none := rfl
theorem hh147 : hints 147 = hint147 := rfl
@[simp] theorem hS147 (t : Nat) : hint147.soft t = [] := rfl
@[simp] theorem hL147 (t : Nat) : hint147.lazy t = none := rfl
attribute [simp] keep148 head148
@[simp] theorem hK148 : hint148.keep = keep148 := rfl
@[simp] theorem hH148 : hint148.head = head148 := rfl
@[simp] theorem hB148 (t : Nat) : hint148.box t = ([] : List Nat).contains t := rfl
@[simp] theorem hD148 (t : Nat) : hint148.dies t = ([12] : List Nat).contains t := rfl
@[simp] theorem ow148 : (hints 148).own = none := rfl
theorem hh148 : hints 148 = hint148 := rfl
@[simp] theorem hS148 (t : Nat) : hint148.soft t = [] := rfl
@[simp] theorem hL148 (t : Nat) : hint148.lazy t = none := rfl
attribute [simp] keep149 head149
@[simp] theorem hK149 : hint149.keep = keep149 := rfl
@[simp] theorem hH149 : hint149.head = head149 := rfl
@[simp] theorem hB149 (t : Nat) : hint149.box t = ([2, 4] : List Nat).contains t := rfl
@[simp] theorem hD149 (t : Nat) : hint149.dies t = ([6, 20] : List Nat).contains t := rfl
@[simp] theorem ow149 : (hints 149).own = none := rfl
theorem hh149 : hints 149 = hint149 := rfl
@[simp] theorem hS149 (t : Nat) : hint149.soft t = [] := rfl
@[simp] theorem hL149 (t : Nat) : hint149.lazy t = none := rfl
attribute [simp] keep150 head150
@[simp] theorem hK150 : hint150.keep = keep150 := rfl
@[simp] theorem hH150 : hint150.head = head150 := rfl
@[simp] theorem hB150 (t : Nat) : hint150.box t = ([] : List Nat).contains t := rfl
@[simp] theorem hD150 (t : Nat) : hint150.dies t = ([7] : List Nat).contains t := rfl
@[simp] theorem ow150 : (hints 150).own = none := rfl
theorem hh150 : hints 150 = hint150 := rfl
@[simp] theorem hS150 (t : Nat) : hint150.soft t = [] := rfl
@[simp] theorem hL150 (t : Nat) : hint150.lazy t = none := rfl
attribute [simp] free150 pairs150
@[simp] theorem hF150 : hint150.free = free150 := rfl
@[simp] theorem hP150 : hint150.pairs = pairs150 := rfl
attribute [simp] keep151 head151
@[simp] theorem hK151 : hint151.keep = keep151 := rfl
@[simp] theorem hH151 : hint151.head = head151 := rfl
@[simp] theorem hB151 (t : Nat) : hint151.box t = ([2, 3] : List Nat).contains t := rfl
@[simp] theorem hD151 (t : Nat) : hint151.dies t = ([11] : List Nat).contains t := rfl
@[simp] theorem ow151 : (hints 151).own = none := rfl
theorem hh151 : hints 151 = hint151 := rfl
@[simp] theorem hS151 (t : Nat) : hint151.soft t = [] := rfl
@[simp] theorem hL151 (t : Nat) : hint151.lazy t = none := rfl
attribute [simp] keep152 head152
@[simp] theorem hK152 : hint152.keep = keep152 := rfl
@[simp] theorem hH152 : hint152.head = head152 := rfl
@[simp] theorem hB152 (t : Nat) : hint152.box t = ([] : List Nat).contains t := rfl
@[simp] theorem hD152 (t : Nat) : hint152.dies t = ([12] : List Nat).contains t := rfl
@[simp] theorem ow152 : (hints 152).own = none := rfl
theorem hh152 : hints 152 = hint152 := rfl
@[simp] theorem hS152 (t : Nat) : hint152.soft t = [] := rfl
@[simp] theorem hL152 (t : Nat) : hint152.lazy t = none := rfl
attribute [simp] keep153 head153
@[simp] theorem hK153 : hint153.keep = keep153 := rfl
@[simp] theorem hH153 : hint153.head = head153 := rfl
@[simp] theorem hB153 (t : Nat) : hint153.box t = ([] : List Nat).contains t := rfl
@[simp] theorem hD153 (t : Nat) : hint153.dies t = ([5, 6] : List Nat).contains t := rfl
@[simp] theorem ow153 : (hints 153).own = none := rfl
theorem hh153 : hints 153 = hint153 := rfl
@[simp] theorem hS153 (t : Nat) : hint153.soft t = [] := rfl
@[simp] theorem hL153 (t : Nat) : hint153.lazy t = none := rfl
attribute [simp] keep154 head154
@[simp] theorem hK154 : hint154.keep = keep154 := rfl
@[simp] theorem hH154 : hint154.head = head154 := rfl
@[simp] theorem hB154 (t : Nat) : hint154.box t = ([2, 4] : List Nat).contains t := rfl
@[simp] theorem hD154 (t : Nat) : hint154.dies t = ([6, 20, 21] : List Nat).contains t := rfl
@[simp] theorem ow154 : (hints 154).own = none := rfl
theorem hh154 : hints 154 = hint154 := rfl
@[simp] theorem hS154 (t : Nat) : hint154.soft t = [] := rfl
@[simp] theorem hL154 (t : Nat) : hint154.lazy t = none := rfl
attribute [simp] keep155 head155
@[simp] theorem hK155 : hint155.keep = keep155 := rfl
@[simp] theorem hH155 : hint155.head = head155 := rfl
@[simp] theorem hB155 (t : Nat) : hint155.box t = ([2] : List Nat).contains t := rfl
@[simp] theorem hD155 (t : Nat) : hint155.dies t = ([] : List Nat).contains t := rfl
@[simp] theorem ow155 : (hints 155).own = none := rfl
theorem hh155 : hints 155 = hint155 := rfl
@[simp] theorem hS155 (t : Nat) : hint155.soft t = [] := rfl
@[simp] theorem hL155 (t : Nat) : hint155.lazy t = none := rfl
attribute [simp] keep156 head156
@[simp] theorem hK156 : hint156.keep = keep156 := rfl
@[simp] theorem hH156 : hint156.head = head156 := rfl
@[simp] theorem hB156 (t : Nat) : hint156.box t = ([] : List Nat).contains t := rfl
@[simp] theorem hD156 (t : Nat) : hint156.dies t = ([8, 17] : List Nat).contains t := rfl
@[simp] theorem ow156 : (hints 156).own = none := rfl
theorem hh156 : hints 156 = hint156 := rfl
@[simp] theorem hS156 (t : Nat) : hint156.soft t = [] := rfl
@[simp] theorem hL156 (t : Nat) : hint156.lazy t = none := rfl
attribute [simp] keep157 head157
@[simp] theorem hK157 : hint157.keep = keep157 := rfl
@[simp] theorem hH157 : hint157.head = head157 := rfl
@[simp] theorem hB157 (t : Nat) : hint157.box t = ([1] : List Nat).contains t := rfl
@[simp] theorem hD157 (t : Nat) : hint157.dies t = ([] : List Nat).contains t := rfl
@[simp] theorem ow157 : (hints 157).own = none := rfl
theorem hh157 : hints 157 = hint157 := rfl
@[simp] theorem hS157 (t : Nat) : hint157.soft t = [] := rfl
@[simp] theorem hL157 (t : Nat) : hint157.lazy t = none := rfl
attribute [simp] keep158 head158
@[simp] theorem hK158 : hint158.keep = keep158 := rfl
@[simp] theorem hH158 : hint158.head = head158 := rfl
@[simp] theorem hB158 (t : Nat) : hint158.box t = ([] : List Nat).contains t := rfl
@[simp] theorem hD158 (t : Nat) : hint158.dies t = ([6] : List Nat).contains t := rfl
@[simp] theorem ow158 : (hints 158).own = none := rfl
theorem hh158 : hints 158 = hint158 := rfl
@[simp] theorem hS158 (t : Nat) : hint158.soft t = [] := rfl
@[simp] theorem hL158 (t : Nat) : hint158.lazy t = none := rfl
attribute [simp] keep159 head159
@[simp] theorem hK159 : hint159.keep = keep159 := rfl
@[simp] theorem hH159 : hint159.head = head159 := rfl
@[simp] theorem hB159 (t : Nat) : hint159.box t = ([1] : List Nat).contains t := rfl
@[simp] theorem hD159 (t : Nat) : hint159.dies t = ([8, 22, 39, 50, 59] : List Nat).contains t := rfl
@[simp] theorem ow159 : (hints 159).own = none := rfl
theorem hh159 : hints 159 = hint159 := rfl
@[simp] theorem hS159 (t : Nat) : hint159.soft t = [] := rfl
@[simp] theorem hL159 (t : Nat) : hint159.lazy t = none := rfl
attribute [simp] free159 pairs159
@[simp] theorem hF159 : hint159.free = free159 := rfl
@[simp] theorem hP159 : hint159.pairs = pairs159 := rfl
attribute [simp] keep160 head160
@[simp] theorem hK160 : hint160.keep = keep160 := rfl
@[simp] theorem hH160 : hint160.head = head160 := rfl
@[simp] theorem hB160 (t : Nat) : hint160.box t = ([] : List Nat).contains t := rfl
@[simp] theorem hD160 (t : Nat) : hint160.dies t = ([12, 15] : List Nat).contains t := rfl
@[simp] theorem ow160 : (hints 160).own = none := rfl
theorem hh160 : hints 160 = hint160 := rfl
@[simp] theorem hS160 (t : Nat) : hint160.soft t = [] := rfl
@[simp] theorem hL160 (t : Nat) : hint160.lazy t = none := rfl
attribute [simp] keep161 head161
@[simp] theorem hK161 : hint161.keep = keep161 := rfl
@[simp] theorem hH161 : hint161.head = head161 := rfl
@[simp] theorem hB161 (t : Nat) : hint161.box t = ([] : List Nat).contains t := rfl
@[simp] theorem hD161 (t : Nat) : hint161.dies t = ([5, 6] : List Nat).contains t := rfl
@[simp] theorem ow161 : (hints 161).own = none := rfl
theorem hh161 : hints 161 = hint161 := rfl
@[simp] theorem hS161 (t : Nat) : hint161.soft t = [] := rfl
@[simp] theorem hL161 (t : Nat) : hint161.lazy t = none := rfl
attribute [simp] keep162 head162
@[simp] theorem hK162 : hint162.keep = keep162 := rfl
@[simp] theorem hH162 : hint162.head = head162 := rfl
@[simp] theorem hB162 (t : Nat) : hint162.box t = ([2] : List Nat).contains t := rfl
@[simp] theorem hD162 (t : Nat) : hint162.dies t = ([6] : List Nat).contains t := rfl
@[simp] theorem ow162 : (hints 162).own = none := rfl
theorem hh162 : hints 162 = hint162 := rfl
@[simp] theorem hS162 (t : Nat) : hint162.soft t = [] := rfl
@[simp] theorem hL162 (t : Nat) : hint162.lazy t = none := rfl
attribute [simp] keep163 head163
@[simp] theorem hK163 : hint163.keep = keep163 := rfl
@[simp] theorem hH163 : hint163.head = head163 := rfl
@[simp] theorem hB163 (t : Nat) : hint163.box t = ([2, 3, 5, 7] : List Nat).contains t := rfl
@[simp] theorem hD163 (t : Nat) : hint163.dies t = ([9, 23, 42, 49, 50, 52, 53] : List Nat).contains t := rfl
@[simp] theorem ow163 : (hints 163).own = none := rfl
theorem hh163 : hints 163 = hint163 := rfl
@[simp] theorem hS163 (t : Nat) : hint163.soft t = [] := rfl
@[simp] theorem hL163 (t : Nat) : hint163.lazy t = none := rfl
attribute [simp] free163 pairs163
@[simp] theorem hF163 : hint163.free = free163 := rfl
@[simp] theorem hP163 : hint163.pairs = pairs163 := rfl
attribute [simp] keep164 head164
@[simp] theorem hK164 : hint164.keep = keep164 := rfl
@[simp] theorem hH164 : hint164.head = head164 := rfl
@[simp] theorem hB164 (t : Nat) : hint164.box t = ([] : List Nat).contains t := rfl
@[simp] theorem hD164 (t : Nat) : hint164.dies t = ([8, 17] : List Nat).contains t := rfl
@[simp] theorem ow164 : (hints 164).own = none := rfl
theorem hh164 : hints 164 = hint164 := rfl
@[simp] theorem hS164 (t : Nat) : hint164.soft t = [] := rfl
@[simp] theorem hL164 (t : Nat) : hint164.lazy t = none := rfl
attribute [simp] keep165 head165
@[simp] theorem hK165 : hint165.keep = keep165 := rfl
@[simp] theorem hH165 : hint165.head = head165 := rfl
@[simp] theorem hB165 (t : Nat) : hint165.box t = ([2, 4] : List Nat).contains t := rfl
@[simp] theorem hD165 (t : Nat) : hint165.dies t = ([6, 12] : List Nat).contains t := rfl
@[simp] theorem ow165 : (hints 165).own = none := rfl
theorem hh165 : hints 165 = hint165 := rfl
@[simp] theorem hS165 (t : Nat) : hint165.soft t = [] := rfl
@[simp] theorem hL165 (t : Nat) : hint165.lazy t = none := rfl
attribute [simp] keep208 head208
@[simp] theorem hK208 : hint208.keep = keep208 := rfl
@[simp] theorem hH208 : hint208.head = head208 := rfl
@[simp] theorem hB208 (t : Nat) : hint208.box t = ([] : List Nat).contains t := rfl
@[simp] theorem hD208 (t : Nat) : hint208.dies t = ([10] : List Nat).contains t := rfl
@[simp] theorem ow208 : (hints 208).own = none := rfl
theorem hh208 : hints 208 = hint208 := rfl
@[simp] theorem hS208 (t : Nat) : hint208.soft t = [] := rfl
@[simp] theorem hL208 (t : Nat) : hint208.lazy t = none := rfl
attribute [simp] keep209 head209
@[simp] theorem hK209 : hint209.keep = keep209 := rfl
@[simp] theorem hH209 : hint209.head = head209 := rfl
@[simp] theorem hB209 (t : Nat) : hint209.box t = ([] : List Nat).contains t := rfl
@[simp] theorem hD209 (t : Nat) : hint209.dies t = ([8, 17] : List Nat).contains t := rfl
@[simp] theorem ow209 : (hints 209).own = none := rfl
theorem hh209 : hints 209 = hint209 := rfl
@[simp] theorem hS209 (t : Nat) : hint209.soft t = [] := rfl
@[simp] theorem hL209 (t : Nat) : hint209.lazy t = none := rfl
attribute [simp] keep210 head210
@[simp] theorem hK210 : hint210.keep = keep210 := rfl
@[simp] theorem hH210 : hint210.head = head210 := rfl
@[simp] theorem hB210 (t : Nat) : hint210.box t = ([4] : List Nat).contains t := rfl
@[simp] theorem hD210 (t : Nat) : hint210.dies t = ([6, 7] : List Nat).contains t := rfl
@[simp] theorem ow210 : (hints 210).own = none := rfl
theorem hh210 : hints 210 = hint210 := rfl
@[simp] theorem hS210 (t : Nat) : hint210.soft t = [] := rfl
@[simp] theorem hL210 (t : Nat) : hint210.lazy t = none := rfl
attribute [simp] keep308 head308
@[simp] theorem hK308 : hint308.keep = keep308 := rfl
@[simp] theorem hH308 : hint308.head = head308 := rfl
@[simp] theorem hB308 (t : Nat) : hint308.box t = ([10] : List Nat).contains t := rfl
@[simp] theorem hD308 (t : Nat) : hint308.dies t = ([12, 13, 14, 21, 28, 34, 35, 44] : List Nat).contains t := rfl
@[simp] theorem ow308 : (hints 308).own = none := rfl
@[simp] theorem hS308 (t : Nat) : hint308.soft t = [] := rfl
@[simp] theorem hL308 (t : Nat) : hint308.lazy t = none := rfl

end Go.Proofs.YtknoiemnpllapaaGreat
end
