/-
  Hints for the evaluator, one for each function of this program: tables. No condition.
-/
import Derived.Test.YtnccpffnffioeaaDoorRows
import Derived.Test.YtnccpffnffioeaaDoorPsD

set_option linter.all false
section
/-
  The hints of the evaluator for this program, and that the program is as the evaluator wants it.
-/

namespace Go.PS
def keep2 : Nat → List Nat
  | 0 => []
  | _ => []
def head2 : Nat → List Nat
  | _ => []
def hint2 : Hint := { keep := keep2, head := head2, box := fun t => [].contains t, prim := none, own := none, dies := fun t => [].contains t }
def keep3 : Nat → List Nat
  | 0 => [0]
  | 1 => [0, 13]
  | 2 => [2]
  | 3 => [0, 3, 4, 5]
  | 4 => [0, 3, 4, 5, 6, 7, 8]
  | 5 => [0, 3, 8, 40]
  | 6 => [2]
  | 7 => [0, 3, 42]
  | 8 => [2]
  | 9 => [0, 9, 10]
  | 10 => [2]
  | _ => []
def head3 : Nat → List Nat
  | _ => []
def hint3 : Hint := { keep := keep3, head := head3, box := fun t => [3, 6].contains t, prim := none, own := none, dies := fun t => [15, 21, 31, 32, 33, 36, 37, 41, 44, 50, 51, 52, 55, 56].contains t }
def keep4 : Nat → List Nat
  | 0 => []
  | 1 => [1, 2]
  | 2 => [1, 2, 3, 4, 5]
  | 3 => [0]
  | _ => []
def head4 : Nat → List Nat
  | _ => []
def hint4 : Hint := { keep := keep4, head := head4, box := fun t => [3].contains t, prim := some (2, 1), own := none, dies := fun t => [6, 11, 16, 18, 19, 22, 23, 26, 27, 30, 35].contains t }
def keep5 : Nat → List Nat
  | 0 => [0, 2]
  | 1 => [0, 2, 5]
  | 2 => [2, 5, 6]
  | 3 => [2, 5, 6, 7]
  | 4 => [2, 5, 6, 7, 20, 21, 22]
  | 5 => [2, 5, 6, 7, 20, 21, 22, 23]
  | 6 => [2, 5, 6, 7, 8, 9, 20, 21, 22]
  | 7 => [2, 5, 6, 7, 8, 10, 20, 21, 22]
  | 8 => [2, 5, 6, 7, 8, 10, 20, 21, 22, 31]
  | 9 => [2, 3, 4]
  | 10 => [2, 5, 6, 7, 20, 21, 22]
  | 11 => [2, 5, 6, 48]
  | 12 => [2, 3, 4]
  | 13 => [2, 3, 4]
  | _ => []
def head5 : Nat → List Nat
  | 5 => [2, 5, 6, 7, 20, 21, 22]
  | _ => []
def hint5 : Hint := { keep := keep5, head := head5, box := fun t => [2].contains t, prim := none, own := none, dies := fun t => [13, 22, 28, 33, 35, 38, 42, 50, 52].contains t }
def keep6 : Nat → List Nat
  | 0 => [0, 2]
  | 1 => [2, 5]
  | 2 => [2, 5, 6]
  | 3 => [2, 5, 6, 23]
  | 4 => [2, 3, 4]
  | 5 => [2, 5, 6, 7, 8]
  | 6 => [2, 5, 6, 7, 33]
  | 7 => [2, 3, 4]
  | 8 => [2, 5, 6, 9]
  | 9 => [2, 5, 6, 9, 10]
  | 10 => [2, 5, 6, 9, 10, 11]
  | 11 => [2, 5, 6, 9, 10, 11, 39]
  | 12 => [2, 5, 6, 9, 10, 11]
  | 13 => [2, 5, 6, 9, 10, 11, 12, 13]
  | 14 => [2, 5, 6, 9, 10, 11, 12, 13, 14, 15]
  | 15 => [2, 5, 6, 9, 10, 11, 12, 13, 14, 15, 16]
  | 16 => [2, 5, 6, 9, 10, 11, 12, 13, 14, 15, 16, 66]
  | 17 => [2, 5, 6, 9, 10, 11, 68]
  | 18 => [2, 3, 4]
  | 19 => [2, 5, 6, 9, 10, 11]
  | 20 => [2, 5, 6, 9, 10, 11, 12, 14, 15, 16, 81]
  | 21 => [2, 5, 6, 9, 10, 11, 12, 85]
  | 22 => [2, 3, 4]
  | 23 => [2, 5, 6, 9, 10, 11]
  | 24 => [2, 5, 6, 9, 10, 11, 14, 16, 99]
  | 25 => [2, 5, 6, 9, 10, 11, 14, 16, 101]
  | 26 => [2, 3, 4]
  | 27 => [2, 5, 6, 9, 10, 11, 14, 16]
  | 28 => [2, 5, 6, 9, 10, 11]
  | 29 => [2, 3, 4]
  | 30 => [2, 6, 9, 128]
  | 31 => [2, 3, 4]
  | 32 => [2, 3, 4]
  | _ => []
def head6 : Nat → List Nat
  | 11 => [2, 5, 6, 9, 10, 11]
  | _ => []
def free6 : Nat → List Nat
  | 28 => [0, 1, 2, 3, 4, 5, 6, 7, 8, 9, 10, 11, 12]
  | _ => []
def pairs6 : Nat → List (Nat × Nat)
  | 28 => [(0, 9), (1, 9), (2, 9), (9, 10), (0, 11), (1, 11), (2, 11), (3, 11), (4, 11), (5, 11), (6, 11), (7, 11), (8, 11), (9, 11), (0, 12), (1, 12), (2, 12)]
  | _ => []
def hint6 : Hint := { keep := keep6, head := head6, box := fun t => [2, 9, 14].contains t, prim := none, own := none, dies := fun t => [17, 25, 32, 35, 40, 42, 50, 67, 70, 79, 80, 87, 91, 97, 98, 103, 105, 113, 122, 124, 130].contains t, free := free6, pairs := pairs6 }
def keep7 : Nat → List Nat
  | 0 => [2, 3]
  | 1 => [2, 3, 29]
  | 2 => [4]
  | 3 => [2, 3, 5]
  | 4 => [2, 3, 5, 34]
  | 5 => [2, 3, 5]
  | 6 => [2, 3, 5, 47]
  | 7 => [4]
  | 8 => [2, 3, 6]
  | 9 => [2, 3, 6, 52]
  | 10 => [2, 3, 6]
  | 11 => [2, 3, 6, 66]
  | 12 => [4]
  | 13 => [4]
  | _ => []
def head7 : Nat → List Nat
  | 4 => [2, 3, 5]
  | 9 => [2, 3, 6]
  | _ => []
def free7 : Nat → List Nat
  | 6 => [0, 1, 2, 3, 4, 5, 6, 7, 8, 9]
  | 11 => [0, 1, 2, 3, 4, 5, 6, 7, 8, 9]
  | _ => []
def pairs7 : Nat → List (Nat × Nat)
  | 6 => []
  | 11 => []
  | _ => []
def hint7 : Hint := { keep := keep7, head := head7, box := fun t => [2, 3].contains t, prim := none, own := none, dies := fun t => [12, 21, 35, 53].contains t, free := free7, pairs := pairs7 }
def keep8 : Nat → List Nat
  | 0 => [1]
  | 1 => [1, 25]
  | 2 => [2, 3]
  | 3 => [1, 4]
  | 4 => [1, 4]
  | 5 => [1, 4, 33, 34, 35]
  | 6 => [1, 4, 33, 34, 35, 36]
  | 7 => [1, 4, 6, 33, 34, 35]
  | 8 => [1, 4, 33, 34, 35]
  | 9 => [1, 4, 33, 34, 35]
  | 10 => [4, 46, 47, 48]
  | 11 => [4, 46, 47, 48, 49]
  | 12 => [4, 8, 46, 47, 48]
  | 13 => [4, 8, 46, 47, 48]
  | 14 => [4, 46, 47, 48, 53, 54, 55]
  | 15 => [4, 46, 47, 48, 53, 54, 55, 56]
  | 16 => [4, 10, 46, 47, 48, 53, 54, 55]
  | 17 => [4, 10, 46, 47, 48, 53, 54, 55, 61]
  | 18 => [2, 3]
  | 19 => [4, 46, 47, 48, 53, 54, 55]
  | 20 => [4, 46, 47, 48, 53, 54, 55]
  | 21 => [4, 46, 47, 48]
  | 22 => [2, 3]
  | _ => []
def head8 : Nat → List Nat
  | 6 => [1, 4, 33, 34, 35]
  | 11 => [4, 46, 47, 48]
  | 15 => [4, 46, 47, 48, 53, 54, 55]
  | _ => []
def hint8 : Hint := { keep := keep8, head := head8, box := fun t => [1, 10].contains t, prim := none, own := none, dies := fun t => [15, 21, 35, 39, 48, 53, 55].contains t, bld := fun t => if [4].contains t then some 5 else none }
def keep9 : Nat → List Nat
  | 0 => [0, 1]
  | 1 => [4]
  | _ => []
def head9 : Nat → List Nat
  | _ => []
def hint9 : Hint := { keep := keep9, head := head9, box := fun t => [].contains t, prim := some (3, 0), own := none, dies := fun t => [5, 6].contains t }
def keep10 : Nat → List Nat
  | 0 => [0, 1]
  | 1 => [0, 1, 5]
  | 2 => [4]
  | 3 => [0, 1, 5, 15]
  | 4 => [0, 6, 7]
  | 5 => [0, 6, 40]
  | 6 => [4]
  | 7 => []
  | 8 => [0, 1, 5, 49]
  | 9 => [0, 8, 9]
  | 10 => [0, 8, 73]
  | 11 => [4]
  | 12 => [0, 8, 76]
  | 13 => [4]
  | 14 => []
  | 15 => [0, 5, 96]
  | 16 => [0, 112]
  | 17 => [4]
  | 18 => []
  | 19 => [0, 5, 127]
  | 20 => [0, 10, 11]
  | 21 => [0, 10, 138]
  | 22 => [4]
  | 23 => [0, 10, 141]
  | 24 => [4]
  | 25 => [0, 10]
  | 26 => [0, 10, 12]
  | 27 => []
  | 28 => [4]
  | _ => []
def head10 : Nat → List Nat
  | _ => []
def free10 : Nat → List Nat
  | 27 => [0, 1, 2, 3, 4, 5, 6, 7, 8, 9, 10, 11, 12, 13, 14, 15, 16]
  | _ => []
def pairs10 : Nat → List (Nat × Nat)
  | 27 => [(0, 15), (1, 15), (2, 15), (3, 15), (4, 15), (5, 15), (6, 15), (7, 15), (8, 15), (9, 15), (10, 15), (11, 15), (12, 15), (13, 15), (0, 16), (1, 16), (2, 16), (3, 16), (4, 16), (5, 16)]
  | _ => []
def hint10 : Hint := { keep := keep10, head := head10, box := fun t => [10].contains t, prim := none, own := none, dies := fun t => [21, 27, 32, 33, 39, 42, 43, 55, 61, 66, 67, 74, 85, 90, 102, 103, 115, 133, 134, 139, 167, 172].contains t, free := free10, pairs := pairs10, nest := fun t => [177].contains t }
def keep11 : Nat → List Nat
  | 0 => [0, 1]
  | 1 => [0, 1, 5]
  | 2 => [0, 1, 5, 6]
  | 3 => [0, 1, 5, 6, 7]
  | 4 => [0, 1, 5, 6, 7, 12]
  | 5 => [0, 1, 5, 6, 7]
  | 6 => [0, 1, 5, 6, 7, 19]
  | 7 => [0, 1, 5, 7]
  | 8 => [0, 1, 5, 6, 7]
  | 9 => [0, 1, 5, 6, 7]
  | 10 => [4]
  | _ => []
def head11 : Nat → List Nat
  | 4 => [0, 1, 5, 6, 7]
  | _ => []
def hint11 : Hint := { keep := keep11, head := head11, box := fun t => [].contains t, prim := none, own := none, dies := fun t => [13, 20, 21, 24, 31, 32].contains t }
def keep12 : Nat → List Nat
  | 0 => [0, 1]
  | 1 => [0, 1, 6]
  | 2 => [0, 1, 6, 19]
  | 3 => [4, 5]
  | 4 => [0, 1, 7]
  | 5 => [4, 5]
  | _ => []
def head12 : Nat → List Nat
  | _ => []
def hint12 : Hint := { keep := keep12, head := head12, box := fun t => [].contains t, prim := none, own := none, dies := fun t => [13, 20, 25, 27, 30].contains t }
def keep13 : Nat → List Nat
  | 0 => [0, 2]
  | 1 => [0, 2, 4]
  | 2 => [0, 2, 4, 5]
  | 3 => [0, 2, 4, 5, 18]
  | 4 => [0, 2, 4, 5]
  | 5 => [0, 2, 4, 5, 36]
  | 6 => [0, 2, 4, 5]
  | 7 => [0, 2, 4, 5, 50]
  | 8 => [0, 2, 4, 5]
  | 9 => [0, 2, 4, 5, 6]
  | 10 => [0, 2, 4, 5, 6, 57]
  | 11 => [0, 2, 4, 5, 6]
  | 12 => [0, 2, 4, 5, 6]
  | 13 => [2, 3]
  | _ => []
def head13 : Nat → List Nat
  | 10 => [0, 2, 4, 5, 6]
  | _ => []
def free13 : Nat → List Nat
  | 4 => [0, 1, 2, 3, 4, 5, 6]
  | 12 => [0, 1, 2, 3, 4, 5, 6, 7, 8, 9, 10, 11, 12, 13, 14, 15, 16]
  | 13 => [0, 1, 2, 3, 4, 5, 6, 7, 8, 9]
  | _ => []
def pairs13 : Nat → List (Nat × Nat)
  | 4 => [(3, 4), (3, 5), (3, 6)]
  | 12 => [(0, 7), (7, 8), (7, 9), (7, 10), (7, 11), (7, 12), (7, 13), (0, 14), (7, 16), (14, 16)]
  | 13 => [(0, 2), (0, 5), (5, 6), (6, 9), (7, 9), (8, 9)]
  | _ => []
def hint13 : Hint := { keep := keep13, head := head13, box := fun t => [2, 5].contains t, prim := none, own := none, dies := fun t => [14, 32, 46, 58, 81, 84].contains t, free := free13, pairs := pairs13 }
def keep14 : Nat → List Nat
  | 0 => [0, 1]
  | 1 => [0, 1, 10]
  | 2 => [4]
  | 3 => [0, 1, 5]
  | 4 => [0, 1, 5, 14]
  | 5 => [0, 1, 5]
  | 6 => [0, 1, 5, 26]
  | 7 => [4]
  | 8 => [4]
  | _ => []
def head14 : Nat → List Nat
  | 4 => [0, 1, 5]
  | _ => []
def free14 : Nat → List Nat
  | 6 => [0, 1, 2, 3, 4, 5, 6, 7]
  | _ => []
def pairs14 : Nat → List (Nat × Nat)
  | 6 => []
  | _ => []
def hint14 : Hint := { keep := keep14, head := head14, box := fun t => [].contains t, prim := none, own := none, dies := fun t => [15].contains t, free := free14, pairs := pairs14 }
def keep15 : Nat → List Nat
  | 0 => [1]
  | 1 => [1, 3]
  | 2 => [3, 7, 8, 9]
  | 3 => [3, 7, 8, 9, 10]
  | 4 => [3, 5, 7, 8, 9]
  | 5 => [3, 7, 8, 9]
  | 6 => [3, 7, 8, 9]
  | 7 => [2]
  | _ => []
def head15 : Nat → List Nat
  | 3 => [3, 7, 8, 9]
  | _ => []
def hint15 : Hint := { keep := keep15, head := head15, box := fun t => [1].contains t, prim := none, own := none, dies := fun t => [9, 13, 14, 18].contains t }
def keep16 : Nat → List Nat
  | 0 => [0, 1]
  | 1 => [0, 1]
  | 2 => [1]
  | 3 => [4, 5]
  | _ => []
def head16 : Nat → List Nat
  | _ => []
def hint16 : Hint := { keep := keep16, head := head16, box := fun t => [].contains t, prim := none, own := some 1000220021, dies := fun t => [9, 17].contains t }
def keep17 : Nat → List Nat
  | 0 => [0]
  | 1 => [0, 6]
  | 2 => [2]
  | 3 => [0, 3]
  | 4 => [0, 3, 8, 9]
  | 5 => [0, 3, 8, 9, 10]
  | 6 => [0, 3, 4, 8, 9]
  | 7 => [0, 3, 4, 8, 9]
  | 8 => [0, 3, 8, 9]
  | 9 => [0, 3, 8, 9]
  | 10 => [2]
  | _ => []
def head17 : Nat → List Nat
  | 5 => [0, 3, 8, 9]
  | _ => []
def hint17 : Hint := { keep := keep17, head := head17, box := fun t => [].contains t, prim := none, own := none, dies := fun t => [9, 19].contains t, bld := fun t => if [3].contains t then some 5 else none }
def keep18 : Nat → List Nat
  | 0 => [1]
  | 1 => [1, 4]
  | 2 => [1, 4, 5]
  | 3 => [2]
  | 4 => [1, 4, 25]
  | 5 => [2]
  | 6 => [1, 40]
  | 7 => [2]
  | 8 => [2]
  | _ => []
def head18 : Nat → List Nat
  | _ => []
def hint18 : Hint := { keep := keep18, head := head18, box := fun t => [1].contains t, prim := none, own := none, dies := fun t => [10, 15, 20, 30, 35, 45, 50].contains t }
def keep19 : Nat → List Nat
  | 0 => [1]
  | 1 => [1]
  | 2 => [1, 7]
  | 3 => [3]
  | 4 => [1, 7, 12]
  | 5 => [3]
  | 6 => [1, 21]
  | 7 => [1, 3]
  | 8 => [3, 28, 29]
  | 9 => [3, 28, 29, 30]
  | 10 => [3, 5, 28, 29]
  | 11 => [3, 28, 29]
  | 12 => [3, 28, 29]
  | 13 => [2]
  | _ => []
def head19 : Nat → List Nat
  | 9 => [3, 28, 29]
  | _ => []
def free19 : Nat → List Nat
  | 5 => [0, 1, 2, 3, 4]
  | _ => []
def pairs19 : Nat → List (Nat × Nat)
  | 5 => [(2, 3), (2, 4)]
  | _ => []
def hint19 : Hint := { keep := keep19, head := head19, box := fun t => [1].contains t, prim := none, own := none, dies := fun t => [29, 32, 36, 42].contains t, free := free19, pairs := pairs19 }
def keep20 : Nat → List Nat
  | 0 => [0]
  | 1 => [2]
  | _ => []
def head20 : Nat → List Nat
  | _ => []
def free20 : Nat → List Nat
  | 1 => [0, 1, 2, 3, 4, 5, 6, 7, 8, 9]
  | _ => []
def pairs20 : Nat → List (Nat × Nat)
  | 1 => []
  | _ => []
def hint20 : Hint := { keep := keep20, head := head20, box := fun t => [].contains t, prim := none, own := some 1000220022, dies := fun t => [8].contains t, free := free20, pairs := pairs20 }
def keep21 : Nat → List Nat
  | 0 => [0, 1, 2, 3]
  | 1 => [0, 1, 2, 3, 13]
  | 2 => [8]
  | 3 => [0, 1, 2, 3, 15]
  | 4 => [8]
  | 5 => [0, 1, 2, 3, 20]
  | 6 => [0, 1, 2, 3]
  | 7 => [0, 1, 2, 3]
  | 8 => [0, 1, 2, 3, 9]
  | 9 => [0, 1, 2, 3, 9]
  | 10 => [0, 1, 2, 3, 9, 10]
  | 11 => [0, 1, 2, 3, 9, 10, 36]
  | 12 => [0, 1, 2, 3, 9, 10, 11]
  | 13 => [0, 1, 2, 3, 9, 10, 11, 41]
  | 14 => [0, 1, 2, 3, 9, 10, 11]
  | 15 => [0, 1, 2, 3, 9, 10]
  | 16 => [0, 1, 2, 3, 9, 10]
  | 17 => [9, 10]
  | 18 => [8]
  | _ => []
def head21 : Nat → List Nat
  | 11 => [0, 1, 2, 3, 9, 10]
  | _ => []
def hint21 : Hint := { keep := keep21, head := head21, box := fun t => [].contains t, prim := none, own := none, dies := fun t => [16, 17, 25, 32, 50, 51, 56, 60, 62, 63].contains t }
def keep22 : Nat → List Nat
  | 0 => [0]
  | 1 => [0, 8]
  | 2 => [2, 3]
  | 3 => [0, 11]
  | 4 => [2, 3]
  | 5 => [0, 4]
  | 6 => [0, 4, 5]
  | 7 => [0, 4, 5, 23]
  | 8 => [0, 4, 5]
  | 9 => [0, 4, 5, 6, 7]
  | 10 => [0, 4, 5, 6, 7, 40]
  | 11 => [2, 3]
  | 12 => [0, 4, 5]
  | 13 => [2, 3]
  | _ => []
def head22 : Nat → List Nat
  | 7 => [0, 4, 5]
  | _ => []
def free22 : Nat → List Nat
  | 9 => [0, 1, 2, 3, 4, 5, 6, 7]
  | _ => []
def pairs22 : Nat → List (Nat × Nat)
  | 9 => [(3, 4), (3, 5), (3, 6), (3, 7)]
  | _ => []
def hint22 : Hint := { keep := keep22, head := head22, box := fun t => [].contains t, prim := none, own := none, dies := fun t => [14, 24, 37, 41, 42, 44, 49].contains t, free := free22, pairs := pairs22 }
def keep23 : Nat → List Nat
  | 0 => [0, 2]
  | 1 => [0, 2, 4]
  | 2 => [0, 2, 4, 5]
  | 3 => [0, 2, 4, 5, 12]
  | 4 => [0, 2, 4]
  | 5 => [2, 4, 5]
  | 6 => [0, 2, 4, 5, 31]
  | 7 => [0, 2, 4]
  | 8 => [0, 2, 4]
  | 9 => [0, 2, 4, 5]
  | 10 => [2, 4, 5, 6]
  | 11 => [2, 4, 5]
  | 12 => [0, 2, 4, 5, 62]
  | 13 => [0, 2, 4]
  | 14 => [0, 2, 4, 5]
  | 15 => [0, 2, 4, 5, 81]
  | 16 => [0, 2, 4, 5, 81, 82]
  | 17 => [0, 2, 4, 5, 7, 81]
  | 18 => [0, 2, 4, 5, 7, 8, 9, 81]
  | 19 => [0, 2, 4, 5, 7, 8, 9, 10, 11, 81]
  | 20 => [0, 2, 4, 5, 9, 11, 81]
  | 21 => [0, 2, 4, 5, 81]
  | 22 => [0, 2, 4, 5, 81]
  | 23 => [2, 3]
  | _ => []
def head23 : Nat → List Nat
  | 16 => [0, 2, 4, 5, 81]
  | _ => []
def hint23 : Hint := { keep := keep23, head := head23, box := fun t => [2, 4].contains t, prim := none, own := none, dies := fun t => [17, 23, 24, 36, 42, 50, 51, 58, 59, 60, 67, 73, 81, 84, 94, 104, 105, 106, 110, 111, 112, 114, 115, 119].contains t }
def keep24 : Nat → List Nat
  | 0 => [0]
  | 1 => [0, 3]
  | 2 => [0, 3, 4]
  | 3 => [0, 3, 4, 10]
  | 4 => [0, 3, 4]
  | 5 => [0, 3, 4]
  | 6 => [2]
  | _ => []
def head24 : Nat → List Nat
  | 3 => [0, 3, 4]
  | _ => []
def free24 : Nat → List Nat
  | 5 => [0, 1, 2, 3, 4, 5, 6, 7, 8, 9, 10, 11, 12, 13]
  | _ => []
def pairs24 : Nat → List (Nat × Nat)
  | 5 => [(0, 4), (4, 6), (4, 7), (4, 8), (4, 9), (0, 10), (5, 10), (0, 13)]
  | _ => []
def hint24 : Hint := { keep := keep24, head := head24, box := fun t => [].contains t, prim := none, own := none, dies := fun t => [11, 13, 28].contains t, free := free24, pairs := pairs24 }
def keep25 : Nat → List Nat
  | 0 => [0]
  | 1 => [0, 3]
  | 2 => [0, 3, 4]
  | 3 => [0, 3, 4, 8]
  | 4 => [0, 3, 4]
  | 5 => [0, 3, 4]
  | 6 => [3, 27]
  | 7 => [2]
  | 8 => [2]
  | _ => []
def head25 : Nat → List Nat
  | 3 => [0, 3, 4]
  | _ => []
def free25 : Nat → List Nat
  | 5 => [0, 1, 2, 3, 4, 5, 6, 7, 8, 9, 10, 11, 12, 13]
  | _ => []
def pairs25 : Nat → List (Nat × Nat)
  | 5 => [(0, 6), (6, 8), (6, 9), (6, 10), (6, 11), (6, 12), (0, 13), (7, 13)]
  | _ => []
def hint25 : Hint := { keep := keep25, head := head25, box := fun t => [].contains t, prim := none, own := none, dies := fun t => [9, 11, 26, 28].contains t, free := free25, pairs := pairs25 }
def keep26 : Nat → List Nat
  | 0 => [0]
  | 1 => [0, 3]
  | 2 => [0, 3, 4]
  | 3 => [0, 3, 4, 8]
  | 4 => [0, 3, 4]
  | 5 => [0, 3, 4, 24]
  | 6 => [2]
  | 7 => [0, 3, 4]
  | 8 => [2]
  | _ => []
def head26 : Nat → List Nat
  | 3 => [0, 3, 4]
  | _ => []
def hint26 : Hint := { keep := keep26, head := head26, box := fun t => [].contains t, prim := none, own := none, dies := fun t => [9, 15, 21, 25, 33].contains t }
def keep27 : Nat → List Nat
  | 0 => [0]
  | 1 => [0, 3]
  | 2 => [0, 3, 4]
  | 3 => [0, 3, 4, 12]
  | 4 => [0, 3, 4]
  | 5 => [0, 3, 4]
  | 6 => [2]
  | _ => []
def head27 : Nat → List Nat
  | 3 => [0, 3, 4]
  | _ => []
def hint27 : Hint := { keep := keep27, head := head27, box := fun t => [].contains t, prim := none, own := none, dies := fun t => [9, 13, 15, 23].contains t }
def keep28 : Nat → List Nat
  | 0 => [1]
  | 1 => [1, 5]
  | 2 => [2]
  | 3 => [1, 26]
  | 4 => [2]
  | 5 => [2]
  | _ => []
def head28 : Nat → List Nat
  | _ => []
def hint28 : Hint := { keep := keep28, head := head28, box := fun t => [1].contains t, prim := none, own := none, dies := fun t => [9, 14, 19, 30, 35, 43, 48, 53].contains t }
def keep29 : Nat → List Nat
  | 0 => [1]
  | 1 => [1, 7]
  | 2 => [2]
  | 3 => [1, 19]
  | 4 => [2]
  | 5 => [1, 3]
  | 6 => [1, 3, 4]
  | 7 => [1, 3, 4, 29]
  | 8 => [1, 3, 4]
  | 9 => [1, 3, 4]
  | 10 => [2]
  | _ => []
def head29 : Nat → List Nat
  | 7 => [1, 3, 4]
  | _ => []
def free29 : Nat → List Nat
  | 2 => [0, 1, 2, 3, 4, 5, 6, 7]
  | 9 => [0, 1, 2, 3, 4, 5, 6, 7, 8, 9, 10, 11, 12, 13, 14, 15]
  | _ => []
def pairs29 : Nat → List (Nat × Nat)
  | 2 => [(2, 5), (2, 6), (3, 7), (4, 7)]
  | 9 => [(0, 7), (1, 7), (7, 10), (7, 11), (7, 12), (7, 13), (7, 14), (0, 15), (1, 15), (8, 15), (9, 15)]
  | _ => []
def hint29 : Hint := { keep := keep29, head := head29, box := fun t => [1].contains t, prim := none, own := none, dies := fun t => [30, 32, 49].contains t, free := free29, pairs := pairs29 }
def keep30 : Nat → List Nat
  | 0 => [2, 3]
  | 1 => [2, 3, 5]
  | 2 => [2, 3, 5, 7]
  | 3 => [2, 3, 5]
  | 4 => [2, 3, 5, 19]
  | 5 => [4]
  | 6 => [4]
  | _ => []
def head30 : Nat → List Nat
  | 2 => [2, 3, 5]
  | _ => []
def free30 : Nat → List Nat
  | 4 => [0, 1, 2, 3, 4, 5, 6, 7]
  | _ => []
def pairs30 : Nat → List (Nat × Nat)
  | 4 => []
  | _ => []
def hint30 : Hint := { keep := keep30, head := head30, box := fun t => [2, 3].contains t, prim := none, own := none, dies := fun t => [8, 25, 32, 39].contains t, free := free30, pairs := pairs30 }
def keep31 : Nat → List Nat
  | 0 => [0, 6]
  | 1 => []
  | 2 => [19]
  | _ => []
def head31 : Nat → List Nat
  | _ => []
def hint31 : Hint := { keep := keep31, head := head31, box := fun t => [].contains t, prim := none, own := none, dies := fun t => [8, 18].contains t }
def keep32 : Nat → List Nat
  | 0 => [0, 1]
  | 1 => [0, 1]
  | 2 => []
  | 3 => [4]
  | _ => []
def head32 : Nat → List Nat
  | _ => []
def hint32 : Hint := { keep := keep32, head := head32, box := fun t => [].contains t, prim := none, own := some 1000220020, dies := fun t => [8, 12].contains t }
def keep33 : Nat → List Nat
  | 0 => [0]
  | 1 => [2]
  | _ => []
def head33 : Nat → List Nat
  | _ => []
def hint33 : Hint := { keep := keep33, head := head33, box := fun t => [].contains t, prim := none, own := none, dies := fun t => [5, 6].contains t }
def keep34 : Nat → List Nat
  | 0 => [1]
  | 1 => [2]
  | _ => []
def head34 : Nat → List Nat
  | _ => []
def hint34 : Hint := { keep := keep34, head := head34, box := fun t => [1].contains t, prim := none, own := none, dies := fun t => [].contains t, nest := fun t => [3].contains t }
def keep35 : Nat → List Nat
  | 0 => [0]
  | 1 => [2]
  | _ => []
def head35 : Nat → List Nat
  | _ => []
def hint35 : Hint := { keep := keep35, head := head35, box := fun t => [].contains t, prim := some (5, 0), own := none, dies := fun t => [3].contains t }
def keep36 : Nat → List Nat
  | 0 => [0]
  | 1 => [0, 3]
  | 2 => [3, 9]
  | 3 => [3]
  | 4 => [3, 4]
  | 5 => [3, 4, 10]
  | 6 => [3, 4, 10, 11]
  | 7 => [3, 4, 5, 10]
  | 8 => [3, 4, 10]
  | 9 => [3, 4, 10]
  | 10 => [2]
  | _ => []
def head36 : Nat → List Nat
  | 6 => [3, 4, 10]
  | _ => []
def hint36 : Hint := { keep := keep36, head := head36, box := fun t => [4].contains t, prim := none, own := none, dies := fun t => [8, 10, 15].contains t }
def keep37 : Nat → List Nat
  | 0 => [0, 1]
  | 1 => [0, 1, 12]
  | 2 => [0, 1, 12, 13]
  | 3 => [4]
  | 4 => [0, 1, 15]
  | 5 => [4]
  | 6 => [0, 1, 5]
  | 7 => [0, 1, 5, 22]
  | 8 => [0, 1, 5, 29]
  | 9 => [0, 1, 5]
  | 10 => [0, 1, 5]
  | 11 => [0, 1, 5, 39, 40, 41]
  | 12 => [0, 1, 5, 39, 40, 41, 42]
  | 13 => [0, 1, 5, 7, 39, 40, 41]
  | 14 => [0, 1, 5, 7, 39, 40, 41, 49]
  | 15 => [0, 1, 5, 7, 39, 40, 41]
  | 16 => [0, 1, 5, 39, 40, 41]
  | 17 => [0, 1, 5, 39, 40, 41]
  | 18 => [0, 1, 5, 8]
  | 19 => [0, 1, 8]
  | 20 => [0, 1, 8]
  | 21 => [1, 8, 63, 64, 65]
  | 22 => [1, 8, 63, 64, 65, 66]
  | 23 => [1, 8, 10, 63, 64, 65]
  | 24 => [1, 8, 10, 63, 64, 65]
  | 25 => [1, 8, 63, 64, 65]
  | 26 => [1, 8, 63, 64, 65]
  | 27 => [4]
  | _ => []
def head37 : Nat → List Nat
  | 12 => [0, 1, 5, 39, 40, 41]
  | 22 => [1, 8, 63, 64, 65]
  | _ => []
def hint37 : Hint := { keep := keep37, head := head37, box := fun t => [].contains t, prim := some (4, 0), own := none, dies := fun t => [17, 31, 41, 51, 52, 56, 62, 65, 71].contains t, bld := fun t => if [8].contains t then some 5 else none }
def keep38 : Nat → List Nat
  | 0 => [0, 1]
  | 1 => [0, 1, 5]
  | 2 => [0, 1, 5, 18]
  | 3 => [0, 1]
  | 4 => [0, 1, 6]
  | 5 => [0, 1, 6, 7]
  | 6 => [0, 1, 6, 7, 25]
  | 7 => [0, 1, 6, 7]
  | 8 => [0, 1, 6, 7, 9]
  | 9 => [0, 1, 6, 7, 9]
  | 10 => [0, 1, 6, 7]
  | 11 => [0, 1, 6, 43]
  | 12 => [6]
  | 13 => [4]
  | _ => []
def head38 : Nat → List Nat
  | 6 => [0, 1, 6, 7]
  | _ => []
def hint38 : Hint := { keep := keep38, head := head38, box := fun t => [].contains t, prim := none, own := none, dies := fun t => [14, 19, 26, 28, 39, 40, 45, 47, 49].contains t }
def keep39 : Nat → List Nat
  | 0 => [0, 1]
  | 1 => [0, 1, 9]
  | 2 => [4]
  | 3 => [0, 1, 15]
  | 4 => [4]
  | 5 => [0, 1, 5]
  | 6 => [0, 1, 5, 6]
  | 7 => [0, 1, 5, 6, 24]
  | 8 => [4]
  | 9 => [0, 1, 5, 6]
  | 10 => [0, 1, 5]
  | _ => []
def head39 : Nat → List Nat
  | 6 => [0, 1, 5]
  | _ => []
def hint39 : Hint := { keep := keep39, head := head39, box := fun t => [].contains t, prim := none, own := none, dies := fun t => [10, 16, 17, 25, 26, 28, 29].contains t }
def keep40 : Nat → List Nat
  | 0 => [0, 1]
  | 1 => [4]
  | _ => []
def head40 : Nat → List Nat
  | _ => []
def hint40 : Hint := { keep := keep40, head := head40, box := fun t => [].contains t, prim := none, own := none, dies := fun t => [5, 6].contains t }
def keep41 : Nat → List Nat
  | 0 => [0]
  | 1 => [2]
  | _ => []
def head41 : Nat → List Nat
  | _ => []
def hint41 : Hint := { keep := keep41, head := head41, box := fun t => [].contains t, prim := none, own := none, dies := fun t => [3].contains t }
def keep42 : Nat → List Nat
  | 0 => [0]
  | 1 => [0, 22]
  | 2 => [2, 3]
  | 3 => [0, 4]
  | 4 => [0, 4, 24, 25]
  | 5 => [0, 4, 24, 25, 26]
  | 6 => [0, 4, 5, 24, 25]
  | 7 => [0, 4, 5, 24, 25, 37]
  | 8 => [2, 3]
  | 9 => [0, 4, 24, 25]
  | 10 => [0, 4, 24, 25]
  | 11 => [2, 3]
  | _ => []
def head42 : Nat → List Nat
  | 5 => [0, 4, 24, 25]
  | _ => []
def hint42 : Hint := { keep := keep42, head := head42, box := fun t => [].contains t, prim := none, own := none, dies := fun t => [8, 13, 17, 25, 32, 38, 41, 48].contains t }
def keep43 : Nat → List Nat
  | 0 => [0]
  | 1 => [0, 10]
  | 2 => [2, 3]
  | 3 => [0, 4]
  | 4 => [0, 4, 12, 13]
  | 5 => [0, 4, 12, 13, 14]
  | 6 => [0, 4, 5, 12, 13]
  | 7 => [0, 4, 6, 12, 13]
  | 8 => [0, 4, 6, 12, 13, 21]
  | 9 => [2, 3]
  | 10 => [0, 4, 12, 13]
  | 11 => [0, 4, 12, 13]
  | 12 => [4, 7]
  | 13 => [2, 3]
  | _ => []
def head43 : Nat → List Nat
  | 5 => [0, 4, 12, 13]
  | _ => []
def hint43 : Hint := { keep := keep43, head := head43, box := fun t => [].contains t, prim := none, own := none, dies := fun t => [13, 17, 22, 24, 31, 34, 35].contains t }
def keep44 : Nat → List Nat
  | 0 => [0]
  | 1 => [0, 3]
  | 2 => [0, 3, 5]
  | 3 => [0, 3]
  | 4 => [0, 3, 13]
  | 5 => [2]
  | 6 => [2]
  | _ => []
def head44 : Nat → List Nat
  | 2 => [0, 3]
  | _ => []
def free44 : Nat → List Nat
  | 4 => [0, 1, 2, 3, 4]
  | _ => []
def pairs44 : Nat → List (Nat × Nat)
  | 4 => [(1, 2), (0, 3), (1, 3), (1, 4)]
  | _ => []
def hint44 : Hint := { keep := keep44, head := head44, box := fun t => [].contains t, prim := none, own := none, dies := fun t => [6, 14].contains t, free := free44, pairs := pairs44 }
def keep45 : Nat → List Nat
  | 0 => [0]
  | 1 => [0, 3]
  | 2 => [2]
  | _ => []
def head45 : Nat → List Nat
  | _ => []
def hint45 : Hint := { keep := keep45, head := head45, box := fun t => [].contains t, prim := none, own := none, dies := fun t => [4, 6].contains t }
def keep47 : Nat → List Nat
  | 0 => [0]
  | 1 => [2]
  | _ => []
def head47 : Nat → List Nat
  | _ => []
def hint47 : Hint := { keep := keep47, head := head47, box := fun t => [].contains t, prim := none, own := none, dies := fun t => [5, 6].contains t }
def keep48 : Nat → List Nat
  | 0 => [1]
  | 1 => [1, 3]
  | 2 => [1, 3, 5]
  | 3 => [1, 3]
  | 4 => [1, 3, 12]
  | 5 => [2]
  | 6 => [2]
  | _ => []
def head48 : Nat → List Nat
  | 2 => [1, 3]
  | _ => []
def hint48 : Hint := { keep := keep48, head := head48, box := fun t => [1].contains t, prim := none, own := none, dies := fun t => [6].contains t }
def keep49 : Nat → List Nat
  | 0 => [0]
  | 1 => [0, 3]
  | 2 => [0, 3, 5]
  | 3 => [0, 3]
  | 4 => [0, 3]
  | 5 => [2]
  | _ => []
def head49 : Nat → List Nat
  | 2 => [0, 3]
  | _ => []
def hint49 : Hint := { keep := keep49, head := head49, box := fun t => [].contains t, prim := none, own := none, dies := fun t => [12, 14, 16, 21].contains t }
def keep50 : Nat → List Nat
  | 0 => [0]
  | 1 => [0, 8]
  | 2 => [2]
  | 3 => [3]
  | 4 => [3, 4]
  | 5 => [3, 4, 5]
  | 6 => [3, 4, 5, 12]
  | 7 => [3, 4, 5]
  | 8 => [3, 4, 5]
  | 9 => [3, 4, 5]
  | 10 => [2]
  | _ => []
def head50 : Nat → List Nat
  | 6 => [3, 4, 5]
  | _ => []
def hint50 : Hint := { keep := keep50, head := head50, box := fun t => [].contains t, prim := none, own := none, dies := fun t => [9, 13, 19, 21, 23].contains t }
def keep51 : Nat → List Nat
  | 0 => [0, 1]
  | 1 => [4]
  | _ => []
def head51 : Nat → List Nat
  | _ => []
def hint51 : Hint := { keep := keep51, head := head51, box := fun t => [].contains t, prim := none, own := none, dies := fun t => [10, 11, 13].contains t }
def keep53 : Nat → List Nat
  | 0 => [0, 1]
  | 1 => [4]
  | _ => []
def head53 : Nat → List Nat
  | _ => []
def hint53 : Hint := { keep := keep53, head := head53, box := fun t => [].contains t, prim := none, own := none, dies := fun t => [5, 6].contains t }
def keep54 : Nat → List Nat
  | 0 => [0]
  | 1 => [2]
  | _ => []
def head54 : Nat → List Nat
  | _ => []
def hint54 : Hint := { keep := keep54, head := head54, box := fun t => [].contains t, prim := none, own := none, dies := fun t => [3].contains t }
def keep55 : Nat → List Nat
  | 0 => [0, 1]
  | 1 => [4]
  | _ => []
def head55 : Nat → List Nat
  | _ => []
def hint55 : Hint := { keep := keep55, head := head55, box := fun t => [].contains t, prim := none, own := none, dies := fun t => [10, 11, 13].contains t }
def keep56 : Nat → List Nat
  | 0 => [0]
  | 1 => [2]
  | _ => []
def head56 : Nat → List Nat
  | _ => []
def hint56 : Hint := { keep := keep56, head := head56, box := fun t => [].contains t, prim := none, own := none, dies := fun t => [3].contains t }
def keep58 : Nat → List Nat
  | 0 => [0]
  | 1 => [2]
  | _ => []
def head58 : Nat → List Nat
  | _ => []
def hint58 : Hint := { keep := keep58, head := head58, box := fun t => [].contains t, prim := none, own := none, dies := fun t => [4].contains t }
def keep59 : Nat → List Nat
  | 0 => [0, 1]
  | 1 => [0, 1, 7]
  | 2 => [0, 1]
  | 3 => [0, 1, 21]
  | 4 => []
  | _ => []
def head59 : Nat → List Nat
  | _ => []
def free59 : Nat → List Nat
  | 3 => [0, 1, 2, 3, 4, 5, 6, 7, 8, 9, 10, 11]
  | _ => []
def pairs59 : Nat → List (Nat × Nat)
  | 3 => []
  | _ => []
def hint59 : Hint := { keep := keep59, head := head59, box := fun t => [].contains t, prim := none, own := none, dies := fun t => [22, 23].contains t, free := free59, pairs := pairs59 }
def keep60 : Nat → List Nat
  | 0 => [0, 2]
  | 1 => [2, 4]
  | 2 => [2, 4, 6]
  | 3 => [2, 4]
  | 4 => [2]
  | _ => []
def head60 : Nat → List Nat
  | 2 => [2, 4]
  | _ => []
def hint60 : Hint := { keep := keep60, head := head60, box := fun t => [].contains t, prim := none, own := none, dies := fun t => [3, 7, 9].contains t }
def keep61 : Nat → List Nat
  | 0 => [0]
  | 1 => [0, 10]
  | 2 => [2, 3]
  | 3 => [2, 3]
  | _ => []
def head61 : Nat → List Nat
  | _ => []
def hint61 : Hint := { keep := keep61, head := head61, box := fun t => [].contains t, prim := none, own := none, dies := fun t => [6, 11, 14, 15].contains t }
def keep63 : Nat → List Nat
  | 0 => [0, 1]
  | 1 => [0, 1, 5]
  | 2 => [0, 1, 5, 16]
  | 3 => [4]
  | 4 => [0, 1, 5, 24]
  | 5 => [4]
  | 6 => [0, 1, 5, 31]
  | 7 => [4]
  | 8 => [0, 1, 5, 36]
  | 9 => [4]
  | 10 => [0, 1, 5, 6]
  | 11 => [0, 1, 5, 6, 7]
  | 12 => [0, 1, 5, 6, 7, 8]
  | 13 => [0, 1, 5, 6, 7, 8, 9]
  | 14 => [0, 1, 5, 6, 7, 8, 9, 10]
  | 15 => [0, 1, 5, 6, 7, 8, 9, 10, 59]
  | 16 => [0, 1, 5, 6, 7, 8, 9, 10, 64]
  | 17 => [0, 1, 5, 6, 7, 8, 9, 10, 11]
  | 18 => [0, 1, 5, 6, 7, 8, 9, 10, 11, 73]
  | 19 => [4]
  | 20 => [0, 1, 5, 6, 7, 8, 9, 10]
  | 21 => [0, 1, 5, 6, 7, 8, 9, 10, 93]
  | 22 => [4]
  | 23 => [0, 1, 5, 6, 7, 8, 9, 10]
  | 24 => [0, 1, 5, 6, 7, 8, 9, 10]
  | 25 => [0, 1, 5, 6, 7, 8, 9, 10, 107]
  | 26 => [8, 12]
  | 27 => [8, 12, 114]
  | 28 => [4]
  | 29 => [4]
  | 30 => [0, 1, 5, 6, 7, 8, 9, 10, 132]
  | 31 => [8, 13]
  | 32 => [8, 13, 139]
  | 33 => [4]
  | 34 => [4]
  | 35 => [4]
  | _ => []
def head63 : Nat → List Nat
  | 15 => [0, 1, 5, 6, 7, 8, 9, 10]
  | _ => []
def hint63 : Hint := { keep := keep63, head := head63, box := fun t => [].contains t, prim := none, own := none, dies := fun t => [19, 27, 28, 40, 45, 46, 74, 75, 84, 94, 95, 97, 102, 108, 111, 115, 116, 121, 128, 133, 136, 140, 141].contains t }
def keep64 : Nat → List Nat
  | 0 => [0, 1]
  | 1 => [4]
  | _ => []
def head64 : Nat → List Nat
  | _ => []
def hint64 : Hint := { keep := keep64, head := head64, box := fun t => [].contains t, prim := some (6, 0), own := none, dies := fun t => [5, 6].contains t }
def keep65 : Nat → List Nat
  | 0 => [0, 1]
  | 1 => [0, 1, 10]
  | 2 => [4]
  | 3 => [4]
  | _ => []
def head65 : Nat → List Nat
  | _ => []
def hint65 : Hint := { keep := keep65, head := head65, box := fun t => [].contains t, prim := none, own := none, dies := fun t => [7, 11, 13, 14, 17, 19].contains t }
def keep66 : Nat → List Nat
  | 0 => [0, 1]
  | 1 => [0, 1, 7, 8]
  | 2 => [0, 1, 7, 8, 9]
  | 3 => [0, 1, 5, 7, 8]
  | 4 => [0, 1, 5, 7, 8, 16]
  | 5 => [4]
  | 6 => [0, 1, 7, 8]
  | 7 => [4]
  | _ => []
def head66 : Nat → List Nat
  | 2 => [0, 1, 7, 8]
  | _ => []
def hint66 : Hint := { keep := keep66, head := head66, box := fun t => [].contains t, prim := none, own := none, dies := fun t => [8, 17].contains t }
def keep67 : Nat → List Nat
  | 0 => [0, 1]
  | 1 => [0, 1, 10]
  | 2 => [4]
  | 3 => [4]
  | _ => []
def head67 : Nat → List Nat
  | _ => []
def hint67 : Hint := { keep := keep67, head := head67, box := fun t => [].contains t, prim := none, own := none, dies := fun t => [7, 11, 13, 14, 17, 19].contains t }
def keep68 : Nat → List Nat
  | 0 => [0, 1]
  | 1 => [0, 1, 11]
  | 2 => [0, 17]
  | 3 => [4]
  | 4 => [0, 5]
  | 5 => [0, 5, 6]
  | 6 => [0, 5, 6, 23]
  | 7 => [0, 5, 6]
  | 8 => [0, 5, 6, 7]
  | 9 => [0, 5, 7]
  | 10 => [5, 7, 34]
  | 11 => [5, 7]
  | 12 => [4]
  | 13 => [4]
  | 14 => [9]
  | 15 => [4]
  | _ => []
def head68 : Nat → List Nat
  | _ => []
def hint68 : Hint := { keep := keep68, head := head68, box := fun t => [5].contains t, prim := none, own := none, dies := fun t => [14, 18, 24, 31, 33, 36, 40, 44, 47, 48, 53].contains t }
def keep69 : Nat → List Nat
  | 0 => [0, 4]
  | 1 => [0, 4]
  | 2 => []
  | _ => []
def head69 : Nat → List Nat
  | _ => []
def free69 : Nat → List Nat
  | 0 => [0, 1, 2, 3, 4, 5, 6, 7, 8, 9, 10, 11, 12, 13]
  | _ => []
def pairs69 : Nat → List (Nat × Nat)
  | 0 => [(8, 9), (8, 10), (8, 11), (8, 12), (8, 13)]
  | _ => []
def hint69 : Hint := { keep := keep69, head := head69, box := fun t => [].contains t, prim := none, own := none, dies := fun t => [11, 26, 27].contains t, free := free69, pairs := pairs69 }
def keep70 : Nat → List Nat
  | 0 => [0]
  | 1 => [0, 4]
  | 2 => [0, 4, 16]
  | 3 => [2, 3]
  | 4 => [0, 4, 5]
  | 5 => [0, 4, 5, 6]
  | 6 => [0, 4, 5, 6, 23]
  | 7 => [0, 7]
  | 8 => [2, 3]
  | 9 => [0, 4, 5, 6, 8]
  | 10 => [0, 4, 5, 8, 9]
  | 11 => [0, 5, 8, 9, 45]
  | 12 => [2, 3]
  | 13 => [0, 5, 8, 9, 10]
  | 14 => [0, 5, 8, 10, 57]
  | 15 => [2, 3]
  | 16 => [0, 5, 8, 10, 59]
  | 17 => [2, 3]
  | 18 => [0, 5, 8, 10, 11]
  | 19 => [0, 5, 8, 10, 11, 75]
  | 20 => [2, 3]
  | 21 => [0, 5, 10, 11, 77]
  | 22 => [2, 3]
  | 23 => [5, 10, 11, 12]
  | 24 => [5, 10, 11, 12, 98]
  | 25 => [2, 3]
  | 26 => [2, 3]
  | _ => []
def head70 : Nat → List Nat
  | _ => []
def hint70 : Hint := { keep := keep70, head := head70, box := fun t => [9].contains t, prim := none, own := none, dies := fun t => [24, 28, 33, 39, 43, 52, 60, 64, 72, 76, 78, 82, 87, 91, 95, 99, 103, 108, 113].contains t }
def keep71 : Nat → List Nat
  | 0 => [0, 1]
  | 1 => [4]
  | _ => []
def head71 : Nat → List Nat
  | _ => []
def hint71 : Hint := { keep := keep71, head := head71, box := fun t => [].contains t, prim := none, own := none, dies := fun t => [5, 6].contains t }
def keep73 : Nat → List Nat
  | 0 => [0]
  | 1 => [2]
  | _ => []
def head73 : Nat → List Nat
  | _ => []
def hint73 : Hint := { keep := keep73, head := head73, box := fun t => [].contains t, prim := none, own := none, dies := fun t => [3].contains t }
def keep74 : Nat → List Nat
  | 0 => [0, 1]
  | 1 => [0, 1, 5, 6]
  | 2 => [0, 1, 5, 6, 7]
  | 3 => [0, 1, 5, 6, 7, 8]
  | 4 => [0, 1, 5, 6, 7, 8, 9]
  | 5 => [0, 1, 5, 6, 7, 8, 9, 20]
  | 6 => [0, 1, 5, 6, 7, 8, 9]
  | 7 => [0, 1, 5, 6, 7, 8, 9]
  | 8 => [0, 1, 5, 6, 7, 8, 39]
  | 9 => [4]
  | 10 => [0, 1, 5, 6, 7, 8, 10]
  | 11 => [0, 1, 5, 6, 7, 8, 10, 44]
  | 12 => [0, 1, 5, 6, 7, 8, 10]
  | 13 => [0, 1, 5, 6, 7, 8, 10]
  | 14 => [0, 1, 5, 6, 7, 8, 10]
  | 15 => [0, 1, 5, 6, 7, 8, 10]
  | 16 => [0, 1, 5, 6, 7, 8, 10, 77]
  | 17 => [4]
  | 18 => [4]
  | _ => []
def head74 : Nat → List Nat
  | 5 => [0, 1, 5, 6, 7, 8, 9]
  | 11 => [0, 1, 5, 6, 7, 8, 10]
  | _ => []
def hint74 : Hint := { keep := keep74, head := head74, box := fun t => [].contains t, prim := none, own := none, dies := fun t => [11, 21, 23, 33, 45, 47, 53, 63, 68, 78, 79].contains t }
def keep75 : Nat → List Nat
  | 0 => [0]
  | 1 => [2]
  | _ => []
def head75 : Nat → List Nat
  | _ => []
def hint75 : Hint := { keep := keep75, head := head75, box := fun t => [].contains t, prim := none, own := none, dies := fun t => [4].contains t }
def keep76 : Nat → List Nat
  | 0 => [0]
  | 1 => [0, 4]
  | 2 => [2]
  | 3 => [2]
  | _ => []
def head76 : Nat → List Nat
  | _ => []
def hint76 : Hint := { keep := keep76, head := head76, box := fun t => [].contains t, prim := none, own := none, dies := fun t => [6, 11].contains t }
def keep77 : Nat → List Nat
  | 0 => [0]
  | 1 => [0, 3]
  | 2 => [2]
  | _ => []
def head77 : Nat → List Nat
  | _ => []
def hint77 : Hint := { keep := keep77, head := head77, box := fun t => [].contains t, prim := none, own := none, dies := fun t => [8, 9].contains t }
def keep78 : Nat → List Nat
  | 0 => [0, 1, 4]
  | 1 => [0, 1, 4, 20]
  | 2 => [0, 1, 4, 5]
  | 3 => [0, 1, 4, 5]
  | 4 => [0, 1, 4, 6, 7]
  | 5 => [0, 1, 4, 6, 8, 9]
  | 6 => [0, 1, 4, 8, 9, 10, 11]
  | 7 => [0, 1, 4, 8, 10, 11]
  | 8 => [0, 1, 4, 10, 11]
  | 9 => [0, 1, 4, 10]
  | 10 => [0, 1, 4]
  | 11 => [0, 1, 4]
  | 12 => [0, 4, 12]
  | 13 => [0, 4, 12, 99]
  | 14 => [0, 4, 12, 13]
  | 15 => [0, 4, 12, 13]
  | 16 => [0, 4, 12, 14, 15]
  | 17 => [0, 4, 12, 14]
  | 18 => [0, 4, 12]
  | 19 => [0, 4, 12]
  | 20 => [0, 4, 12, 139]
  | 21 => [0, 4, 12, 16]
  | 22 => [0, 4, 12, 16]
  | 23 => [0, 4, 12]
  | 24 => [0, 4, 12]
  | 25 => [0, 12, 161]
  | 26 => []
  | _ => []
def head78 : Nat → List Nat
  | 1 => [0, 1, 4]
  | _ => []
def free78 : Nat → List Nat
  | 7 => [0, 1, 2, 3, 4, 5, 6, 7, 8, 9, 10, 11, 12]
  | 8 => [0, 1, 2, 3, 4, 5, 6, 7, 8, 9, 10, 11, 12]
  | 9 => [0, 1, 2, 3, 4, 5, 6, 7, 8, 9, 10, 11, 12]
  | 10 => [0, 1, 2, 3, 4, 5, 6, 7, 8, 9, 10, 11, 12]
  | 17 => [0, 1, 2, 3, 4, 5, 6, 7, 8, 9, 10, 11, 12]
  | 18 => [0, 1, 2, 3, 4, 5, 6, 7, 8, 9, 10, 11, 12]
  | 23 => [0, 1, 2, 3, 4, 5, 6, 7, 8, 9, 10, 11, 12]
  | _ => []
def pairs78 : Nat → List (Nat × Nat)
  | 7 => [(3, 12), (4, 12), (5, 12), (9, 12), (10, 12)]
  | 8 => [(3, 12), (4, 12), (5, 12), (9, 12), (10, 12)]
  | 9 => [(3, 12), (4, 12), (5, 12), (9, 12), (10, 12)]
  | 10 => [(3, 12), (4, 12), (5, 12), (9, 12), (10, 12)]
  | 17 => [(3, 12), (4, 12), (5, 12), (9, 12), (10, 12)]
  | 18 => [(3, 12), (4, 12), (5, 12), (9, 12), (10, 12)]
  | 23 => [(3, 12), (4, 12), (5, 12), (9, 12), (10, 12)]
  | _ => []
def hint78 : Hint := { keep := keep78, head := head78, box := fun t => [].contains t, prim := none, own := none, dies := fun t => [24, 28, 33, 39, 51, 64, 77, 90, 94, 96, 102, 107, 119, 132, 136, 143, 154, 158, 160, 162, 163].contains t, free := free78, pairs := pairs78 }
def keep79 : Nat → List Nat
  | 0 => [0, 1, 2, 3, 4, 10, 11]
  | 1 => [0, 1, 2, 3, 4, 10, 11, 28]
  | 2 => [0, 1, 2, 3, 4, 10, 11]
  | 3 => [0, 1, 2, 3, 4, 10, 11, 12]
  | 4 => [0, 1, 2, 3, 4, 10, 11, 12, 13]
  | 5 => [0, 1, 2, 3, 4, 10, 11, 12, 13, 30]
  | 6 => [0, 1, 2, 3, 4, 10, 11, 12, 13]
  | 7 => [0, 1, 2, 3, 4, 10, 11, 12, 13, 34]
  | 8 => [0, 1, 2, 3, 4, 10, 11, 12, 13, 14]
  | 9 => [0, 1, 2, 3, 4, 10, 11, 12, 13, 14, 15]
  | 10 => [0, 1, 3, 4, 10, 11, 12, 13, 14, 15, 16]
  | 11 => [0, 1, 3, 4, 10, 11, 12, 13, 14, 15, 16, 46]
  | 12 => [0, 1, 3, 4, 10, 11, 12, 13, 14, 15, 16]
  | 13 => [0, 1, 3, 4, 10, 11, 12, 13, 14, 15, 16]
  | 14 => [0, 1, 3, 4, 10, 11, 12, 13, 14, 15, 16]
  | 15 => [0, 1, 3, 4, 10, 11, 12, 13]
  | 16 => [0, 3, 4, 10, 11, 12, 13]
  | 17 => [0, 1, 3, 4, 10, 11, 12, 13, 17]
  | 18 => [0, 1, 3, 4, 10, 11, 12, 13, 17, 68]
  | 19 => [0, 1, 3, 4, 10, 11, 12, 13, 17]
  | 20 => [0, 1, 3, 4, 10, 11, 12, 13, 17, 18]
  | 21 => [0, 3, 4, 10, 11, 12, 13, 17, 18]
  | 22 => [0, 1, 3, 4, 10, 11, 12, 13, 17]
  | 23 => [0, 1, 3, 4, 10, 11, 12, 13]
  | 24 => [0, 3, 4, 10, 11, 12, 13]
  | 25 => [0, 4, 10, 11, 12, 13, 89]
  | 26 => [0, 4, 10, 11, 12, 13]
  | 27 => [0, 4, 10, 11, 12, 13]
  | 28 => [0, 10, 11, 12, 13, 94]
  | 29 => [10, 11]
  | 30 => [10, 11]
  | _ => []
def head79 : Nat → List Nat
  | 11 => [0, 1, 3, 4, 10, 11, 12, 13, 14, 15, 16]
  | 18 => [0, 1, 3, 4, 10, 11, 12, 13, 17]
  | _ => []
def hint79 : Hint := { keep := keep79, head := head79, box := fun t => [12].contains t, prim := none, own := none, dies := fun t => [21, 25, 31, 41, 47, 55, 58, 61, 64, 69, 75, 82, 83, 86, 89, 90, 94, 95, 96, 99].contains t }
def keep82 : Nat → List Nat
  | 0 => [0]
  | 1 => [0, 4]
  | 2 => [0, 4, 5]
  | 3 => [0, 4, 5, 12]
  | 4 => [0, 4, 5]
  | 5 => [0, 4, 5]
  | 6 => [0, 4, 6, 7]
  | 7 => [4, 6, 7, 8]
  | 8 => [4, 6, 7, 8, 25]
  | 9 => [4, 6, 7, 8]
  | 10 => [4, 6, 7, 8, 30]
  | 11 => [4, 6, 7, 8]
  | 12 => [4, 6, 7, 8]
  | 13 => [2, 3]
  | _ => []
def head82 : Nat → List Nat
  | 3 => [0, 4, 5]
  | 8 => [4, 6, 7, 8]
  | _ => []
def hint82 : Hint := { keep := keep82, head := head82, box := fun t => [].contains t, prim := none, own := none, dies := fun t => [13, 15, 22, 26, 31, 35, 37, 38].contains t }
def keep83 : Nat → List Nat
  | 0 => [0]
  | 1 => [2]
  | _ => []
def head83 : Nat → List Nat
  | _ => []
def hint83 : Hint := { keep := keep83, head := head83, box := fun t => [].contains t, prim := none, own := none, dies := fun t => [3].contains t }
def keep84 : Nat → List Nat
  | 0 => [0, 2]
  | 1 => [0, 2, 4]
  | 2 => [0]
  | 3 => [0, 2]
  | 4 => [0, 2, 8]
  | 5 => [0, 2]
  | 6 => [0, 2]
  | 7 => [0, 2, 14]
  | 8 => [0, 2]
  | 9 => [0, 2]
  | 10 => [2]
  | _ => []
def head84 : Nat → List Nat
  | _ => []
def hint84 : Hint := { keep := keep84, head := head84, box := fun t => [].contains t, prim := none, own := none, dies := fun t => [5, 9, 11, 15, 17, 19, 20].contains t }
def keep85 : Nat → List Nat
  | 0 => [0]
  | 1 => [3]
  | 2 => [2]
  | 3 => [2]
  | _ => []
def head85 : Nat → List Nat
  | _ => []
def hint85 : Hint := { keep := keep85, head := head85, box := fun t => [].contains t, prim := none, own := none, dies := fun t => [3].contains t }
def keep86 : Nat → List Nat
  | 0 => [0]
  | 1 => [2]
  | _ => []
def head86 : Nat → List Nat
  | _ => []
def hint86 : Hint := { keep := keep86, head := head86, box := fun t => [].contains t, prim := none, own := none, dies := fun t => [4].contains t }
def keep87 : Nat → List Nat
  | 0 => [0]
  | 1 => [2]
  | 2 => [2]
  | _ => []
def head87 : Nat → List Nat
  | _ => []
def hint87 : Hint := { keep := keep87, head := head87, box := fun t => [].contains t, prim := none, own := none, dies := fun t => [3, 6].contains t }
def keep88 : Nat → List Nat
  | 0 => [0]
  | 1 => [0, 4]
  | 2 => [2]
  | 3 => [2]
  | _ => []
def head88 : Nat → List Nat
  | _ => []
def hint88 : Hint := { keep := keep88, head := head88, box := fun t => [].contains t, prim := none, own := none, dies := fun t => [6].contains t }
def keep89 : Nat → List Nat
  | 0 => [0]
  | 1 => [0, 4]
  | 2 => [2]
  | 3 => [2]
  | _ => []
def head89 : Nat → List Nat
  | _ => []
def hint89 : Hint := { keep := keep89, head := head89, box := fun t => [].contains t, prim := none, own := none, dies := fun t => [6].contains t }
def keep114 : Nat → List Nat
  | 0 => []
  | 1 => []
  | 2 => []
  | 3 => []
  | _ => []
def head114 : Nat → List Nat
  | _ => []
def hint114 : Hint := { keep := keep114, head := head114, box := fun t => [].contains t, prim := none, own := none, dies := fun t => [].contains t }
def hint4c : Hint := { hint4 with prim := none }
def hints : FuncId → Hint
  | 2 => hint2
  | 3 => hint3
  | 4 => hint4
  | 5 => hint5
  | 6 => hint6
  | 7 => hint7
  | 8 => hint8
  | 9 => hint9
  | 10 => hint10
  | 11 => hint11
  | 12 => hint12
  | 13 => hint13
  | 14 => hint14
  | 15 => hint15
  | 16 => hint16
  | 17 => hint17
  | 18 => hint18
  | 19 => hint19
  | 20 => hint20
  | 21 => hint21
  | 22 => hint22
  | 23 => hint23
  | 24 => hint24
  | 25 => hint25
  | 26 => hint26
  | 27 => hint27
  | 28 => hint28
  | 29 => hint29
  | 30 => hint30
  | 31 => hint31
  | 32 => hint32
  | 33 => hint33
  | 34 => hint34
  | 35 => hint35
  | 36 => hint36
  | 37 => hint37
  | 38 => hint38
  | 39 => hint39
  | 40 => hint40
  | 41 => hint41
  | 42 => hint42
  | 43 => hint43
  | 44 => hint44
  | 45 => hint45
  | 47 => hint47
  | 48 => hint48
  | 49 => hint49
  | 50 => hint50
  | 51 => hint51
  | 53 => hint53
  | 54 => hint54
  | 55 => hint55
  | 56 => hint56
  | 58 => hint58
  | 59 => hint59
  | 60 => hint60
  | 61 => hint61
  | 63 => hint63
  | 64 => hint64
  | 65 => hint65
  | 66 => hint66
  | 67 => hint67
  | 68 => hint68
  | 69 => hint69
  | 70 => hint70
  | 71 => hint71
  | 73 => hint73
  | 74 => hint74
  | 75 => hint75
  | 76 => hint76
  | 77 => hint77
  | 78 => hint78
  | 79 => hint79
  | 82 => hint82
  | 83 => hint83
  | 84 => hint84
  | 85 => hint85
  | 86 => hint86
  | 87 => hint87
  | 88 => hint88
  | 89 => hint89
  | 114 => hint114
  | 46 => { keep := fun _ => [], head := fun _ => [], box := fun _ => false, own := some 5000 }
  | 57 => { keep := fun _ => [], head := fun _ => [], box := fun _ => false, own := some 5001 }
  | _ => { keep := fun _ => [], head := fun _ => [], box := fun _ => false }
def hints0 : FuncId → Hint := fun f => if f = 4 then hint4c else hints f

end Go.PS
namespace Go.Proofs.YtnccpffnffioeaaDoor
open Go.PS
theorem tabsC : (List.range Tryd.prog.types.size).all (tabT Tryd.prog) = true := by kernel_rfl
theorem tabs : Tabs Tryd.prog := tabs_of tabsC
theorem mixedC : Tryd.prog.follows .mixedOrders = true := by kernel_rfl
theorem wfC : (List.range Tryd.prog.funcs.size).all (wfF Tryd.prog hints) = true := by kernel_rfl
theorem wf : WF Tryd.prog hints := wf_of (fun f h => List.all_eq_true.1 wfC f (List.mem_range.2 h)) mixedC
end Go.Proofs.YtnccpffnffioeaaDoor
end
