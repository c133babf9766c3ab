/-
  The hints of the evaluator for this program, and that the program is as the evaluator wants it.
-/
import Derived.Test.YtolhandckojljaaRows
import Derived.Test.YtolhandckojljaaPsD
set_option linter.all false

namespace Go.PS
def keep2 : Nat → List Nat
  | 0 => []
  | _ => []
def head2 : Nat → List Nat
  | _ => []
def hint2 : Hint := { keep := keep2, head := head2, box := fun t => [].contains t, prim := none, own := none, dies := fun t => [].contains t }
def keep3 : Nat → List Nat
  | 0 => [1, 2, 3]
  | 1 => [1, 2, 3, 16]
  | 2 => [6]
  | 3 => [2, 3, 7]
  | 4 => [2, 3, 7, 8]
  | 5 => [2, 7, 8]
  | 6 => [2, 7, 8]
  | 7 => [7, 8, 9]
  | 8 => [7, 8, 9, 10]
  | 9 => [7, 8, 9, 10, 61]
  | 10 => [7, 8, 9, 10]
  | 11 => [7, 8, 10, 11, 12]
  | 12 => [7, 8, 9, 10]
  | 13 => [6]
  | _ => []
def head3 : Nat → List Nat
  | 9 => [7, 8, 9, 10]
  | _ => []
def free3 : Nat → List Nat
  | 11 => [0, 1, 2, 3, 4, 5, 6, 7, 8, 9, 10, 11, 12]
  | _ => []
def pairs3 : Nat → List (Nat × Nat)
  | 11 => [(5, 12), (6, 12), (7, 12), (8, 12), (9, 12)]
  | _ => []
def hint3 : Hint := { keep := keep3, head := head3, box := fun t => [3, 8, 11, 12].contains t, prim := none, own := none, dies := fun t => [18, 23, 43, 44, 59, 62, 77, 87, 98, 101].contains t, free := free3, pairs := pairs3 }
def keep4 : Nat → List Nat
  | 0 => [1]
  | 1 => [1, 19]
  | 2 => [2]
  | 3 => [1, 3, 4, 5]
  | 4 => [1, 3, 4, 5, 6]
  | 5 => [1, 3, 4, 5, 6, 7]
  | 6 => [1, 3, 4, 5, 6, 7, 39]
  | 7 => [1, 3, 4, 5, 6, 7]
  | 8 => [1, 3, 4, 5, 6, 7]
  | 9 => [1, 3, 4, 5, 6, 7, 85]
  | 10 => [2]
  | 11 => [1, 3, 4, 5, 6, 7]
  | 12 => [1, 3, 4, 5, 6, 8]
  | 13 => [1, 3, 4, 5, 6, 8, 101]
  | 14 => [1, 3, 4, 5, 6, 8]
  | 15 => [1, 3, 4, 5, 6, 8]
  | 16 => [1, 3, 4, 5, 6, 9]
  | 17 => [1, 3, 4, 5, 6, 9, 127]
  | 18 => [2]
  | 19 => [1, 3, 4, 5, 6, 9, 10]
  | 20 => [1, 3, 4, 5, 6, 9, 10, 131]
  | 21 => [1, 3, 4, 5, 6, 9, 10]
  | 22 => [1, 3, 4, 5, 6, 9, 10, 174]
  | 23 => [2]
  | 24 => [1, 3, 4, 5, 6, 9, 10]
  | 25 => [4, 5, 6, 11]
  | 26 => [5, 6, 11, 13]
  | 27 => [6, 11, 13, 15]
  | 28 => [2]
  | _ => []
def head4 : Nat → List Nat
  | 6 => [1, 3, 4, 5, 6, 7]
  | 13 => [1, 3, 4, 5, 6, 8]
  | 20 => [1, 3, 4, 5, 6, 9, 10]
  | _ => []
def free4 : Nat → List Nat
  | 8 => [0, 1, 2, 3, 4, 5, 6, 7, 8, 9, 10, 11, 12, 13, 14]
  | 9 => [0, 1, 2, 8, 9, 10, 11, 12, 13, 14, 15, 19, 20, 21, 22, 23, 24, 25]
  | 15 => [0, 1, 2, 3, 4, 5, 6, 7, 8, 9, 10, 11, 12, 13, 14]
  | 22 => [0, 1, 2, 3, 4, 5, 6, 7, 8, 9, 10, 11, 12, 13, 14, 15, 16, 17, 18, 21, 22, 23, 24, 25, 26, 27, 28, 29, 30, 34, 35, 36]
  | 24 => [0, 1, 2, 3, 4, 5, 6, 7, 8, 9, 10, 11, 12, 13, 14, 15, 16, 17, 18]
  | _ => []
def pairs4 : Nat → List (Nat × Nat)
  | 8 => [(0, 14)]
  | 9 => []
  | 15 => [(0, 14)]
  | 22 => [(21, 30), (22, 30), (23, 30), (24, 30), (25, 30), (26, 30)]
  | 24 => [(0, 18)]
  | _ => []
def hint4 : Hint := { keep := keep4, head := head4, box := fun t => [1].contains t, prim := none, own := none, dies := fun t => [21, 40, 42, 65, 76, 102, 104, 132, 154, 167, 175, 195, 196, 200, 201, 205, 206, 211, 212, 215, 216, 219, 220, 223, 224].contains t, free := free4, pairs := pairs4 }
def keep5 : Nat → List Nat
  | 0 => [0, 1]
  | 1 => [0, 1, 5]
  | 2 => [1, 5, 6, 7]
  | 3 => [1, 5, 6, 7, 8]
  | 4 => [1, 5, 6, 7, 8, 24]
  | 5 => [4]
  | 6 => [1, 5, 6, 40]
  | 7 => [4]
  | 8 => [1, 6, 9]
  | 9 => [1, 6, 9, 10]
  | 10 => [1, 6, 9, 10, 50]
  | 11 => [1, 6, 9, 10]
  | 12 => [1, 6, 9, 10, 60]
  | 13 => [4]
  | 14 => [1, 6, 9, 10, 69]
  | 15 => [4]
  | 16 => [4]
  | _ => []
def head5 : Nat → List Nat
  | 10 => [1, 6, 9, 10]
  | _ => []
def hint5 : Hint := { keep := keep5, head := head5, box := fun t => [].contains t, prim := none, own := none, dies := fun t => [11, 12, 16, 17, 26, 27, 30, 31, 32, 37, 38, 41, 47, 51, 71, 72, 73].contains t }
def keep6 : Nat → List Nat
  | 0 => [0, 2, 3, 5]
  | 1 => [0, 2, 3, 5, 9]
  | 2 => [0, 2, 3, 5, 29]
  | 3 => [8]
  | 4 => [2, 3, 5, 10]
  | 5 => [2, 3, 5, 10, 44]
  | 6 => [8]
  | 7 => [2, 3, 5, 10, 13]
  | 8 => [2, 3, 5, 10, 13, 14]
  | 9 => [3, 5, 10, 13, 14, 61]
  | 10 => [8]
  | 11 => [3, 5, 13, 14, 77]
  | 12 => [8]
  | 13 => [3, 5, 14, 94]
  | 14 => [8]
  | 15 => [3, 5, 14, 15]
  | 16 => [3, 5, 14, 15, 98]
  | 17 => [3, 5, 14, 15]
  | 18 => [3, 5, 14, 15, 121]
  | 19 => [8]
  | 20 => [8]
  | _ => []
def head6 : Nat → List Nat
  | 16 => [3, 5, 14, 15]
  | _ => []
def free6 : Nat → List Nat
  | 18 => [0, 1, 2, 3, 4, 5, 6, 7, 8, 9, 10, 11, 12, 13, 14, 15, 16, 17, 18, 19]
  | _ => []
def pairs6 : Nat → List (Nat × Nat)
  | 18 => []
  | _ => []
def hint6 : Hint := { keep := keep6, head := head6, box := fun t => [5].contains t, prim := none, own := none, dies := fun t => [16, 17, 21, 24, 31, 32, 38, 46, 47, 50, 59, 63, 64, 67, 68, 73, 79, 80, 83, 84, 99].contains t, free := free6, pairs := pairs6 }
def keep7 : Nat → List Nat
  | 0 => [0, 1, 2]
  | 1 => [0, 1, 2, 7]
  | 2 => [0, 1, 2, 7, 27]
  | 3 => [6]
  | 4 => [1, 2, 7, 8]
  | 5 => [1, 2, 8, 10]
  | 6 => [1, 2, 8, 10, 37]
  | 7 => [6]
  | 8 => [1, 2, 8, 10, 11]
  | 9 => [1, 2, 8, 10, 11, 45]
  | 10 => [1, 2, 8, 10, 11]
  | 11 => [1, 2, 8, 10, 11, 55]
  | 12 => [6]
  | 13 => [1, 2, 8, 10, 11]
  | 14 => [2, 8, 10, 12]
  | 15 => [2, 8, 10, 12, 67]
  | 16 => [6]
  | 17 => [2, 8, 10, 12, 13]
  | 18 => [2, 8, 10, 12, 13, 14]
  | 19 => [2, 8, 10, 12, 13, 14, 99]
  | 20 => [2, 8, 10, 12, 13, 14]
  | 21 => [2, 8, 10, 12, 13, 14, 109]
  | 22 => [6]
  | 23 => [2, 8, 10, 12, 13, 14, 118]
  | 24 => [6]
  | 25 => [8, 10, 12, 13, 15]
  | 26 => [8, 10, 12, 13, 15, 17]
  | 27 => [8, 10, 12, 13, 15, 17, 19]
  | 28 => [6]
  | _ => []
def head7 : Nat → List Nat
  | 9 => [1, 2, 8, 10, 11]
  | 19 => [2, 8, 10, 12, 13, 14]
  | _ => []
def free7 : Nat → List Nat
  | 17 => [0, 1, 2, 3, 4, 5, 6, 7, 8, 9, 10, 11, 12, 13, 14, 15, 16, 17, 18, 19, 20, 21]
  | 28 => [2, 3, 7, 8, 12, 13, 14, 15, 16, 17, 29, 30, 35, 36]
  | _ => []
def pairs7 : Nat → List (Nat × Nat)
  | 17 => [(0, 9), (1, 9), (2, 9), (3, 9), (9, 10), (9, 11), (9, 12), (9, 13), (9, 14), (9, 15), (9, 16), (9, 17), (9, 18), (9, 19), (9, 20), (9, 21)]
  | 28 => [(13, 14), (13, 15), (13, 16), (13, 17)]
  | _ => []
def hint7 : Hint := { keep := keep7, head := head7, box := fun t => [].contains t, prim := none, own := none, dies := fun t => [20, 21, 29, 30, 34, 42, 46, 96, 100, 119, 124, 130, 135, 136, 137, 140, 141, 143, 149, 150, 153, 154, 157, 163, 169, 174, 180, 181].contains t, free := free7, pairs := pairs7 }
def keep8 : Nat → List Nat
  | 0 => [1]
  | 1 => [1, 8]
  | 2 => [2]
  | 3 => [1, 3]
  | 4 => [1, 3, 4]
  | 5 => [1, 3, 4, 13]
  | 6 => [1, 3, 4]
  | 7 => [1, 3, 4, 5]
  | 8 => [1, 3, 4, 5, 17]
  | 9 => [1, 3, 4, 5]
  | 10 => [1, 3, 4, 5, 23]
  | 11 => [1, 3, 4, 5]
  | 12 => [2]
  | _ => []
def head8 : Nat → List Nat
  | 5 => [1, 3, 4]
  | 8 => [1, 3, 4, 5]
  | _ => []
def hint8 : Hint := { keep := keep8, head := head8, box := fun t => [1].contains t, prim := none, own := none, dies := fun t => [14, 18, 24, 30].contains t }
def keep9 : Nat → List Nat
  | 0 => []
  | 1 => [1]
  | 2 => [2]
  | 3 => [2, 3]
  | 4 => [2, 3]
  | 5 => [0]
  | _ => []
def head9 : Nat → List Nat
  | _ => []
def hint9 : Hint := { keep := keep9, head := head9, box := fun t => [1, 2].contains t, prim := none, own := none, dies := fun t => [22, 23, 29, 33, 38].contains t }
def keep10 : Nat → List Nat
  | 0 => [1]
  | 1 => [2]
  | _ => []
def head10 : Nat → List Nat
  | _ => []
def hint10 : Hint := { keep := keep10, head := head10, box := fun t => [1].contains t, prim := none, own := none, dies := fun t => [].contains t }
def keep11 : Nat → List Nat
  | 0 => [1]
  | 1 => [1, 3]
  | 2 => [3, 7, 8, 9]
  | 3 => [3, 7, 8, 9, 10]
  | 4 => [3, 4, 5, 7, 8, 9]
  | 5 => [3, 7, 8, 9]
  | 6 => [3, 7, 8, 9]
  | 7 => [2]
  | _ => []
def head11 : Nat → List Nat
  | 3 => [3, 7, 8, 9]
  | _ => []
def hint11 : Hint := { keep := keep11, head := head11, box := fun t => [1, 5].contains t, prim := none, own := none, dies := fun t => [9, 14, 15, 25].contains t }
def keep12 : Nat → List Nat
  | 0 => [1, 2]
  | 1 => [1, 2, 5]
  | 2 => [1, 2, 5, 9]
  | 3 => [1, 2, 5, 11, 12, 13]
  | 4 => [1, 2, 5, 11, 12, 13, 14]
  | 5 => [1, 2, 5, 7, 11, 12, 13]
  | 6 => [1, 2, 5, 7, 11, 12, 13, 25]
  | 7 => [1, 2, 5, 11, 12, 13]
  | 8 => [1, 2, 5, 11, 12, 13]
  | 9 => [4]
  | _ => []
def head12 : Nat → List Nat
  | 4 => [1, 2, 5, 11, 12, 13]
  | _ => []
def hint12 : Hint := { keep := keep12, head := head12, box := fun t => [2, 7].contains t, prim := none, own := none, dies := fun t => [13, 21, 26, 35].contains t }
def keep13 : Nat → List Nat
  | 0 => [0]
  | 1 => [0, 4]
  | 2 => [0, 4, 9]
  | 3 => [0, 4]
  | 4 => [0, 4, 5]
  | 5 => [0, 4, 5, 14]
  | 6 => [0, 4, 5]
  | 7 => [0, 4, 5, 25]
  | 8 => [2, 3]
  | 9 => [2, 3]
  | _ => []
def head13 : Nat → List Nat
  | 2 => [0, 4]
  | 5 => [0, 4, 5]
  | _ => []
def free13 : Nat → List Nat
  | 7 => [0, 1, 2, 3, 4, 5, 6, 7]
  | _ => []
def pairs13 : Nat → List (Nat × Nat)
  | 7 => []
  | _ => []
def hint13 : Hint := { keep := keep13, head := head13, box := fun t => [].contains t, prim := none, own := none, dies := fun t => [10, 15, 26, 27].contains t, free := free13, pairs := pairs13 }
def keep14 : Nat → List Nat
  | 0 => [0]
  | 1 => [0]
  | 2 => [0, 4]
  | 3 => [0, 4, 5]
  | 4 => [0, 4, 5, 15]
  | 5 => [0, 4, 5]
  | 6 => [0, 4, 5]
  | 7 => [2, 3]
  | _ => []
def head14 : Nat → List Nat
  | 4 => [0, 4, 5]
  | _ => []
def free14 : Nat → List Nat
  | 6 => [0, 1, 2, 3, 4, 5, 6, 7, 8, 9, 10, 11, 12, 13, 14, 15, 16, 17]
  | _ => []
def pairs14 : Nat → List (Nat × Nat)
  | 6 => [(0, 17)]
  | _ => []
def hint14 : Hint := { keep := keep14, head := head14, box := fun t => [].contains t, prim := none, own := none, dies := fun t => [7, 16, 18, 37, 38].contains t, free := free14, pairs := pairs14 }
def keep15 : Nat → List Nat
  | 0 => [0]
  | 1 => [0, 4]
  | 2 => [4, 12, 13, 14]
  | 3 => [4, 12, 13, 14, 15]
  | 4 => [4, 6, 12, 13, 14]
  | 5 => [4, 6, 12, 13, 14, 20]
  | 6 => [2, 3]
  | 7 => [4, 6, 8, 12, 13, 14]
  | 8 => [4, 6, 12, 13, 14, 29]
  | 9 => [2, 3]
  | 10 => [4, 6, 9, 12, 13, 14]
  | 11 => [4, 6, 12, 13, 14, 43]
  | 12 => [2, 3]
  | 13 => [4, 12, 13, 14]
  | 14 => [4, 12, 13, 14]
  | 15 => [2, 3]
  | _ => []
def head15 : Nat → List Nat
  | 3 => [4, 12, 13, 14]
  | _ => []
def free15 : Nat → List Nat
  | 13 => [0, 1, 2, 3, 4, 5, 6, 7]
  | _ => []
def pairs15 : Nat → List (Nat × Nat)
  | 13 => [(0, 6), (1, 6), (2, 6), (3, 6), (4, 6), (0, 7)]
  | _ => []
def hint15 : Hint := { keep := keep15, head := head15, box := fun t => [6, 7].contains t, prim := none, own := none, dies := fun t => [12, 14, 21, 28, 55].contains t, free := free15, pairs := pairs15 }
def keep16 : Nat → List Nat
  | 0 => [0]
  | 1 => [0, 3]
  | 2 => [0, 3, 10]
  | 3 => [0, 3]
  | 4 => [0, 3, 4]
  | 5 => [0, 3, 4, 47]
  | 6 => [2]
  | 7 => [0, 3, 4, 5]
  | 8 => [0, 3, 4, 5, 50]
  | 9 => [0, 3, 4, 5]
  | 10 => [0, 3, 4, 5, 60]
  | 11 => [2]
  | 12 => [0, 3, 4, 6]
  | 13 => [0, 3, 4, 6, 63]
  | 14 => [0, 3, 4, 6]
  | 15 => [0, 3, 4, 6, 91]
  | 16 => [2]
  | 17 => [2]
  | _ => []
def head16 : Nat → List Nat
  | 2 => [0, 3]
  | 8 => [0, 3, 4, 5]
  | 13 => [0, 3, 4, 6]
  | _ => []
def free16 : Nat → List Nat
  | 10 => [0, 1, 2, 3, 4, 5, 6]
  | 15 => [0, 1, 2, 3, 4, 5, 6, 7, 8, 9, 10, 11, 12, 13, 14, 15, 16, 17, 18, 19, 20, 21, 22, 23, 24]
  | _ => []
def pairs16 : Nat → List (Nat × Nat)
  | 10 => []
  | 15 => []
  | _ => []
def hint16 : Hint := { keep := keep16, head := head16, box := fun t => [4].contains t, prim := none, own := none, dies := fun t => [11, 20, 25, 30, 35, 40, 51, 64].contains t, free := free16, pairs := pairs16 }
def keep17 : Nat → List Nat
  | 0 => []
  | 1 => [1, 2]
  | 2 => [1, 2, 3]
  | 3 => [1, 2, 3, 5]
  | 4 => [1, 2, 3, 5, 7]
  | 5 => [1, 2, 3, 5, 7, 8, 9]
  | 6 => [0]
  | _ => []
def head17 : Nat → List Nat
  | _ => []
def hint17 : Hint := { keep := keep17, head := head17, box := fun t => [].contains t, prim := none, own := none, dies := fun t => [10, 19, 24, 29, 34, 36, 37, 40, 41, 44, 45, 48, 49, 52, 53, 56, 57].contains t }
def keep18 : Nat → List Nat
  | 0 => [0]
  | 1 => [0, 3]
  | 2 => [0, 3, 4]
  | 3 => [0, 3, 4, 11]
  | 4 => [0, 3, 4]
  | 5 => [0, 3, 4]
  | 6 => [2]
  | _ => []
def head18 : Nat → List Nat
  | 3 => [0, 3, 4]
  | _ => []
def free18 : Nat → List Nat
  | 5 => [0, 1, 2, 3, 4, 5, 6, 7, 8, 9, 10, 11, 12, 13]
  | _ => []
def pairs18 : Nat → List (Nat × Nat)
  | 5 => [(0, 12), (1, 12), (2, 12), (3, 12), (4, 12), (0, 13)]
  | _ => []
def hint18 : Hint := { keep := keep18, head := head18, box := fun t => [].contains t, prim := none, own := none, dies := fun t => [12, 30].contains t, free := free18, pairs := pairs18 }
def keep19 : Nat → List Nat
  | 0 => [0, 1, 5]
  | 1 => [0, 1, 5, 20]
  | 2 => [6]
  | 3 => [0, 1, 5, 23]
  | 4 => [6]
  | 5 => [0, 1, 5, 7, 8]
  | 6 => [0, 1, 7, 8, 9, 10]
  | 7 => [6]
  | _ => []
def head19 : Nat → List Nat
  | _ => []
def free19 : Nat → List Nat
  | 1 => [0, 1, 2, 3, 4, 5, 6, 7]
  | 4 => [0, 1, 2, 3, 4, 5, 6, 7, 8, 9, 10, 11, 15, 16, 17, 18, 19, 20]
  | 7 => [0, 1, 4, 5, 9, 10, 11, 12, 13, 14]
  | _ => []
def pairs19 : Nat → List (Nat × Nat)
  | 1 => [(3, 4), (3, 5), (3, 6), (4, 7)]
  | 4 => [(5, 6), (5, 7), (5, 8), (5, 9), (5, 10), (6, 11), (7, 11), (8, 11), (16, 17), (16, 18), (16, 19), (16, 20)]
  | 7 => [(10, 11), (10, 12), (10, 13), (10, 14)]
  | _ => []
def hint19 : Hint := { keep := keep19, head := head19, box := fun t => [5].contains t, prim := none, own := none, dies := fun t => [38, 39, 41, 47, 54, 61, 62, 64, 65, 66, 69, 70, 72].contains t, free := free19, pairs := pairs19 }
def keep20 : Nat → List Nat
  | 0 => [0, 1]
  | 1 => [0, 1, 5]
  | 2 => [0, 1, 5, 28]
  | 3 => [0, 1, 5]
  | 4 => [0, 1, 5, 6]
  | 5 => [0, 1, 5, 6, 40]
  | 6 => [0, 1, 5, 6]
  | 7 => [0, 1, 5, 6, 7, 8]
  | 8 => [0, 1, 5, 6, 76]
  | 9 => [4]
  | 10 => [0, 1, 5, 10]
  | 11 => [0, 1, 5, 99]
  | 12 => [4]
  | 13 => [12]
  | 14 => [4]
  | _ => []
def head20 : Nat → List Nat
  | 2 => [0, 1, 5]
  | 5 => [0, 1, 5, 6]
  | _ => []
def free20 : Nat → List Nat
  | 10 => [0, 1, 2, 3, 4, 5, 6, 7, 8, 9, 10, 11, 12, 13, 14, 15, 16, 19, 20, 21]
  | _ => []
def pairs20 : Nat → List (Nat × Nat)
  | 10 => []
  | _ => []
def hint20 : Hint := { keep := keep20, head := head20, box := fun t => [].contains t, prim := none, own := none, dies := fun t => [20, 29, 41, 43, 57, 59, 60, 77, 98, 100, 101, 105].contains t, free := free20, pairs := pairs20 }
def keep21 : Nat → List Nat
  | 0 => [0, 1, 5]
  | 1 => [0, 1, 5, 8]
  | 2 => [6]
  | 3 => [0, 1, 5, 11]
  | 4 => [6]
  | 5 => [0, 1, 5, 18]
  | 6 => [6]
  | 7 => [0, 1, 5, 7]
  | 8 => [0, 1, 5, 7, 28]
  | 9 => [7]
  | 10 => [6]
  | _ => []
def head21 : Nat → List Nat
  | _ => []
def hint21 : Hint := { keep := keep21, head := head21, box := fun t => [].contains t, prim := none, own := none, dies := fun t => [14, 30, 31, 36].contains t }
def keep22 : Nat → List Nat
  | 0 => [0, 1]
  | 1 => [0, 1, 12]
  | 2 => [4, 5]
  | 3 => [0, 1, 15]
  | 4 => [4, 5]
  | 5 => [0, 1, 21]
  | 6 => [4, 5]
  | 7 => [0, 1, 6]
  | 8 => [0, 1, 6]
  | 9 => [0, 1, 6, 7]
  | 10 => [0, 1, 6, 7, 9]
  | 11 => [0, 1, 6, 7, 9, 48, 49]
  | 12 => [0, 1, 6, 7, 9, 48, 49, 50]
  | 13 => [0, 1, 6, 7, 9, 10, 48, 49]
  | 14 => [0, 1, 6, 7, 9, 10, 11, 48, 49]
  | 15 => [0, 1, 6, 7, 9, 10, 11, 48, 49, 65]
  | 16 => [0, 1, 6, 7, 9, 48, 49]
  | 17 => [0, 1, 6, 7, 9, 10, 11, 48, 49]
  | 18 => [0, 1, 6, 7, 9, 48, 49]
  | 19 => [0, 1, 6, 7, 9, 48, 49]
  | 20 => [4, 5]
  | _ => []
def head22 : Nat → List Nat
  | 12 => [0, 1, 6, 7, 9, 48, 49]
  | _ => []
def free22 : Nat → List Nat
  | 14 => [0, 1, 2, 3, 4, 5, 6, 7, 8, 9]
  | 17 => [0, 1, 2, 3, 4, 5, 6, 7]
  | 18 => [0, 1, 2, 3, 4, 5, 6, 7, 8, 9, 10, 11, 12, 13, 14, 15, 16, 17, 18]
  | _ => []
def pairs22 : Nat → List (Nat × Nat)
  | 14 => []
  | 17 => []
  | 18 => [(0, 17), (1, 17), (2, 17), (3, 17), (4, 17), (0, 18)]
  | _ => []
def hint22 : Hint := { keep := keep22, head := head22, box := fun t => [6, 7].contains t, prim := none, own := none, dies := fun t => [39, 49, 66, 67, 90, 92, 102].contains t, free := free22, pairs := pairs22 }
def keep23 : Nat → List Nat
  | 0 => [0]
  | 1 => [0, 4]
  | 2 => [2]
  | 3 => [2]
  | _ => []
def head23 : Nat → List Nat
  | _ => []
def hint23 : Hint := { keep := keep23, head := head23, box := fun t => [].contains t, prim := none, own := none, dies := fun t => [5].contains t }
def keep24 : Nat → List Nat
  | 0 => [0]
  | 1 => [2]
  | _ => []
def head24 : Nat → List Nat
  | _ => []
def hint24 : Hint := { keep := keep24, head := head24, box := fun t => [].contains t, prim := none, own := none, dies := fun t => [5, 6].contains t }
def keep25 : Nat → List Nat
  | 0 => [0]
  | 1 => [0, 6]
  | 2 => [2]
  | 3 => [0, 3]
  | 4 => [0, 3]
  | 5 => [0, 3, 23]
  | 6 => [3, 4]
  | 7 => [3]
  | 8 => [2]
  | _ => []
def head25 : Nat → List Nat
  | _ => []
def hint25 : Hint := { keep := keep25, head := head25, box := fun t => [].contains t, prim := none, own := none, dies := fun t => [24].contains t }
def keep26 : Nat → List Nat
  | 0 => [0, 1, 2]
  | 1 => [0, 2, 8, 9]
  | 2 => [0, 2, 8, 9, 16]
  | 3 => [6, 7]
  | 4 => [0, 2, 8, 20]
  | 5 => [6, 7]
  | 6 => [6, 7]
  | _ => []
def head26 : Nat → List Nat
  | _ => []
def free26 : Nat → List Nat
  | 6 => [0, 1, 2, 3, 4, 5, 6]
  | _ => []
def pairs26 : Nat → List (Nat × Nat)
  | 6 => []
  | _ => []
def hint26 : Hint := { keep := keep26, head := head26, box := fun t => [8].contains t, prim := none, own := none, dies := fun t => [10, 12, 19, 23, 29, 32].contains t, free := free26, pairs := pairs26 }
def keep27 : Nat → List Nat
  | 0 => [0, 3]
  | 1 => [3, 5, 6]
  | 2 => [3, 5, 6, 7]
  | 3 => [3, 5, 6, 7, 17]
  | 4 => [4]
  | 5 => [3, 5, 7, 21]
  | 6 => [4]
  | 7 => [3, 5, 7, 29]
  | 8 => [4]
  | 9 => [32]
  | 10 => [4]
  | 11 => [4]
  | _ => []
def head27 : Nat → List Nat
  | _ => []
def hint27 : Hint := { keep := keep27, head := head27, box := fun t => [3, 5].contains t, prim := none, own := none, dies := fun t => [8, 9, 20, 24, 36, 43, 44].contains t }
def keep28 : Nat → List Nat
  | 0 => [1]
  | 1 => [2]
  | _ => []
def head28 : Nat → List Nat
  | _ => []
def hint28 : Hint := { keep := keep28, head := head28, box := fun t => [1].contains t, prim := none, own := none, dies := fun t => [6, 11, 17, 23, 29].contains t }
def keep29 : Nat → List Nat
  | 0 => [1, 2, 3]
  | 1 => [1, 2, 3, 7]
  | 2 => [2, 3, 7, 21]
  | 3 => [2, 3, 7, 21, 22]
  | 4 => [6]
  | 5 => [2, 3, 7, 21, 41]
  | 6 => [3, 7, 8]
  | 7 => [3, 7, 8, 52]
  | 8 => [3, 7, 8]
  | 9 => [3, 7, 8, 9, 10]
  | 10 => [3, 7, 8, 108]
  | 11 => [6]
  | 12 => [6]
  | 13 => [2, 3, 7, 21, 109]
  | 14 => [6]
  | 15 => [2, 3, 7, 21, 129]
  | 16 => [3, 7, 11]
  | 17 => [3, 7, 11, 140]
  | 18 => [3, 7, 11]
  | 19 => [3, 7, 11, 12, 13]
  | 20 => [3, 7, 11, 170]
  | 21 => [6]
  | 22 => [6]
  | 23 => [2, 3, 7, 21, 171]
  | 24 => [2, 3, 14]
  | 25 => [2, 3, 14, 177]
  | 26 => [2, 3, 14]
  | 27 => [2, 3, 14, 187]
  | 28 => [6]
  | 29 => [6]
  | 30 => [2, 3, 7, 21, 193]
  | 31 => [2, 3, 15]
  | 32 => [2, 3, 15, 203]
  | 33 => [2, 3, 15]
  | 34 => [2, 3, 15, 212]
  | 35 => [6]
  | 36 => [6]
  | 37 => [2, 3, 7, 21, 241]
  | 38 => [6]
  | 39 => [2, 3, 7, 261]
  | 40 => [3, 7, 16]
  | 41 => [3, 7, 16, 272]
  | 42 => [3, 7, 16]
  | 43 => [3, 7, 16, 17, 18]
  | 44 => [3, 7, 16, 295]
  | 45 => [6]
  | 46 => [6]
  | 47 => [6]
  | _ => []
def head29 : Nat → List Nat
  | 7 => [3, 7, 8]
  | 17 => [3, 7, 11]
  | 25 => [2, 3, 14]
  | 32 => [2, 3, 15]
  | 41 => [3, 7, 16]
  | _ => []
def free29 : Nat → List Nat
  | 9 => [0, 1, 2, 3, 4, 5, 6, 7, 8, 9, 10, 11, 12]
  | 14 => [3, 4, 5, 6, 10, 11, 12, 13, 14, 15]
  | 19 => [0, 1, 2, 3, 4, 5, 6, 7, 8, 9, 10, 11, 12]
  | 35 => [0, 1, 2, 3, 4, 5, 9, 10, 11, 12, 13, 14, 15, 16, 17, 18, 19, 20, 21, 22, 23, 24, 25]
  | 38 => [3, 4, 5, 6, 10, 11, 12, 13, 14, 15]
  | 43 => [0, 1, 2, 3, 4, 5, 6, 7, 8, 9, 10, 11, 12]
  | 47 => [3, 4, 5, 6, 10, 11, 12, 13, 14, 15, 16, 17, 18]
  | _ => []
def pairs29 : Nat → List (Nat × Nat)
  | 9 => [(5, 12), (6, 12), (7, 12), (8, 12), (9, 12)]
  | 14 => []
  | 19 => [(5, 12), (6, 12), (7, 12), (8, 12), (9, 12)]
  | 35 => []
  | 38 => []
  | 43 => [(5, 12), (6, 12), (7, 12), (8, 12), (9, 12)]
  | 47 => [(10, 18), (11, 18), (12, 18), (13, 18), (14, 18), (15, 18)]
  | _ => []
def hint29 : Hint := { keep := keep29, head := head29, box := fun t => [3, 9, 10, 12, 13, 17, 18].contains t, prim := none, own := none, dies := fun t => [21, 26, 33, 36, 46, 53, 68, 73, 79, 86, 97, 113, 120, 124, 134, 141, 158, 178, 188, 200, 204, 221, 230, 245, 252, 256, 266, 273, 298, 305, 308, 313].contains t, free := free29, pairs := pairs29 }
def keep30 : Nat → List Nat
  | 0 => [1]
  | 1 => [1, 6]
  | 2 => [2]
  | 3 => [1, 3]
  | 4 => [2]
  | _ => []
def head30 : Nat → List Nat
  | _ => []
def free30 : Nat → List Nat
  | 3 => [0, 1, 2, 3, 4]
  | _ => []
def pairs30 : Nat → List (Nat × Nat)
  | 3 => [(1, 2), (1, 4), (3, 4)]
  | _ => []
def hint30 : Hint := { keep := keep30, head := head30, box := fun t => [].contains t, prim := none, own := none, dies := fun t => [15].contains t, free := free30, pairs := pairs30 }
def keep31 : Nat → List Nat
  | 0 => [0]
  | 1 => [0, 3]
  | 2 => [0, 3, 4]
  | 3 => [0, 3, 4]
  | 4 => [0, 3, 4]
  | 5 => [0, 3, 4]
  | 6 => [0, 4]
  | 7 => [2]
  | 8 => [2]
  | _ => []
def head31 : Nat → List Nat
  | _ => []
def hint31 : Hint := { keep := keep31, head := head31, box := fun t => [].contains t, prim := none, own := none, dies := fun t => [10].contains t }
def keep32 : Nat → List Nat
  | 0 => [1]
  | 1 => [2]
  | _ => []
def head32 : Nat → List Nat
  | _ => []
def hint32 : Hint := { keep := keep32, head := head32, box := fun t => [1].contains t, prim := none, own := none, dies := fun t => [6, 12, 18].contains t }
def keep33 : Nat → List Nat
  | 0 => [2, 3]
  | 1 => [4]
  | _ => []
def head33 : Nat → List Nat
  | _ => []
def hint33 : Hint := { keep := keep33, head := head33, box := fun t => [2, 3].contains t, prim := none, own := none, dies := fun t => [11, 21].contains t }
def keep34 : Nat → List Nat
  | 0 => [2, 3]
  | 1 => [4]
  | _ => []
def head34 : Nat → List Nat
  | _ => []
def hint34 : Hint := { keep := keep34, head := head34, box := fun t => [2, 3].contains t, prim := none, own := none, dies := fun t => [7, 11, 16].contains t }
def keep35 : Nat → List Nat
  | 0 => [1]
  | 1 => [2]
  | _ => []
def head35 : Nat → List Nat
  | _ => []
def hint35 : Hint := { keep := keep35, head := head35, box := fun t => [1].contains t, prim := none, own := none, dies := fun t => [6, 11, 16, 21, 26].contains t }
def keep36 : Nat → List Nat
  | 0 => [0, 3, 4]
  | 1 => [0, 3, 4, 8]
  | 2 => [4, 5]
  | 3 => [0, 4, 6]
  | 4 => [0, 4, 6, 17]
  | 5 => [4, 5]
  | 6 => [4, 5]
  | _ => []
def head36 : Nat → List Nat
  | _ => []
def hint36 : Hint := { keep := keep36, head := head36, box := fun t => [4].contains t, prim := none, own := none, dies := fun t => [19, 23].contains t }
def keep37 : Nat → List Nat
  | 0 => [0, 1]
  | 1 => [4]
  | _ => []
def head37 : Nat → List Nat
  | _ => []
def hint37 : Hint := { keep := keep37, head := head37, box := fun t => [].contains t, prim := none, own := none, dies := fun t => [5, 6].contains t }
def keep38 : Nat → List Nat
  | 0 => [1, 2]
  | 1 => [5]
  | 2 => [3]
  | _ => []
def head38 : Nat → List Nat
  | _ => []
def hint38 : Hint := { keep := keep38, head := head38, box := fun t => [2, 4].contains t, prim := none, own := none, dies := fun t => [6, 19].contains t }
def keep39 : Nat → List Nat
  | 0 => [2, 3, 4]
  | 1 => [2, 3, 4, 14]
  | 2 => [4, 5]
  | 3 => [4, 6]
  | 4 => [4, 6, 29]
  | 5 => [4, 5]
  | 6 => [4, 5]
  | _ => []
def head39 : Nat → List Nat
  | _ => []
def hint39 : Hint := { keep := keep39, head := head39, box := fun t => [2, 3, 4, 6].contains t, prim := none, own := none, dies := fun t => [10].contains t }
def keep40 : Nat → List Nat
  | 0 => [0, 3]
  | 1 => [0, 3, 5]
  | 2 => [0, 3, 5, 12]
  | 3 => [4]
  | 4 => [0, 3, 5, 6]
  | 5 => [0, 3, 5, 6, 16]
  | 6 => [0, 3, 5, 6]
  | 7 => [0, 3, 5, 6, 26]
  | 8 => [4]
  | 9 => [0, 3, 5, 6, 28]
  | 10 => [4]
  | 11 => [47]
  | 12 => [4]
  | 13 => [4]
  | _ => []
def head40 : Nat → List Nat
  | _ => []
def free40 : Nat → List Nat
  | 11 => [4, 5, 6, 7, 8, 9, 10, 11, 12, 13, 14, 15, 16]
  | _ => []
def pairs40 : Nat → List (Nat × Nat)
  | 11 => []
  | _ => []
def hint40 : Hint := { keep := keep40, head := head40, box := fun t => [3].contains t, prim := none, own := none, dies := fun t => [22, 32, 35, 39, 43].contains t, free := free40, pairs := pairs40 }
def keep41 : Nat → List Nat
  | 0 => [1, 2]
  | 1 => [2]
  | _ => []
def head41 : Nat → List Nat
  | _ => []
def hint41 : Hint := { keep := keep41, head := head41, box := fun t => [1, 2].contains t, prim := none, own := none, dies := fun t => [].contains t }
def keep42 : Nat → List Nat
  | 0 => [0, 1, 5]
  | 1 => [0, 1, 5, 13]
  | 2 => [6]
  | 3 => [0, 1, 5, 17]
  | 4 => [6]
  | 5 => [0, 1, 5, 7]
  | 6 => [0, 1, 5, 7, 22]
  | 7 => [0, 1, 5, 7]
  | 8 => [0, 1, 7]
  | 9 => [7]
  | 10 => [6]
  | _ => []
def head42 : Nat → List Nat
  | _ => []
def hint42 : Hint := { keep := keep42, head := head42, box := fun t => [5].contains t, prim := none, own := none, dies := fun t => [10, 30, 31, 34].contains t }
def keep43 : Nat → List Nat
  | 0 => [0, 1]
  | 1 => [0, 1, 13]
  | 2 => [4, 5]
  | 3 => [0, 20]
  | 4 => [4, 5]
  | 5 => [0]
  | 6 => [0, 6]
  | 7 => [0, 6, 7]
  | 8 => [0, 6, 7, 42]
  | 9 => [4, 5]
  | 10 => [0, 6, 7, 8]
  | 11 => [0, 6, 7, 8]
  | 12 => []
  | 13 => [4, 5]
  | _ => []
def head43 : Nat → List Nat
  | _ => []
def free43 : Nat → List Nat
  | 9 => [0, 1, 2, 3, 4, 5, 6, 7, 8, 9, 10, 11, 12, 13, 14]
  | 12 => [0, 1, 2, 3, 4, 5, 6, 7, 8, 9, 10, 11, 12, 13, 14, 15, 16, 17, 18, 19, 20, 21, 22]
  | _ => []
def pairs43 : Nat → List (Nat × Nat)
  | 9 => []
  | 12 => [(0, 22), (1, 22), (2, 22), (3, 22), (4, 22)]
  | _ => []
def hint43 : Hint := { keep := keep43, head := head43, box := fun t => [].contains t, prim := none, own := none, dies := fun t => [14, 47, 51, 52, 71, 84, 89, 92, 93].contains t, free := free43, pairs := pairs43 }
def keep44 : Nat → List Nat
  | 0 => [1]
  | 1 => [1, 4]
  | 2 => [2]
  | 3 => [2]
  | _ => []
def head44 : Nat → List Nat
  | _ => []
def hint44 : Hint := { keep := keep44, head := head44, box := fun t => [1].contains t, prim := none, own := none, dies := fun t => [].contains t }
def keep45 : Nat → List Nat
  | 0 => [0]
  | 1 => [0, 4]
  | 2 => [2]
  | 3 => [2]
  | _ => []
def head45 : Nat → List Nat
  | _ => []
def hint45 : Hint := { keep := keep45, head := head45, box := fun t => [].contains t, prim := some (1, 4), own := none, dies := fun t => [6].contains t }
def keep46 : Nat → List Nat
  | 0 => [0]
  | 1 => [0, 4]
  | 2 => [2]
  | 3 => [2]
  | _ => []
def head46 : Nat → List Nat
  | _ => []
def hint46 : Hint := { keep := keep46, head := head46, box := fun t => [].contains t, prim := some (1, 3), own := none, dies := fun t => [6].contains t }
def keep47 : Nat → List Nat
  | 0 => [1]
  | 1 => [1, 23]
  | 2 => [2]
  | 3 => [1, 43]
  | 4 => [2]
  | 5 => [1, 81]
  | 6 => [2]
  | 7 => [2]
  | _ => []
def head47 : Nat → List Nat
  | _ => []
def free47 : Nat → List Nat
  | 3 => [10, 11, 12, 13, 14, 15, 16, 17]
  | _ => []
def pairs47 : Nat → List (Nat × Nat)
  | 3 => [(10, 16), (11, 16), (12, 16), (13, 16)]
  | _ => []
def hint47 : Hint := { keep := keep47, head := head47, box := fun t => [1].contains t, prim := none, own := none, dies := fun t => [6, 11, 16, 28, 33, 47, 52, 57, 62, 67, 72, 77, 85, 90, 95].contains t, free := free47, pairs := pairs47 }
def keep48 : Nat → List Nat
  | 0 => [0, 1, 2, 3]
  | 1 => [8]
  | _ => []
def head48 : Nat → List Nat
  | _ => []
def hint48 : Hint := { keep := keep48, head := head48, box := fun t => [].contains t, prim := none, own := none, dies := fun t => [10, 11, 15, 16].contains t }
def keep49 : Nat → List Nat
  | 0 => [2, 3]
  | 1 => [4]
  | _ => []
def head49 : Nat → List Nat
  | _ => []
def hint49 : Hint := { keep := keep49, head := head49, box := fun t => [2, 3].contains t, prim := none, own := none, dies := fun t => [8, 16, 21, 28].contains t }
def keep50 : Nat → List Nat
  | 0 => [2, 3]
  | 1 => [4]
  | _ => []
def head50 : Nat → List Nat
  | _ => []
def hint50 : Hint := { keep := keep50, head := head50, box := fun t => [2, 3].contains t, prim := none, own := none, dies := fun t => [8, 16, 21, 28, 35].contains t }
def keep51 : Nat → List Nat
  | 0 => [1, 2]
  | 1 => [1, 2, 5]
  | 2 => [1, 2, 5, 6]
  | 3 => [1, 2, 5, 6, 15]
  | 4 => [1, 2, 5, 6]
  | 5 => [1, 2, 5, 6, 35]
  | 6 => [1, 2, 5, 6]
  | 7 => [4]
  | _ => []
def head51 : Nat → List Nat
  | 3 => [1, 2, 5, 6]
  | _ => []
def free51 : Nat → List Nat
  | 5 => [0, 1, 2, 3, 4, 5, 6, 9, 10, 11, 12, 13, 14]
  | 6 => [0, 1, 2, 3, 4, 5, 6, 7, 8, 9, 10, 11, 12, 13, 14]
  | _ => []
def pairs51 : Nat → List (Nat × Nat)
  | 5 => []
  | 6 => []
  | _ => []
def hint51 : Hint := { keep := keep51, head := head51, box := fun t => [2].contains t, prim := none, own := none, dies := fun t => [12, 16, 26, 36, 52].contains t, free := free51, pairs := pairs51 }
def keep52 : Nat → List Nat
  | 0 => [0, 3]
  | 1 => [0, 3, 5]
  | 2 => [0, 3, 5]
  | 3 => [4]
  | _ => []
def head52 : Nat → List Nat
  | _ => []
def hint52 : Hint := { keep := keep52, head := head52, box := fun t => [].contains t, prim := none, own := some 0, dies := fun t => [9, 13, 14].contains t }
def keep53 : Nat → List Nat
  | 0 => [0, 3]
  | 1 => [0, 3, 5]
  | 2 => [0, 3, 5]
  | 3 => [0, 3]
  | 4 => [0, 3, 22, 23]
  | 5 => [0, 3, 22, 23, 24]
  | 6 => [0, 3, 6, 22, 23]
  | 7 => [0, 3, 6, 22, 23, 30]
  | 8 => [0, 3, 22, 23]
  | 9 => [0, 3, 22, 23]
  | 10 => [0, 3, 7]
  | 11 => [0, 70]
  | 12 => [0]
  | 13 => [4]
  | _ => []
def head53 : Nat → List Nat
  | 5 => [0, 3, 22, 23]
  | _ => []
def free53 : Nat → List Nat
  | 11 => [3, 4, 5, 6, 7, 8, 12, 13, 14, 15, 16, 17, 18, 19, 20, 21, 22, 23, 24, 25, 26, 27, 28]
  | _ => []
def pairs53 : Nat → List (Nat × Nat)
  | 11 => []
  | _ => []
def hint53 : Hint := { keep := keep53, head := head53, box := fun t => [].contains t, prim := none, own := some 0, dies := fun t => [11, 15, 16, 23, 31, 42, 51, 60, 71, 75].contains t, free := free53, pairs := pairs53 }
def keep54 : Nat → List Nat
  | 0 => [0, 3]
  | 1 => [0, 3, 5]
  | 2 => [0, 3, 5]
  | 3 => [4]
  | _ => []
def head54 : Nat → List Nat
  | _ => []
def hint54 : Hint := { keep := keep54, head := head54, box := fun t => [].contains t, prim := none, own := some 0, dies := fun t => [9, 13, 14].contains t }
def keep55 : Nat → List Nat
  | 0 => [0, 1, 2, 3]
  | 1 => [0, 1, 3, 10, 11]
  | 2 => [0, 1, 3, 10, 11, 12]
  | 3 => [0, 1, 3, 9, 10, 11]
  | 4 => [0, 1, 3, 9, 10, 11, 16]
  | 5 => [0, 1, 3, 10, 11]
  | 6 => [0, 1, 3, 10, 11]
  | 7 => [8]
  | _ => []
def head55 : Nat → List Nat
  | 2 => [0, 1, 3, 10, 11]
  | _ => []
def hint55 : Hint := { keep := keep55, head := head55, box := fun t => [].contains t, prim := none, own := some 0, dies := fun t => [10, 11, 17, 18, 25].contains t }
def keep56 : Nat → List Nat
  | 0 => [0, 1]
  | 1 => [3]
  | _ => []
def head56 : Nat → List Nat
  | _ => []
def free56 : Nat → List Nat
  | 1 => [0, 1, 2, 3, 4, 5, 6, 7, 8, 9]
  | _ => []
def pairs56 : Nat → List (Nat × Nat)
  | 1 => [(0, 9), (1, 9), (2, 9), (3, 9), (4, 9), (5, 9)]
  | _ => []
def hint56 : Hint := { keep := keep56, head := head56, box := fun t => [].contains t, prim := none, own := none, dies := fun t => [11].contains t, free := free56, pairs := pairs56 }
def keep57 : Nat → List Nat
  | 0 => [0, 1, 2]
  | 1 => [6]
  | _ => []
def head57 : Nat → List Nat
  | _ => []
def hint57 : Hint := { keep := keep57, head := head57, box := fun t => [].contains t, prim := none, own := none, dies := fun t => [8, 10, 11, 12].contains t }
def keep58 : Nat → List Nat
  | 0 => [1, 2]
  | 1 => [4]
  | _ => []
def head58 : Nat → List Nat
  | _ => []
def hint58 : Hint := { keep := keep58, head := head58, box := fun t => [2].contains t, prim := none, own := none, dies := fun t => [7, 10].contains t }
def keep59 : Nat → List Nat
  | 0 => [1]
  | 1 => [2]
  | _ => []
def head59 : Nat → List Nat
  | _ => []
def hint59 : Hint := { keep := keep59, head := head59, box := fun t => [1].contains t, prim := none, own := none, dies := fun t => [].contains t }
def keep60 : Nat → List Nat
  | 0 => [1, 2]
  | 1 => [4]
  | _ => []
def head60 : Nat → List Nat
  | _ => []
def hint60 : Hint := { keep := keep60, head := head60, box := fun t => [2].contains t, prim := none, own := none, dies := fun t => [8, 14, 15].contains t }
def keep61 : Nat → List Nat
  | 0 => [0, 1]
  | 1 => [0, 1, 7, 8]
  | 2 => [0, 1, 7, 8, 9]
  | 3 => [0, 1, 5, 7, 8]
  | 4 => [0, 1, 5, 7, 8, 16]
  | 5 => [4]
  | 6 => [0, 1, 7, 8]
  | 7 => [4]
  | _ => []
def head61 : Nat → List Nat
  | 2 => [0, 1, 7, 8]
  | _ => []
def hint61 : Hint := { keep := keep61, head := head61, box := fun t => [].contains t, prim := none, own := none, dies := fun t => [8, 17].contains t }
def keep62 : Nat → List Nat
  | 0 => [1, 2]
  | 1 => [3]
  | _ => []
def head62 : Nat → List Nat
  | _ => []
def hint62 : Hint := { keep := keep62, head := head62, box := fun t => [2].contains t, prim := none, own := none, dies := fun t => [].contains t }
def keep63 : Nat → List Nat
  | 0 => [1]
  | 1 => [2]
  | _ => []
def head63 : Nat → List Nat
  | _ => []
def hint63 : Hint := { keep := keep63, head := head63, box := fun t => [1].contains t, prim := none, own := none, dies := fun t => [6].contains t }
def keep64 : Nat → List Nat
  | 0 => [0, 1]
  | 1 => [0, 1, 5]
  | 2 => [0, 1, 5, 12]
  | 3 => [0, 1, 5]
  | 4 => [0, 1, 5, 24]
  | 5 => [4]
  | 6 => [4]
  | _ => []
def head64 : Nat → List Nat
  | 2 => [0, 1, 5]
  | _ => []
def hint64 : Hint := { keep := keep64, head := head64, box := fun t => [].contains t, prim := none, own := none, dies := fun t => [13, 25].contains t }
def keep65 : Nat → List Nat
  | 0 => [0]
  | 1 => [0, 20]
  | 2 => [2]
  | 3 => [2]
  | _ => []
def head65 : Nat → List Nat
  | _ => []
def hint65 : Hint := { keep := keep65, head := head65, box := fun t => [].contains t, prim := none, own := none, dies := fun t => [5, 9, 13, 17, 21].contains t }
def keep66 : Nat → List Nat
  | 0 => [0, 1]
  | 1 => [3]
  | _ => []
def head66 : Nat → List Nat
  | _ => []
def free66 : Nat → List Nat
  | 1 => [0, 1, 2, 3, 4, 5]
  | _ => []
def pairs66 : Nat → List (Nat × Nat)
  | 1 => []
  | _ => []
def hint66 : Hint := { keep := keep66, head := head66, box := fun t => [].contains t, prim := none, own := none, dies := fun t => [7].contains t, free := free66, pairs := pairs66 }
def keep67 : Nat → List Nat
  | 0 => [0, 1]
  | 1 => [0, 1, 4]
  | 2 => [3]
  | _ => []
def head67 : Nat → List Nat
  | _ => []
def hint67 : Hint := { keep := keep67, head := head67, box := fun t => [].contains t, prim := none, own := none, dies := fun t => [12].contains t }
def keep68 : Nat → List Nat
  | 0 => [0, 1]
  | 1 => [4]
  | _ => []
def head68 : Nat → List Nat
  | _ => []
def hint68 : Hint := { keep := keep68, head := head68, box := fun t => [].contains t, prim := none, own := none, dies := fun t => [5, 6].contains t }
def keep69 : Nat → List Nat
  | 0 => [1, 2]
  | 1 => [5]
  | 2 => [3]
  | _ => []
def head69 : Nat → List Nat
  | _ => []
def hint69 : Hint := { keep := keep69, head := head69, box := fun t => [2, 4].contains t, prim := none, own := none, dies := fun t => [6, 20].contains t }
def keep70 : Nat → List Nat
  | 0 => [0, 1]
  | 1 => [3]
  | _ => []
def head70 : Nat → List Nat
  | _ => []
def free70 : Nat → List Nat
  | 1 => [0, 1, 2, 3, 4, 5]
  | _ => []
def pairs70 : Nat → List (Nat × Nat)
  | 1 => []
  | _ => []
def hint70 : Hint := { keep := keep70, head := head70, box := fun t => [].contains t, prim := none, own := none, dies := fun t => [7].contains t, free := free70, pairs := pairs70 }
def keep71 : Nat → List Nat
  | 0 => [2, 3]
  | 1 => [4]
  | _ => []
def head71 : Nat → List Nat
  | _ => []
def hint71 : Hint := { keep := keep71, head := head71, box := fun t => [2, 3].contains t, prim := none, own := none, dies := fun t => [11].contains t }
def keep72 : Nat → List Nat
  | 0 => [0, 1]
  | 1 => [0, 1, 4]
  | 2 => [3]
  | _ => []
def head72 : Nat → List Nat
  | _ => []
def hint72 : Hint := { keep := keep72, head := head72, box := fun t => [].contains t, prim := none, own := none, dies := fun t => [12].contains t }
def keep73 : Nat → List Nat
  | 0 => [0, 1]
  | 1 => [4]
  | _ => []
def head73 : Nat → List Nat
  | _ => []
def hint73 : Hint := { keep := keep73, head := head73, box := fun t => [].contains t, prim := none, own := none, dies := fun t => [5, 6].contains t }
def keep74 : Nat → List Nat
  | 0 => [1, 2]
  | 1 => [1, 2, 5]
  | 2 => [3]
  | _ => []
def head74 : Nat → List Nat
  | _ => []
def hint74 : Hint := { keep := keep74, head := head74, box := fun t => [2, 4].contains t, prim := none, own := none, dies := fun t => [6, 20, 21].contains t }
def keep75 : Nat → List Nat
  | 0 => [1, 2]
  | 1 => [3]
  | _ => []
def head75 : Nat → List Nat
  | _ => []
def hint75 : Hint := { keep := keep75, head := head75, box := fun t => [2].contains t, prim := none, own := none, dies := fun t => [].contains t }
def keep76 : Nat → List Nat
  | 0 => [0, 1]
  | 1 => [0, 1, 7, 8]
  | 2 => [0, 1, 7, 8, 9]
  | 3 => [0, 1, 5, 7, 8]
  | 4 => [0, 1, 5, 7, 8, 16]
  | 5 => [4]
  | 6 => [0, 1, 7, 8]
  | 7 => [4]
  | _ => []
def head76 : Nat → List Nat
  | 2 => [0, 1, 7, 8]
  | _ => []
def hint76 : Hint := { keep := keep76, head := head76, box := fun t => [].contains t, prim := none, own := none, dies := fun t => [8, 17].contains t }
def keep77 : Nat → List Nat
  | 0 => [1]
  | 1 => [2]
  | _ => []
def head77 : Nat → List Nat
  | _ => []
def hint77 : Hint := { keep := keep77, head := head77, box := fun t => [1].contains t, prim := none, own := none, dies := fun t => [].contains t }
def keep78 : Nat → List Nat
  | 0 => [0, 1]
  | 1 => [3]
  | _ => []
def head78 : Nat → List Nat
  | _ => []
def hint78 : Hint := { keep := keep78, head := head78, box := fun t => [].contains t, prim := none, own := none, dies := fun t => [6].contains t }
def keep79 : Nat → List Nat
  | 0 => [1]
  | 1 => [1, 3]
  | 2 => [2]
  | 3 => [1, 17]
  | 4 => [2]
  | 5 => [1, 34]
  | 6 => [2]
  | 7 => [1, 45]
  | 8 => [2]
  | 9 => [2]
  | _ => []
def head79 : Nat → List Nat
  | _ => []
def free79 : Nat → List Nat
  | 3 => [5, 6, 7, 8, 9, 10, 11, 12]
  | _ => []
def pairs79 : Nat → List (Nat × Nat)
  | 3 => [(5, 11), (6, 11), (7, 11), (8, 11)]
  | _ => []
def hint79 : Hint := { keep := keep79, head := head79, box := fun t => [1].contains t, prim := none, own := none, dies := fun t => [8, 22, 39, 50, 59].contains t, free := free79, pairs := pairs79 }
def keep80 : Nat → List Nat
  | 0 => [0, 1]
  | 1 => [0, 1, 4]
  | 2 => [3]
  | _ => []
def head80 : Nat → List Nat
  | _ => []
def hint80 : Hint := { keep := keep80, head := head80, box := fun t => [].contains t, prim := none, own := none, dies := fun t => [12, 15].contains t }
def keep81 : Nat → List Nat
  | 0 => [0, 1]
  | 1 => [4]
  | _ => []
def head81 : Nat → List Nat
  | _ => []
def hint81 : Hint := { keep := keep81, head := head81, box := fun t => [].contains t, prim := none, own := none, dies := fun t => [5, 6].contains t }
def keep82 : Nat → List Nat
  | 0 => [1, 2]
  | 1 => [3]
  | _ => []
def head82 : Nat → List Nat
  | _ => []
def hint82 : Hint := { keep := keep82, head := head82, box := fun t => [2].contains t, prim := none, own := none, dies := fun t => [6].contains t }
def keep83 : Nat → List Nat
  | 0 => [2, 3]
  | 1 => [2, 3, 6]
  | 2 => [2, 3, 6, 8]
  | 3 => [4]
  | _ => []
def head83 : Nat → List Nat
  | _ => []
def free83 : Nat → List Nat
  | 1 => [0, 1, 2, 3, 4, 5, 6, 7, 8, 9, 10, 11, 12, 13, 14, 15]
  | 2 => [0, 1, 2, 3, 4, 5, 6, 7, 8, 9, 10, 11, 12, 13, 14, 15]
  | _ => []
def pairs83 : Nat → List (Nat × Nat)
  | 1 => [(4, 5), (4, 6), (4, 7), (4, 8), (4, 14), (9, 14), (10, 14), (13, 15)]
  | 2 => [(4, 5), (4, 6), (4, 7), (4, 8), (4, 14), (9, 14), (10, 14), (13, 15)]
  | _ => []
def hint83 : Hint := { keep := keep83, head := head83, box := fun t => [2, 3, 5, 7].contains t, prim := none, own := none, dies := fun t => [9, 23, 42, 49, 50, 52, 53].contains t, free := free83, pairs := pairs83 }
def keep84 : Nat → List Nat
  | 0 => [0, 1]
  | 1 => [0, 1, 7, 8]
  | 2 => [0, 1, 7, 8, 9]
  | 3 => [0, 1, 5, 7, 8]
  | 4 => [0, 1, 5, 7, 8, 16]
  | 5 => [4]
  | 6 => [0, 1, 7, 8]
  | 7 => [4]
  | _ => []
def head84 : Nat → List Nat
  | 2 => [0, 1, 7, 8]
  | _ => []
def hint84 : Hint := { keep := keep84, head := head84, box := fun t => [].contains t, prim := none, own := none, dies := fun t => [8, 17].contains t }
def keep85 : Nat → List Nat
  | 0 => [0, 1]
  | 1 => [0, 1, 7, 8]
  | 2 => [0, 1, 7, 8, 9]
  | 3 => [0, 1, 5, 7, 8]
  | 4 => [0, 1, 5, 7, 8, 16]
  | 5 => [4]
  | 6 => [0, 1, 7, 8]
  | 7 => [4]
  | _ => []
def head85 : Nat → List Nat
  | 2 => [0, 1, 7, 8]
  | _ => []
def hint85 : Hint := { keep := keep85, head := head85, box := fun t => [].contains t, prim := none, own := none, dies := fun t => [8, 17].contains t }
def keep86 : Nat → List Nat
  | 0 => [0, 1, 4]
  | 1 => [4]
  | _ => []
def head86 : Nat → List Nat
  | _ => []
def hint86 : Hint := { keep := keep86, head := head86, box := fun t => [4].contains t, prim := none, own := none, dies := fun t => [6, 7].contains t }
def hints : FuncId → Hint
  | 2 => hint2
  | 3 => hint3
  | 4 => hint4
  | 5 => hint5
  | 6 => hint6
  | 7 => hint7
  | 8 => hint8
  | 9 => hint9
  | 10 => hint10
  | 11 => hint11
  | 12 => hint12
  | 13 => hint13
  | 14 => hint14
  | 15 => hint15
  | 16 => hint16
  | 17 => hint17
  | 18 => hint18
  | 19 => hint19
  | 20 => hint20
  | 21 => hint21
  | 22 => hint22
  | 23 => hint23
  | 24 => hint24
  | 25 => hint25
  | 26 => hint26
  | 27 => hint27
  | 28 => hint28
  | 29 => hint29
  | 30 => hint30
  | 31 => hint31
  | 32 => hint32
  | 33 => hint33
  | 34 => hint34
  | 35 => hint35
  | 36 => hint36
  | 37 => hint37
  | 38 => hint38
  | 39 => hint39
  | 40 => hint40
  | 41 => hint41
  | 42 => hint42
  | 43 => hint43
  | 44 => hint44
  | 45 => hint45
  | 46 => hint46
  | 47 => hint47
  | 48 => hint48
  | 49 => hint49
  | 50 => hint50
  | 51 => hint51
  | 52 => hint52
  | 53 => hint53
  | 54 => hint54
  | 55 => hint55
  | 56 => hint56
  | 57 => hint57
  | 58 => hint58
  | 59 => hint59
  | 60 => hint60
  | 61 => hint61
  | 62 => hint62
  | 63 => hint63
  | 64 => hint64
  | 65 => hint65
  | 66 => hint66
  | 67 => hint67
  | 68 => hint68
  | 69 => hint69
  | 70 => hint70
  | 71 => hint71
  | 72 => hint72
  | 73 => hint73
  | 74 => hint74
  | 75 => hint75
  | 76 => hint76
  | 77 => hint77
  | 78 => hint78
  | 79 => hint79
  | 80 => hint80
  | 81 => hint81
  | 82 => hint82
  | 83 => hint83
  | 84 => hint84
  | 85 => hint85
  | 86 => hint86
  | _ => { keep := fun _ => [], head := fun _ => [], box := fun _ => false }

end Go.PS
namespace Go.Proofs.Ytolhandckojljaa
open Go.PS
theorem tabsC : (List.range Try.prog.types.size).all (tabT Try.prog) = true := by kernel_rfl
theorem tabs : Tabs Try.prog := tabs_of tabsC
theorem mixedC : Try.prog.follows .mixedOrders = true := by kernel_rfl
theorem wfC : (List.range Try.prog.funcs.size).all (wfF Try.prog hints) = true := by kernel_rfl
theorem wf : WF Try.prog hints := wf_of (fun f h => List.all_eq_true.1 wfC f (List.mem_range.2 h)) mixedC
end Go.Proofs.Ytolhandckojljaa
