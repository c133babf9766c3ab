/-
  Hints for the evaluator, one for each function of this program: tables. No condition.
-/
import Derived.Test.YtaiiboplopljoaaGreatRows
import Derived.Test.YtaiiboplopljoaaGreatPsD

set_option linter.all false
section
/-
  The hints of the evaluator for this program, and that the program is as the evaluator wants it.
-/

namespace Go.PS
def keep2 : Nat → List Nat
  | 0 => []
  | _ => []
def head2 : Nat → List Nat
  | _ => []
def hint2 : Hint := { keep := keep2, head := head2, box := fun t => [].contains t, prim := none, own := none, dies := fun t => [].contains t }
def keep3 : Nat → List Nat
  | 0 => [0, 1, 2, 3, 4]
  | 1 => [0, 1, 2, 3, 4, 27]
  | 2 => [10]
  | 3 => [0, 1, 2, 3, 4, 11, 12]
  | 4 => [1, 2, 3, 4, 11, 12, 13, 14]
  | 5 => [1, 2, 3, 4, 11, 12, 13, 14, 15]
  | 6 => [1, 2, 3, 4, 11, 12, 13, 14, 15, 42]
  | 7 => [1, 2, 3, 4, 11, 12, 13, 14, 15]
  | 8 => [1, 2, 3, 4, 11, 12, 13, 14, 15, 16]
  | 9 => [1, 2, 3, 4, 11, 12, 13, 14, 15, 16, 50]
  | 10 => [1, 2, 3, 4, 11, 12, 13, 14, 16]
  | 11 => [1, 2, 3, 4, 11, 12, 13, 14, 16, 17]
  | 12 => [1, 2, 3, 4, 11, 12, 13, 14, 16, 17, 18]
  | 13 => [1, 2, 3, 4, 11, 12, 13, 14, 16, 17, 18, 19]
  | 14 => [1, 2, 3, 4, 11, 12, 13, 14, 16, 17, 18, 19, 64]
  | 15 => [1, 2, 3, 4, 11, 12, 13, 14, 16, 17, 18, 19]
  | 16 => [1, 2, 3, 4, 11, 12, 13, 14, 16, 17, 18, 19, 84]
  | 17 => [1, 2, 3, 4, 11, 12, 13, 14, 16, 17, 18, 19]
  | 18 => [3, 4, 11, 12, 13, 14, 16, 18, 111]
  | 19 => [10]
  | 20 => [10]
  | _ => []
def head3 : Nat → List Nat
  | 14 => [1, 2, 3, 4, 11, 12, 13, 14, 16, 17, 18, 19]
  | _ => []
def free3 : Nat → List Nat
  | 18 => [15, 16, 17, 18, 19, 20]
  | _ => []
def pairs3 : Nat → List (Nat × Nat)
  | 18 => [(15, 20), (16, 20), (17, 20)]
  | _ => []
def hint3 : Hint := { keep := keep3, head := head3, box := fun t => [13, 15].contains t, prim := none, own := none, dies := fun t => [23, 29, 35, 36, 43, 51, 65, 75, 89, 94, 97, 101, 102, 105, 106, 113, 114, 115, 118, 119, 120, 123, 125, 126, 128].contains t, free := free3, pairs := pairs3 }
def keep4 : Nat → List Nat
  | 0 => []
  | 1 => [1]
  | 2 => [1, 2]
  | 3 => [2, 3]
  | 4 => [2, 3, 4, 5]
  | 5 => [0]
  | _ => []
def head4 : Nat → List Nat
  | _ => []
def free4 : Nat → List Nat
  | 5 => [9, 10, 11, 12, 13, 23, 24, 25, 26, 27]
  | _ => []
def pairs4 : Nat → List (Nat × Nat)
  | 5 => []
  | _ => []
def hint4 : Hint := { keep := keep4, head := head4, box := fun t => [1, 2, 3, 4].contains t, prim := none, own := none, dies := fun t => [19, 24, 26, 32, 40, 46, 54].contains t, free := free4, pairs := pairs4 }
def keep5 : Nat → List Nat
  | 0 => [0, 1]
  | 1 => [1, 6, 8]
  | 2 => [1, 6, 8, 17]
  | 3 => [4, 5]
  | 4 => [8, 9]
  | 5 => [8, 9, 26]
  | 6 => [4, 5]
  | 7 => [4, 5]
  | _ => []
def head5 : Nat → List Nat
  | _ => []
def hint5 : Hint := { keep := keep5, head := head5, box := fun t => [6, 9].contains t, prim := none, own := none, dies := fun t => [10, 11, 18, 19, 21, 27].contains t }
def keep6 : Nat → List Nat
  | 0 => [0, 2]
  | 1 => [0, 2, 12]
  | 2 => [2, 3]
  | 3 => [0, 2, 4]
  | 4 => [2, 4, 22]
  | 5 => [2, 3]
  | 6 => [2, 4, 31]
  | 7 => [2, 3]
  | 8 => [2, 4, 35]
  | 9 => [2, 3]
  | 10 => [2, 4, 5]
  | 11 => [2, 4, 5, 6]
  | 12 => [2, 4, 5, 6, 7]
  | 13 => [2, 4, 5, 6, 7, 43]
  | 14 => [2, 4, 5, 6, 7]
  | 15 => [2, 4, 5, 6, 7, 50]
  | 16 => [2, 3]
  | 17 => [2, 4, 5, 6, 7]
  | 18 => [2, 4, 5, 6, 7]
  | 19 => [2, 4, 5, 6, 75]
  | 20 => [2, 3]
  | 21 => [2, 4, 5, 6]
  | 22 => [2, 4, 5, 6, 8]
  | 23 => [2, 4, 5, 6, 8, 84]
  | 24 => [2, 4, 5, 6, 8]
  | 25 => [2, 4, 5, 6, 8, 91]
  | 26 => [2, 3]
  | 27 => [2, 4, 5, 6, 8]
  | 28 => [2, 4, 5, 6, 8]
  | 29 => [2, 4, 5, 6, 116]
  | 30 => [2, 3]
  | 31 => [2, 4, 5, 6]
  | 32 => [2, 4, 5, 6, 9]
  | 33 => [2, 4, 5, 6, 9, 125]
  | 34 => [2, 4, 5, 6, 9]
  | 35 => [2, 4, 5, 6, 9, 132]
  | 36 => [2, 3]
  | 37 => [2, 4, 5, 6, 9]
  | 38 => [2, 4, 5, 6, 9]
  | 39 => [2, 5, 184]
  | 40 => [2, 3]
  | 41 => [2, 3]
  | _ => []
def head6 : Nat → List Nat
  | 13 => [2, 4, 5, 6, 7]
  | 23 => [2, 4, 5, 6, 8]
  | 33 => [2, 4, 5, 6, 9]
  | _ => []
def free6 : Nat → List Nat
  | 17 => [0, 1, 2, 3, 4, 5, 6, 7, 8, 9, 10, 11, 12, 13, 14]
  | 27 => [0, 1, 2, 3, 4, 5, 6, 7, 8, 9, 10, 11, 12, 13, 14]
  | 37 => [0, 1, 2, 3, 4, 5, 6, 7, 8, 9, 10, 11, 12, 13, 14, 15, 16, 17, 18, 19, 20, 21, 22, 23, 24, 25, 26, 27, 28, 29, 30, 31, 32, 33, 34, 35, 36, 37, 38, 39, 40, 41, 42]
  | _ => []
def pairs6 : Nat → List (Nat × Nat)
  | 17 => [(0, 4), (1, 4), (4, 5), (4, 6), (4, 7), (0, 8), (1, 8), (4, 9), (8, 9), (4, 10), (8, 10), (4, 11), (8, 11), (0, 12), (1, 12), (0, 14), (1, 14)]
  | 27 => [(0, 4), (1, 4), (4, 5), (4, 6), (4, 7), (0, 8), (1, 8), (4, 9), (8, 9), (4, 10), (8, 10), (4, 11), (8, 11), (0, 12), (1, 12), (0, 14), (1, 14)]
  | 37 => [(0, 4), (1, 4), (4, 5), (4, 6), (4, 7), (0, 8), (1, 8), (4, 9), (8, 9), (4, 10), (8, 10), (4, 11), (8, 11), (0, 12), (1, 12), (4, 13), (8, 13), (12, 13), (4, 14), (8, 14), (12, 14), (4, 15), (8, 15), (12, 15), (0, 16), (1, 16), (4, 17), (8, 17), (12, 17), (16, 17), (4, 18), (8, 18), (12, 18), (16, 18), (4, 19), (8, 19), (12, 19), (16, 19), (0, 20), (1, 20), (4, 21), (8, 21), (12, 21), (16, 21), (20, 21), (4, 22), (8, 22), (12, 22), (16, 22), (20, 22), (4, 23), (8, 23), (12, 23), (16, 23), (20, 23), (0, 24), (1, 24), (4, 25), (8, 25), (12, 25), (16, 25), (20, 25), (24, 25), (4, 26), (8, 26), (12, 26), (16, 26), (20, 26), (24, 26), (4, 27), (8, 27), (12, 27), (16, 27), (20, 27), (24, 27), (0, 28), (1, 28), (4, 29), (8, 29), (12, 29), (16, 29), (20, 29), (24, 29), (28, 29), (4, 30), (8, 30), (12, 30), (16, 30), (20, 30), (24, 30), (28, 30), (4, 31), (8, 31), (12, 31), (16, 31), (20, 31), (24, 31), (28, 31), (0, 32), (1, 32), (4, 33), (8, 33), (12, 33), (16, 33), (20, 33), (24, 33), (28, 33), (32, 33), (4, 34), (8, 34), (12, 34), (16, 34), (20, 34), (24, 34), (28, 34), (32, 34), (4, 35), (8, 35), (12, 35), (16, 35), (20, 35), (24, 35), (28, 35), (32, 35), (0, 36), (1, 36), (4, 37), (8, 37), (12, 37), (16, 37), (20, 37), (24, 37), (28, 37), (32, 37), (36, 37), (4, 38), (8, 38), (12, 38), (16, 38), (20, 38), (24, 38), (28, 38), (32, 38), (36, 38), (4, 39), (8, 39), (12, 39), (16, 39), (20, 39), (24, 39), (28, 39), (32, 39), (36, 39), (0, 40), (1, 40), (0, 42), (1, 42)]
  | _ => []
def hint6 : Hint := { keep := keep6, head := head6, box := fun t => [2, 5].contains t, prim := none, own := none, dies := fun t => [21, 27, 44, 69, 77, 85, 110, 118, 126, 179, 181, 182].contains t, free := free6, pairs := pairs6 }
def keep7 : Nat → List Nat
  | 0 => [1, 2, 4]
  | 1 => [1, 2, 4, 13]
  | 2 => [4, 5]
  | 3 => [1, 2, 4, 23]
  | 4 => [4, 5]
  | 5 => [1, 2, 4, 6]
  | 6 => [1, 2, 4, 6, 7]
  | 7 => [1, 2, 4, 6, 7, 8]
  | 8 => [1, 2, 4, 8]
  | 9 => [1, 2, 4, 8, 9]
  | 10 => [1, 2, 4, 8, 9, 52]
  | 11 => [1, 2, 4, 8, 9]
  | 12 => [1, 2, 4, 8, 9, 62]
  | 13 => [1, 2, 4, 8, 9]
  | 14 => [4, 8]
  | 15 => [4, 5]
  | _ => []
def head7 : Nat → List Nat
  | 10 => [1, 2, 4, 8, 9]
  | _ => []
def free7 : Nat → List Nat
  | 13 => [0, 1, 2, 3, 4, 5, 6, 7, 8, 9, 10, 11, 12, 13, 14, 15]
  | 14 => [0, 1, 2, 3, 4, 5, 6, 7, 8]
  | _ => []
def pairs7 : Nat → List (Nat × Nat)
  | 13 => [(0, 15), (1, 15)]
  | 14 => [(0, 8), (1, 8)]
  | _ => []
def hint7 : Hint := { keep := keep7, head := head7, box := fun t => [2, 4, 7, 8].contains t, prim := none, own := none, dies := fun t => [17, 37, 53, 85].contains t, free := free7, pairs := pairs7 }
def keep8 : Nat → List Nat
  | 0 => [1]
  | 1 => [1, 24]
  | 2 => [2, 3]
  | 3 => [4]
  | 4 => [4, 5]
  | 5 => [4, 5, 6]
  | 6 => [4, 5, 6, 30]
  | 7 => [4, 5, 6]
  | 8 => [4, 5, 6, 7]
  | 9 => [4, 5, 6, 7, 55]
  | 10 => [2, 3]
  | 11 => [4, 5, 6, 8]
  | 12 => [4, 5, 6]
  | 13 => [2, 3]
  | _ => []
def head8 : Nat → List Nat
  | 6 => [4, 5, 6]
  | _ => []
def hint8 : Hint := { keep := keep8, head := head8, box := fun t => [1].contains t, prim := none, own := none, dies := fun t => [13, 19, 31, 40, 47, 52, 56, 58, 59, 67].contains t }
def keep9 : Nat → List Nat
  | 0 => [0, 1]
  | 1 => [0, 1, 6]
  | 2 => [4]
  | 3 => [0, 1, 10]
  | 4 => [4]
  | 5 => [4]
  | _ => []
def head9 : Nat → List Nat
  | _ => []
def hint9 : Hint := { keep := keep9, head := head9, box := fun t => [].contains t, prim := none, own := none, dies := fun t => [12, 13].contains t }
def keep10 : Nat → List Nat
  | 0 => [0, 1]
  | 1 => [0, 1, 12]
  | 2 => [4]
  | 3 => [4]
  | _ => []
def head10 : Nat → List Nat
  | _ => []
def hint10 : Hint := { keep := keep10, head := head10, box := fun t => [].contains t, prim := none, own := none, dies := fun t => [7, 13, 14].contains t }
def keep11 : Nat → List Nat
  | 0 => [3, 4, 5]
  | 1 => [6]
  | _ => []
def head11 : Nat → List Nat
  | _ => []
def hint11 : Hint := { keep := keep11, head := head11, box := fun t => [3].contains t, prim := none, own := none, dies := fun t => [].contains t }
def keep12 : Nat → List Nat
  | 0 => [1, 2, 4]
  | 1 => [1, 2, 4, 16]
  | 2 => [4, 5]
  | 3 => [1, 2, 4, 6, 7]
  | 4 => [1, 2, 4, 6, 7, 24]
  | 5 => [4, 5]
  | 6 => [1, 2, 4, 6, 7, 8]
  | 7 => [1, 2, 4, 6, 7, 8, 34]
  | 8 => [4, 5]
  | 9 => [1, 2, 4, 8, 9, 10]
  | 10 => [1, 2, 4, 11]
  | 11 => [1, 4, 11, 59, 60, 61]
  | 12 => [1, 4, 11, 59, 60, 61, 62]
  | 13 => [1, 4, 11, 13, 59, 60, 61]
  | 14 => [1, 4, 11, 13, 59, 60, 61, 68]
  | 15 => [1, 4, 11, 13, 59, 60, 61]
  | 16 => [1, 4, 11, 59, 60, 61]
  | 17 => [1, 4, 11, 59, 60, 61]
  | 18 => [4, 5]
  | _ => []
def head12 : Nat → List Nat
  | 12 => [1, 4, 11, 59, 60, 61]
  | _ => []
def hint12 : Hint := { keep := keep12, head := head12, box := fun t => [2, 4, 8, 10, 11, 13].contains t, prim := none, own := none, dies := fun t => [18, 26, 27, 36, 40, 46, 61].contains t }
def keep13 : Nat → List Nat
  | 0 => [0, 2]
  | 1 => [2, 5, 6]
  | 2 => [2, 5, 6, 14]
  | 3 => [2, 3, 4]
  | 4 => [2, 5, 7]
  | 5 => [2, 5, 7, 21]
  | 6 => [2, 3, 4]
  | 7 => [2, 3, 4]
  | _ => []
def head13 : Nat → List Nat
  | _ => []
def hint13 : Hint := { keep := keep13, head := head13, box := fun t => [2, 5].contains t, prim := none, own := none, dies := fun t => [8, 9, 16, 23].contains t }
def keep14 : Nat → List Nat
  | 0 => [1]
  | 1 => [1, 22]
  | 2 => [2, 3]
  | 3 => [1, 4]
  | 4 => [1, 4]
  | 5 => [1, 4]
  | 6 => [1, 4]
  | 7 => [1, 4]
  | 8 => [1, 4, 39, 40, 41]
  | 9 => [1, 4, 39, 40, 41, 42]
  | 10 => [1, 4, 6, 39, 40, 41]
  | 11 => [1, 4, 39, 40, 41]
  | 12 => [1, 4, 39, 40, 41]
  | 13 => [1, 4]
  | 14 => [1, 4, 60, 61, 62]
  | 15 => [1, 4, 60, 61, 62, 63]
  | 16 => [1, 4, 8, 60, 61, 62]
  | 17 => [1, 4, 60, 61, 62]
  | 18 => [1, 4, 60, 61, 62]
  | 19 => [1, 4]
  | 20 => [4, 81, 82, 83]
  | 21 => [4, 81, 82, 83, 84]
  | 22 => [4, 10, 81, 82, 83]
  | 23 => [4, 81, 82, 83]
  | 24 => [4, 81, 82, 83]
  | 25 => [4, 11]
  | 26 => [4, 11, 94]
  | 27 => [2, 3]
  | 28 => [2, 3]
  | _ => []
def head14 : Nat → List Nat
  | 9 => [1, 4, 39, 40, 41]
  | 15 => [1, 4, 60, 61, 62]
  | 21 => [4, 81, 82, 83]
  | _ => []
def hint14 : Hint := { keep := keep14, head := head14, box := fun t => [1, 6, 8, 10].contains t, prim := none, own := none, dies := fun t => [41, 62, 83, 95, 96].contains t }
def keep15 : Nat → List Nat
  | 0 => [0]
  | 1 => [0, 3]
  | 2 => [2]
  | _ => []
def head15 : Nat → List Nat
  | _ => []
def hint15 : Hint := { keep := keep15, head := head15, box := fun t => [].contains t, prim := none, own := none, dies := fun t => [6, 10].contains t }
def keep16 : Nat → List Nat
  | 0 => [0, 1, 2]
  | 1 => [0, 1, 2, 13]
  | 2 => [6]
  | 3 => [0, 1, 2, 7]
  | 4 => [0, 1, 7, 19]
  | 5 => [7]
  | 6 => [6]
  | _ => []
def head16 : Nat → List Nat
  | _ => []
def hint16 : Hint := { keep := keep16, head := head16, box := fun t => [].contains t, prim := none, own := none, dies := fun t => [18, 20, 21, 22, 28].contains t }
def keep17 : Nat → List Nat
  | 0 => [1]
  | 1 => [1, 8]
  | 2 => [2]
  | 3 => [1, 3]
  | 4 => [1, 3, 4]
  | 5 => [1, 3, 4, 13]
  | 6 => [1, 3, 4]
  | 7 => [1, 3, 4, 5]
  | 8 => [1, 3, 4, 5, 17]
  | 9 => [1, 3, 4, 5]
  | 10 => [1, 3, 4, 5, 23]
  | 11 => [1, 3, 4, 5]
  | 12 => [2]
  | _ => []
def head17 : Nat → List Nat
  | 5 => [1, 3, 4]
  | 8 => [1, 3, 4, 5]
  | _ => []
def hint17 : Hint := { keep := keep17, head := head17, box := fun t => [1].contains t, prim := none, own := none, dies := fun t => [14, 18, 24, 30].contains t }
def keep18 : Nat → List Nat
  | 0 => [1, 2, 3]
  | 1 => [6]
  | _ => []
def head18 : Nat → List Nat
  | _ => []
def hint18 : Hint := { keep := keep18, head := head18, box := fun t => [3].contains t, prim := none, own := none, dies := fun t => [10, 14].contains t }
def keep19 : Nat → List Nat
  | 0 => [1, 2, 4]
  | 1 => [1, 2, 4, 5]
  | 2 => [1, 2, 4, 5, 10]
  | 3 => [1, 2, 4, 5]
  | 4 => [1, 2, 4, 5, 20]
  | 5 => [4]
  | 6 => [4]
  | _ => []
def head19 : Nat → List Nat
  | 2 => [1, 2, 4, 5]
  | _ => []
def free19 : Nat → List Nat
  | 5 => [0, 1, 2, 3, 4, 5, 6, 7, 8, 9, 10, 11]
  | _ => []
def pairs19 : Nat → List (Nat × Nat)
  | 5 => []
  | _ => []
def hint19 : Hint := { keep := keep19, head := head19, box := fun t => [2, 4].contains t, prim := none, own := none, dies := fun t => [11, 29].contains t, free := free19, pairs := pairs19 }
def keep20 : Nat → List Nat
  | 0 => [1]
  | 1 => [1, 3]
  | 2 => [1, 3, 4]
  | 3 => [1, 3, 4, 22]
  | 4 => [1, 3, 4]
  | 5 => [1, 3, 4]
  | 6 => [1, 3]
  | 7 => [1, 3, 5]
  | 8 => [1, 3, 5, 57]
  | 9 => [1, 3, 5]
  | 10 => [1, 3, 5]
  | 11 => [1, 3]
  | 12 => [1, 3, 6]
  | 13 => [1, 3, 6, 92]
  | 14 => [1, 3, 6]
  | 15 => [1, 3, 6, 7]
  | 16 => [1, 3, 6]
  | 17 => [2]
  | _ => []
def head20 : Nat → List Nat
  | 3 => [1, 3, 4]
  | 8 => [1, 3, 5]
  | 13 => [1, 3, 6]
  | _ => []
def free20 : Nat → List Nat
  | 5 => [0, 1, 2, 3, 4, 5, 6, 7, 8, 9, 10, 11, 12, 13, 14, 15, 16, 17, 18, 19]
  | 10 => [0, 1, 2, 3, 4, 5, 6, 7, 8, 9, 10, 11, 12, 13, 14, 15, 16, 17, 18, 19]
  | _ => []
def pairs20 : Nat → List (Nat × Nat)
  | 5 => [(0, 19)]
  | 10 => [(0, 19)]
  | _ => []
def hint20 : Hint := { keep := keep20, head := head20, box := fun t => [1, 7].contains t, prim := none, own := none, dies := fun t => [23, 25, 46, 58, 60, 81, 93, 100, 133].contains t, free := free20, pairs := pairs20 }
def keep21 : Nat → List Nat
  | 0 => [0]
  | 1 => [2]
  | _ => []
def head21 : Nat → List Nat
  | _ => []
def hint21 : Hint := { keep := keep21, head := head21, box := fun t => [].contains t, prim := none, own := none, dies := fun t => [6].contains t }
def keep22 : Nat → List Nat
  | 0 => [0, 1]
  | 1 => [0, 1, 7, 8]
  | 2 => [0, 1, 7, 8, 9]
  | 3 => [0, 1, 5, 7, 8]
  | 4 => [0, 1, 5, 7, 8, 16]
  | 5 => [4]
  | 6 => [0, 1, 7, 8]
  | 7 => [4]
  | _ => []
def head22 : Nat → List Nat
  | 2 => [0, 1, 7, 8]
  | _ => []
def hint22 : Hint := { keep := keep22, head := head22, box := fun t => [].contains t, prim := none, own := none, dies := fun t => [8, 17].contains t }
def keep23 : Nat → List Nat
  | 0 => [1, 2, 3]
  | 1 => [4]
  | _ => []
def head23 : Nat → List Nat
  | _ => []
def hint23 : Hint := { keep := keep23, head := head23, box := fun t => [3].contains t, prim := none, own := none, dies := fun t => [9].contains t }
def keep24 : Nat → List Nat
  | 0 => [1]
  | 1 => [2]
  | _ => []
def head24 : Nat → List Nat
  | _ => []
def hint24 : Hint := { keep := keep24, head := head24, box := fun t => [1].contains t, prim := none, own := none, dies := fun t => [].contains t }
def keep25 : Nat → List Nat
  | 0 => [1]
  | 1 => [1, 10]
  | 2 => [2, 3]
  | 3 => [1, 4]
  | 4 => [1, 4]
  | 5 => [1, 4, 29, 30, 31]
  | 6 => [1, 4, 29, 30, 31, 32]
  | 7 => [1, 4, 6, 29, 30, 31]
  | 8 => [1, 4, 29, 30, 31]
  | 9 => [1, 4, 29, 30, 31]
  | 10 => [1, 4]
  | 11 => [1, 4, 7]
  | 12 => [1, 4, 7, 59]
  | 13 => [2, 3]
  | 14 => [4, 7]
  | 15 => [4, 7, 71]
  | 16 => [2, 3]
  | 17 => [2, 3]
  | _ => []
def head25 : Nat → List Nat
  | 6 => [1, 4, 29, 30, 31]
  | _ => []
def free25 : Nat → List Nat
  | 4 => [0, 1, 2, 3, 4, 5, 6, 7, 8]
  | 8 => [0, 1, 2, 3, 4, 5, 6, 7, 8, 9]
  | _ => []
def pairs25 : Nat → List (Nat × Nat)
  | 4 => [(0, 8)]
  | 8 => []
  | _ => []
def hint25 : Hint := { keep := keep25, head := head25, box := fun t => [1, 6].contains t, prim := none, own := none, dies := fun t => [31, 47, 60, 61, 72, 73].contains t, free := free25, pairs := pairs25 }
def keep26 : Nat → List Nat
  | 0 => [0, 1, 4]
  | 1 => [0, 1, 4, 13]
  | 2 => [4, 5]
  | 3 => [4, 5]
  | _ => []
def head26 : Nat → List Nat
  | _ => []
def hint26 : Hint := { keep := keep26, head := head26, box := fun t => [4].contains t, prim := none, own := none, dies := fun t => [8, 15, 20].contains t }
def keep27 : Nat → List Nat
  | 0 => [0, 1, 2]
  | 1 => [0, 1, 2, 23]
  | 2 => [6]
  | 3 => [1, 7]
  | 4 => [7, 35]
  | 5 => [7]
  | 6 => [6]
  | _ => []
def head27 : Nat → List Nat
  | _ => []
def hint27 : Hint := { keep := keep27, head := head27, box := fun t => [].contains t, prim := none, own := none, dies := fun t => [10, 16, 19, 24, 30, 34, 36, 38].contains t }
def keep28 : Nat → List Nat
  | 0 => [0, 1, 4]
  | 1 => [0, 1, 4, 16]
  | 2 => [4]
  | 3 => [4]
  | _ => []
def head28 : Nat → List Nat
  | _ => []
def hint28 : Hint := { keep := keep28, head := head28, box := fun t => [4].contains t, prim := none, own := none, dies := fun t => [7, 11, 18, 19].contains t }
def keep29 : Nat → List Nat
  | 0 => [0, 2]
  | 1 => [2, 4, 5]
  | 2 => [2, 4, 5, 15]
  | 3 => [2, 3]
  | 4 => [2, 6]
  | 5 => [2, 6, 7]
  | 6 => [2, 6, 30]
  | 7 => [2, 3]
  | 8 => [2, 6, 8]
  | 9 => [2, 6, 8, 34]
  | 10 => [2, 3]
  | 11 => [2, 8, 41]
  | 12 => [2, 3]
  | 13 => [2, 3]
  | _ => []
def head29 : Nat → List Nat
  | _ => []
def hint29 : Hint := { keep := keep29, head := head29, box := fun t => [2, 8].contains t, prim := none, own := none, dies := fun t => [9, 10, 17, 18, 25, 26, 39, 42].contains t }
def keep30 : Nat → List Nat
  | 0 => [1]
  | 1 => [1, 6]
  | 2 => [2]
  | 3 => [1, 3]
  | 4 => [2]
  | _ => []
def head30 : Nat → List Nat
  | _ => []
def free30 : Nat → List Nat
  | 3 => [0, 1, 2, 3, 4]
  | _ => []
def pairs30 : Nat → List (Nat × Nat)
  | 3 => [(1, 2), (1, 4), (3, 4)]
  | _ => []
def hint30 : Hint := { keep := keep30, head := head30, box := fun t => [].contains t, prim := none, own := none, dies := fun t => [15].contains t, free := free30, pairs := pairs30 }
def keep31 : Nat → List Nat
  | 0 => []
  | _ => []
def head31 : Nat → List Nat
  | _ => []
def hint31 : Hint := { keep := keep31, head := head31, box := fun t => [].contains t, prim := none, own := none, dies := fun t => [4, 7, 11].contains t }
def keep32 : Nat → List Nat
  | 0 => []
  | _ => []
def head32 : Nat → List Nat
  | _ => []
def hint32 : Hint := { keep := keep32, head := head32, box := fun t => [].contains t, prim := none, own := none, dies := fun t => [4, 7, 13].contains t }
def keep33 : Nat → List Nat
  | 0 => [0, 2, 3]
  | 1 => [0, 3]
  | 2 => []
  | _ => []
def head33 : Nat → List Nat
  | _ => []
def hint33 : Hint := { keep := keep33, head := head33, box := fun t => [].contains t, prim := none, own := none, dies := fun t => [9, 12, 14, 15].contains t }
def keep34 : Nat → List Nat
  | 0 => [0, 3]
  | 1 => [0, 3]
  | 2 => [0, 3]
  | 3 => [0, 3]
  | 4 => [0, 3]
  | 5 => [0, 3]
  | 6 => [0, 3]
  | 7 => [0, 3]
  | 8 => [0, 3]
  | 9 => [0, 3]
  | 10 => []
  | _ => []
def head34 : Nat → List Nat
  | _ => []
def hint34 : Hint := { keep := keep34, head := head34, box := fun t => [3].contains t, prim := none, own := none, dies := fun t => [40].contains t }
def keep35 : Nat → List Nat
  | 0 => [0]
  | 1 => [0, 4]
  | 2 => [2]
  | 3 => [2]
  | _ => []
def head35 : Nat → List Nat
  | _ => []
def hint35 : Hint := { keep := keep35, head := head35, box := fun t => [].contains t, prim := none, own := none, dies := fun t => [5].contains t }
def keep36 : Nat → List Nat
  | 0 => [0]
  | 1 => [0, 3]
  | 2 => [2]
  | _ => []
def head36 : Nat → List Nat
  | _ => []
def hint36 : Hint := { keep := keep36, head := head36, box := fun t => [].contains t, prim := none, own := none, dies := fun t => [6, 10].contains t }
def keep37 : Nat → List Nat
  | 0 => [0]
  | 1 => [0, 12]
  | 2 => [2]
  | 3 => [2]
  | _ => []
def head37 : Nat → List Nat
  | _ => []
def hint37 : Hint := { keep := keep37, head := head37, box := fun t => [].contains t, prim := none, own := none, dies := fun t => [5, 13].contains t }
def keep38 : Nat → List Nat
  | 0 => [0]
  | 1 => [2]
  | _ => []
def head38 : Nat → List Nat
  | _ => []
def hint38 : Hint := { keep := keep38, head := head38, box := fun t => [].contains t, prim := none, own := none, dies := fun t => [3].contains t }
def keep39 : Nat → List Nat
  | 0 => [1]
  | 1 => [2]
  | _ => []
def head39 : Nat → List Nat
  | _ => []
def hint39 : Hint := { keep := keep39, head := head39, box := fun t => [1].contains t, prim := none, own := none, dies := fun t => [6, 11, 17, 23, 29].contains t }
def keep40 : Nat → List Nat
  | 0 => [1, 2, 3]
  | 1 => [1, 2, 3, 7]
  | 2 => [2, 3, 7, 21]
  | 3 => [2, 3, 7, 21, 22]
  | 4 => [6]
  | 5 => [2, 3, 7, 21, 41]
  | 6 => [3, 7, 8]
  | 7 => [3, 7, 8, 52]
  | 8 => [3, 7, 8]
  | 9 => [3, 7, 8, 9, 10]
  | 10 => [3, 7, 8, 108]
  | 11 => [6]
  | 12 => [6]
  | 13 => [2, 3, 7, 21, 109]
  | 14 => [6]
  | 15 => [2, 3, 7, 21, 129]
  | 16 => [3, 7, 11]
  | 17 => [3, 7, 11, 140]
  | 18 => [3, 7, 11]
  | 19 => [3, 7, 11, 12, 13]
  | 20 => [3, 7, 11, 170]
  | 21 => [6]
  | 22 => [6]
  | 23 => [2, 3, 7, 21, 171]
  | 24 => [2, 3, 14]
  | 25 => [2, 3, 14, 177]
  | 26 => [2, 3, 14]
  | 27 => [2, 3, 14, 187]
  | 28 => [6]
  | 29 => [6]
  | 30 => [2, 3, 7, 21, 193]
  | 31 => [2, 3, 15]
  | 32 => [2, 3, 15, 203]
  | 33 => [2, 3, 15]
  | 34 => [2, 3, 15, 212]
  | 35 => [6]
  | 36 => [6]
  | 37 => [2, 3, 7, 21, 241]
  | 38 => [6]
  | 39 => [2, 3, 7, 261]
  | 40 => [3, 7, 16]
  | 41 => [3, 7, 16, 272]
  | 42 => [3, 7, 16]
  | 43 => [3, 7, 16, 17, 18]
  | 44 => [3, 7, 16, 295]
  | 45 => [6]
  | 46 => [6]
  | 47 => [6]
  | _ => []
def head40 : Nat → List Nat
  | 7 => [3, 7, 8]
  | 17 => [3, 7, 11]
  | 25 => [2, 3, 14]
  | 32 => [2, 3, 15]
  | 41 => [3, 7, 16]
  | _ => []
def free40 : Nat → List Nat
  | 9 => [0, 1, 2, 3, 4, 5, 6, 7, 8, 9, 10, 11, 12]
  | 14 => [3, 4, 5, 6, 10, 11, 12, 13, 14, 15]
  | 19 => [0, 1, 2, 3, 4, 5, 6, 7, 8, 9, 10, 11, 12]
  | 35 => [0, 1, 2, 3, 4, 5, 9, 10, 11, 12, 13, 14, 15, 16, 17, 18, 19, 20, 21, 22, 23, 24, 25]
  | 38 => [3, 4, 5, 6, 10, 11, 12, 13, 14, 15]
  | 43 => [0, 1, 2, 3, 4, 5, 6, 7, 8, 9, 10, 11, 12]
  | 47 => [3, 4, 5, 6, 10, 11, 12, 13, 14, 15, 16, 17, 18]
  | _ => []
def pairs40 : Nat → List (Nat × Nat)
  | 9 => [(5, 12), (6, 12), (7, 12), (8, 12), (9, 12)]
  | 14 => []
  | 19 => [(5, 12), (6, 12), (7, 12), (8, 12), (9, 12)]
  | 35 => []
  | 38 => []
  | 43 => [(5, 12), (6, 12), (7, 12), (8, 12), (9, 12)]
  | 47 => [(10, 18), (11, 18), (12, 18), (13, 18), (14, 18), (15, 18)]
  | _ => []
def hint40 : Hint := { keep := keep40, head := head40, box := fun t => [3, 9, 10, 12, 13, 17, 18].contains t, prim := none, own := none, dies := fun t => [21, 26, 33, 36, 46, 53, 68, 73, 79, 86, 97, 113, 120, 124, 134, 141, 158, 178, 188, 200, 204, 221, 230, 245, 252, 256, 266, 273, 298, 305, 308, 313].contains t, free := free40, pairs := pairs40 }
def keep41 : Nat → List Nat
  | 0 => [0, 1, 2]
  | 1 => [6]
  | _ => []
def head41 : Nat → List Nat
  | _ => []
def hint41 : Hint := { keep := keep41, head := head41, box := fun t => [].contains t, prim := none, own := none, dies := fun t => [7, 9, 11].contains t }
def keep42 : Nat → List Nat
  | 0 => [0]
  | 1 => [2]
  | _ => []
def head42 : Nat → List Nat
  | _ => []
def hint42 : Hint := { keep := keep42, head := head42, box := fun t => [].contains t, prim := none, own := none, dies := fun t => [3].contains t }
def keep43 : Nat → List Nat
  | 0 => [0]
  | 1 => [2]
  | _ => []
def head43 : Nat → List Nat
  | _ => []
def hint43 : Hint := { keep := keep43, head := head43, box := fun t => [].contains t, prim := none, own := none, dies := fun t => [3].contains t }
def keep44 : Nat → List Nat
  | 0 => [0, 1]
  | 1 => [0, 1, 11]
  | 2 => [4, 5]
  | 3 => [0, 1, 6]
  | 4 => [0, 6, 15, 16, 17]
  | 5 => [0, 6, 15, 16, 17, 18]
  | 6 => [0, 6, 8, 15, 16, 17]
  | 7 => [0, 6, 8, 15, 16, 17, 35]
  | 8 => [4, 5]
  | 9 => [0, 6, 8, 15, 16, 17, 41]
  | 10 => [4, 5]
  | 11 => [0, 6, 15, 16, 17]
  | 12 => [0, 6, 15, 16, 17]
  | 13 => [4, 5]
  | _ => []
def head44 : Nat → List Nat
  | 5 => [0, 6, 15, 16, 17]
  | _ => []
def free44 : Nat → List Nat
  | 11 => [0, 1, 2, 3, 4, 5, 6, 7]
  | _ => []
def pairs44 : Nat → List (Nat × Nat)
  | 11 => [(0, 6), (1, 6), (2, 6), (3, 6), (4, 6), (0, 7)]
  | _ => []
def hint44 : Hint := { keep := keep44, head := head44, box := fun t => [].contains t, prim := none, own := none, dies := fun t => [15, 17, 24, 29, 53].contains t, free := free44, pairs := pairs44 }
def keep45 : Nat → List Nat
  | 0 => [0]
  | 1 => [0, 4]
  | 2 => [0, 4, 5]
  | 3 => [4, 5, 13, 14, 15]
  | 4 => [4, 5, 13, 14, 15, 16]
  | 5 => [4, 5, 7, 13, 14, 15]
  | 6 => [4, 5, 7, 13, 14, 15, 21]
  | 7 => [2, 3]
  | 8 => [4, 5, 7, 9, 13, 14, 15]
  | 9 => [4, 5, 7, 13, 14, 15, 32]
  | 10 => [2, 3]
  | 11 => [4, 5, 7, 13, 14, 15]
  | 12 => [4, 5, 7, 13, 14, 15, 40]
  | 13 => [2, 3]
  | 14 => [4, 5, 13, 14, 15]
  | 15 => [4, 5, 13, 14, 15]
  | 16 => [2, 3]
  | _ => []
def head45 : Nat → List Nat
  | 4 => [4, 5, 13, 14, 15]
  | _ => []
def free45 : Nat → List Nat
  | 8 => [0, 1, 2, 3, 4, 5, 6, 7, 8, 9, 10, 11]
  | 14 => [0, 1, 2, 3, 4, 5, 6]
  | _ => []
def pairs45 : Nat → List (Nat × Nat)
  | 8 => [(9, 11)]
  | 14 => []
  | _ => []
def hint45 : Hint := { keep := keep45, head := head45, box := fun t => [7, 8].contains t, prim := none, own := none, dies := fun t => [13, 15, 22, 32, 33, 49].contains t, free := free45, pairs := pairs45 }
def keep46 : Nat → List Nat
  | 0 => [1]
  | 1 => [1, 3]
  | 2 => [3, 7, 8, 9]
  | 3 => [3, 7, 8, 9, 10]
  | 4 => [3, 4, 5, 7, 8, 9]
  | 5 => [3, 7, 8, 9]
  | 6 => [3, 7, 8, 9]
  | 7 => [2]
  | _ => []
def head46 : Nat → List Nat
  | 3 => [3, 7, 8, 9]
  | _ => []
def hint46 : Hint := { keep := keep46, head := head46, box := fun t => [1, 5].contains t, prim := none, own := none, dies := fun t => [9, 14, 15, 25].contains t }
def keep47 : Nat → List Nat
  | 0 => [0]
  | 1 => [0, 4]
  | 2 => [2]
  | 3 => [2]
  | _ => []
def head47 : Nat → List Nat
  | _ => []
def hint47 : Hint := { keep := keep47, head := head47, box := fun t => [].contains t, prim := none, own := none, dies := fun t => [5].contains t }
def keep48 : Nat → List Nat
  | 0 => [0]
  | 1 => [0, 4]
  | 2 => [0, 4, 8]
  | 3 => [2, 3]
  | 4 => [0, 4, 11]
  | 5 => [2, 3]
  | 6 => [2, 3]
  | _ => []
def head48 : Nat → List Nat
  | _ => []
def hint48 : Hint := { keep := keep48, head := head48, box := fun t => [].contains t, prim := none, own := none, dies := fun t => [18, 19].contains t }
def keep49 : Nat → List Nat
  | 0 => [0]
  | 1 => [2]
  | _ => []
def head49 : Nat → List Nat
  | _ => []
def hint49 : Hint := { keep := keep49, head := head49, box := fun t => [].contains t, prim := none, own := none, dies := fun t => [3].contains t }
def keep50 : Nat → List Nat
  | 0 => [0, 1]
  | 1 => [4]
  | _ => []
def head50 : Nat → List Nat
  | _ => []
def hint50 : Hint := { keep := keep50, head := head50, box := fun t => [].contains t, prim := none, own := none, dies := fun t => [5, 6].contains t }
def keep51 : Nat → List Nat
  | 0 => [0]
  | 1 => [0, 4]
  | 2 => [2]
  | 3 => [2]
  | _ => []
def head51 : Nat → List Nat
  | _ => []
def hint51 : Hint := { keep := keep51, head := head51, box := fun t => [].contains t, prim := none, own := none, dies := fun t => [5].contains t }
def keep52 : Nat → List Nat
  | 0 => [0, 2]
  | 1 => [0, 2, 3]
  | 2 => [0, 2, 3, 4]
  | 3 => [0, 2, 3, 4, 16]
  | 4 => [0, 2, 3, 4]
  | 5 => [0, 2, 3, 4]
  | 6 => [0, 2, 3, 4]
  | 7 => [0, 2, 3, 4, 39]
  | 8 => [0, 2, 3, 4]
  | 9 => [0, 2, 3, 4]
  | 10 => [0, 2, 3, 4]
  | 11 => [0, 2, 3, 4, 62]
  | 12 => [0, 2, 3, 4]
  | 13 => [0, 2, 3, 4]
  | 14 => [2]
  | _ => []
def head52 : Nat → List Nat
  | 1000 => [0, 2, 3, 4]
  | 1001 => [0, 2, 3, 4]
  | 1002 => [0, 2, 3, 4]
  | _ => []
def free52 : Nat → List Nat
  | 4 => [0, 1, 2, 3, 4, 5, 6, 7, 8, 9]
  | 8 => [0, 1, 2, 3, 4, 5, 6, 7, 8, 9]
  | 12 => [0, 1, 2, 3, 4, 5, 6, 7, 8, 9, 10, 11, 12, 13, 14, 15, 16, 17, 18, 19, 20, 21, 22, 23]
  | _ => []
def pairs52 : Nat → List (Nat × Nat)
  | 4 => [(0, 3), (1, 3), (3, 4), (0, 5), (1, 5), (3, 6), (5, 6), (0, 7), (1, 7), (0, 9), (1, 9)]
  | 8 => [(0, 3), (1, 3), (3, 4), (0, 5), (1, 5), (3, 6), (5, 6), (0, 7), (1, 7), (0, 9), (1, 9)]
  | 12 => [(0, 3), (1, 3), (3, 4), (0, 5), (1, 5), (3, 6), (5, 6), (0, 7), (1, 7), (3, 8), (5, 8), (7, 8), (0, 9), (1, 9), (3, 10), (5, 10), (7, 10), (9, 10), (0, 11), (1, 11), (3, 12), (5, 12), (7, 12), (9, 12), (11, 12), (0, 13), (1, 13), (3, 14), (5, 14), (7, 14), (9, 14), (11, 14), (13, 14), (0, 15), (1, 15), (3, 16), (5, 16), (7, 16), (9, 16), (11, 16), (13, 16), (15, 16), (0, 17), (1, 17), (3, 18), (5, 18), (7, 18), (9, 18), (11, 18), (13, 18), (15, 18), (17, 18), (0, 19), (1, 19), (3, 20), (5, 20), (7, 20), (9, 20), (11, 20), (13, 20), (15, 20), (17, 20), (19, 20), (0, 21), (1, 21), (0, 23), (1, 23)]
  | _ => []
def hint52 : Hint := { keep := keep52, head := head52, box := fun t => [2, 3].contains t, prim := none, own := none, dies := fun t => [12, 29, 35, 52, 58, 89].contains t, free := free52, pairs := pairs52 }
def keep53 : Nat → List Nat
  | 0 => [0]
  | 1 => [0, 12]
  | 2 => [2]
  | 3 => [2]
  | _ => []
def head53 : Nat → List Nat
  | _ => []
def free53 : Nat → List Nat
  | 3 => [0, 1, 2, 3, 4, 5, 6, 7, 8]
  | _ => []
def pairs53 : Nat → List (Nat × Nat)
  | 3 => []
  | _ => []
def hint53 : Hint := { keep := keep53, head := head53, box := fun t => [].contains t, prim := none, own := none, dies := fun t => [5, 18].contains t, free := free53, pairs := pairs53 }
def keep54 : Nat → List Nat
  | 0 => [1]
  | 1 => [2]
  | _ => []
def head54 : Nat → List Nat
  | _ => []
def hint54 : Hint := { keep := keep54, head := head54, box := fun t => [1].contains t, prim := none, own := none, dies := fun t => [6, 12, 18].contains t }
def keep55 : Nat → List Nat
  | 0 => [0, 3]
  | 1 => [0, 3, 5]
  | 2 => [0, 3, 5]
  | 3 => [4]
  | _ => []
def head55 : Nat → List Nat
  | _ => []
def hint55 : Hint := { keep := keep55, head := head55, box := fun t => [].contains t, prim := none, own := some 0, dies := fun t => [9, 13, 14].contains t }
def keep56 : Nat → List Nat
  | 0 => [0, 3]
  | 1 => [0, 3, 5]
  | 2 => [0, 3, 5]
  | 3 => [0, 3]
  | 4 => [0, 3, 22, 23]
  | 5 => [0, 3, 22, 23, 24]
  | 6 => [0, 3, 6, 22, 23]
  | 7 => [0, 3, 6, 22, 23, 30]
  | 8 => [0, 3, 22, 23]
  | 9 => [0, 3, 22, 23]
  | 10 => [0, 3, 7]
  | 11 => [0, 70]
  | 12 => [0]
  | 13 => [4]
  | _ => []
def head56 : Nat → List Nat
  | 5 => [0, 3, 22, 23]
  | _ => []
def free56 : Nat → List Nat
  | 11 => [3, 4, 5, 6, 7, 8, 12, 13, 14, 15, 16, 17, 18, 19, 20, 21, 22, 23, 24, 25, 26, 27, 28]
  | _ => []
def pairs56 : Nat → List (Nat × Nat)
  | 11 => []
  | _ => []
def hint56 : Hint := { keep := keep56, head := head56, box := fun t => [].contains t, prim := none, own := some 0, dies := fun t => [11, 15, 16, 23, 31, 42, 51, 60, 71, 75].contains t, free := free56, pairs := pairs56 }
def keep57 : Nat → List Nat
  | 0 => [0, 3]
  | 1 => [0, 3, 5]
  | 2 => [0, 3, 5]
  | 3 => [4]
  | _ => []
def head57 : Nat → List Nat
  | _ => []
def hint57 : Hint := { keep := keep57, head := head57, box := fun t => [].contains t, prim := none, own := some 0, dies := fun t => [9, 13, 14].contains t }
def keep58 : Nat → List Nat
  | 0 => [0, 1, 2, 3]
  | 1 => [0, 1, 3, 10, 11]
  | 2 => [0, 1, 3, 10, 11, 12]
  | 3 => [0, 1, 3, 9, 10, 11]
  | 4 => [0, 1, 3, 9, 10, 11, 16]
  | 5 => [0, 1, 3, 10, 11]
  | 6 => [0, 1, 3, 10, 11]
  | 7 => [8]
  | _ => []
def head58 : Nat → List Nat
  | 2 => [0, 1, 3, 10, 11]
  | _ => []
def hint58 : Hint := { keep := keep58, head := head58, box := fun t => [].contains t, prim := none, own := some 0, dies := fun t => [10, 11, 17, 18, 25].contains t }
def keep59 : Nat → List Nat
  | 0 => [0, 1]
  | 1 => [3]
  | _ => []
def head59 : Nat → List Nat
  | _ => []
def free59 : Nat → List Nat
  | 1 => [0, 1, 2, 3, 4, 5, 6, 7, 8, 9]
  | _ => []
def pairs59 : Nat → List (Nat × Nat)
  | 1 => [(0, 9), (1, 9), (2, 9), (3, 9), (4, 9), (5, 9)]
  | _ => []
def hint59 : Hint := { keep := keep59, head := head59, box := fun t => [].contains t, prim := none, own := none, dies := fun t => [11].contains t, free := free59, pairs := pairs59 }
def keep60 : Nat → List Nat
  | 0 => [1, 2]
  | 1 => [1, 2, 5]
  | 2 => [1, 2, 5, 9]
  | 3 => [1, 2, 5, 11, 12, 13]
  | 4 => [1, 2, 5, 11, 12, 13, 14]
  | 5 => [1, 2, 5, 7, 11, 12, 13]
  | 6 => [1, 2, 5, 7, 11, 12, 13, 25]
  | 7 => [1, 2, 5, 11, 12, 13]
  | 8 => [1, 2, 5, 11, 12, 13]
  | 9 => [4]
  | _ => []
def head60 : Nat → List Nat
  | 4 => [1, 2, 5, 11, 12, 13]
  | _ => []
def hint60 : Hint := { keep := keep60, head := head60, box := fun t => [2, 7].contains t, prim := none, own := none, dies := fun t => [13, 21, 26, 35].contains t }
def keep61 : Nat → List Nat
  | 0 => []
  | 1 => [0, 1, 2, 15]
  | 2 => [0, 2, 26]
  | 3 => []
  | _ => []
def head61 : Nat → List Nat
  | _ => []
def hint61 : Hint := { keep := keep61, head := head61, box := fun t => [].contains t, prim := none, own := none, dies := fun t => [7, 11, 18, 27, 29].contains t }
def keep62 : Nat → List Nat
  | 0 => [0]
  | 1 => [0, 3]
  | 2 => [0, 3, 6, 7]
  | 3 => [0, 3, 6, 7, 8]
  | 4 => [0, 3, 4, 6, 7]
  | 5 => [0, 3, 6, 7]
  | 6 => [0, 3, 6, 7]
  | 7 => [2]
  | _ => []
def head62 : Nat → List Nat
  | 3 => [0, 3, 6, 7]
  | _ => []
def hint62 : Hint := { keep := keep62, head := head62, box := fun t => [].contains t, prim := none, own := none, dies := fun t => [7, 10, 12, 17].contains t }
def keep63 : Nat → List Nat
  | 0 => [0]
  | 1 => [2]
  | _ => []
def head63 : Nat → List Nat
  | _ => []
def hint63 : Hint := { keep := keep63, head := head63, box := fun t => [].contains t, prim := none, own := none, dies := fun t => [3].contains t }
def keep64 : Nat → List Nat
  | 0 => [0]
  | 1 => [2]
  | _ => []
def head64 : Nat → List Nat
  | _ => []
def hint64 : Hint := { keep := keep64, head := head64, box := fun t => [].contains t, prim := none, own := none, dies := fun t => [3].contains t }
def keep65 : Nat → List Nat
  | 0 => [0, 1]
  | 1 => [0, 1, 5]
  | 2 => [0, 1, 5, 10]
  | 3 => [0, 1, 5]
  | 4 => [0, 1, 5, 6]
  | 5 => [0, 1, 5, 6, 14]
  | 6 => [0, 1, 5, 6]
  | 7 => [0, 1, 5, 6]
  | 8 => [4]
  | _ => []
def head65 : Nat → List Nat
  | 2 => [0, 1, 5]
  | 5 => [0, 1, 5, 6]
  | _ => []
def hint65 : Hint := { keep := keep65, head := head65, box := fun t => [].contains t, prim := none, own := none, dies := fun t => [11, 15, 17, 24].contains t }
def keep66 : Nat → List Nat
  | 0 => [1]
  | 1 => [1, 23]
  | 2 => [2]
  | 3 => [1, 43]
  | 4 => [2]
  | 5 => [1, 81]
  | 6 => [2]
  | 7 => [2]
  | _ => []
def head66 : Nat → List Nat
  | _ => []
def free66 : Nat → List Nat
  | 3 => [10, 11, 12, 13, 14, 15, 16, 17]
  | _ => []
def pairs66 : Nat → List (Nat × Nat)
  | 3 => [(10, 16), (11, 16), (12, 16), (13, 16)]
  | _ => []
def hint66 : Hint := { keep := keep66, head := head66, box := fun t => [1].contains t, prim := none, own := none, dies := fun t => [6, 11, 16, 28, 33, 47, 52, 57, 62, 67, 72, 77, 85, 90, 95].contains t, free := free66, pairs := pairs66 }
def keep67 : Nat → List Nat
  | 0 => [0, 1, 2, 3]
  | 1 => [8]
  | _ => []
def head67 : Nat → List Nat
  | _ => []
def hint67 : Hint := { keep := keep67, head := head67, box := fun t => [].contains t, prim := none, own := none, dies := fun t => [10, 11, 15, 16].contains t }
def keep68 : Nat → List Nat
  | 0 => [2, 3]
  | 1 => [4]
  | _ => []
def head68 : Nat → List Nat
  | _ => []
def hint68 : Hint := { keep := keep68, head := head68, box := fun t => [2, 3].contains t, prim := none, own := none, dies := fun t => [8, 16, 21, 28].contains t }
def keep69 : Nat → List Nat
  | 0 => [2, 3]
  | 1 => [4]
  | _ => []
def head69 : Nat → List Nat
  | _ => []
def hint69 : Hint := { keep := keep69, head := head69, box := fun t => [2, 3].contains t, prim := none, own := none, dies := fun t => [7, 11, 16].contains t }
def keep70 : Nat → List Nat
  | 0 => [2, 3]
  | 1 => [4]
  | _ => []
def head70 : Nat → List Nat
  | _ => []
def hint70 : Hint := { keep := keep70, head := head70, box := fun t => [2, 3].contains t, prim := none, own := none, dies := fun t => [8, 16, 21, 28, 35].contains t }
def keep71 : Nat → List Nat
  | 0 => [1, 2]
  | 1 => [1, 2, 5]
  | 2 => [1, 2, 5, 6]
  | 3 => [1, 2, 5, 6, 15]
  | 4 => [1, 2, 5, 6]
  | 5 => [1, 2, 5, 6, 35]
  | 6 => [1, 2, 5, 6]
  | 7 => [4]
  | _ => []
def head71 : Nat → List Nat
  | 3 => [1, 2, 5, 6]
  | _ => []
def free71 : Nat → List Nat
  | 5 => [0, 1, 2, 3, 4, 5, 6, 9, 10, 11, 12, 13, 14]
  | 6 => [0, 1, 2, 3, 4, 5, 6, 7, 8, 9, 10, 11, 12, 13, 14]
  | _ => []
def pairs71 : Nat → List (Nat × Nat)
  | 5 => []
  | 6 => []
  | _ => []
def hint71 : Hint := { keep := keep71, head := head71, box := fun t => [2].contains t, prim := none, own := none, dies := fun t => [12, 16, 26, 36, 52].contains t, free := free71, pairs := pairs71 }
def keep72 : Nat → List Nat
  | 0 => [0, 1]
  | 1 => [1, 5]
  | 2 => [1, 5, 10]
  | 3 => [5]
  | 4 => [4]
  | _ => []
def head72 : Nat → List Nat
  | _ => []
def hint72 : Hint := { keep := keep72, head := head72, box := fun t => [].contains t, prim := none, own := none, dies := fun t => [6, 11, 12, 14].contains t }
def keep73 : Nat → List Nat
  | 0 => [0]
  | 1 => [2]
  | _ => []
def head73 : Nat → List Nat
  | _ => []
def hint73 : Hint := { keep := keep73, head := head73, box := fun t => [].contains t, prim := none, own := none, dies := fun t => [5, 6].contains t }
def keep74 : Nat → List Nat
  | 0 => [1, 2]
  | 1 => [4]
  | _ => []
def head74 : Nat → List Nat
  | _ => []
def hint74 : Hint := { keep := keep74, head := head74, box := fun t => [2].contains t, prim := none, own := none, dies := fun t => [7, 10].contains t }
def keep75 : Nat → List Nat
  | 0 => [1, 2]
  | 1 => [2]
  | _ => []
def head75 : Nat → List Nat
  | _ => []
def hint75 : Hint := { keep := keep75, head := head75, box := fun t => [1, 2].contains t, prim := none, own := none, dies := fun t => [].contains t }
def keep76 : Nat → List Nat
  | 0 => [0, 1]
  | 1 => [4]
  | _ => []
def head76 : Nat → List Nat
  | _ => []
def hint76 : Hint := { keep := keep76, head := head76, box := fun t => [].contains t, prim := none, own := none, dies := fun t => [5, 6].contains t }
def keep77 : Nat → List Nat
  | 0 => [1, 2]
  | 1 => [5]
  | 2 => [3]
  | _ => []
def head77 : Nat → List Nat
  | _ => []
def free77 : Nat → List Nat
  | 1 => [0, 1, 2, 3, 4, 5, 6, 7, 8, 9]
  | _ => []
def pairs77 : Nat → List (Nat × Nat)
  | 1 => [(1, 2), (1, 8), (3, 8), (4, 8), (7, 9)]
  | _ => []
def hint77 : Hint := { keep := keep77, head := head77, box := fun t => [2, 4].contains t, prim := none, own := none, dies := fun t => [6, 14].contains t, free := free77, pairs := pairs77 }
def keep78 : Nat → List Nat
  | 0 => [2, 3, 4]
  | 1 => [2, 3, 4, 14]
  | 2 => [4, 5]
  | 3 => [4, 6]
  | 4 => [4, 6, 29]
  | 5 => [4, 5]
  | 6 => [4, 5]
  | _ => []
def head78 : Nat → List Nat
  | _ => []
def hint78 : Hint := { keep := keep78, head := head78, box := fun t => [2, 3, 4, 6].contains t, prim := none, own := none, dies := fun t => [10].contains t }
def keep79 : Nat → List Nat
  | 0 => [1]
  | 1 => [2]
  | _ => []
def head79 : Nat → List Nat
  | _ => []
def hint79 : Hint := { keep := keep79, head := head79, box := fun t => [1].contains t, prim := none, own := none, dies := fun t => [6, 11, 16, 21, 26].contains t }
def keep80 : Nat → List Nat
  | 0 => [1, 2]
  | 1 => [2]
  | _ => []
def head80 : Nat → List Nat
  | _ => []
def hint80 : Hint := { keep := keep80, head := head80, box := fun t => [1, 2].contains t, prim := none, own := none, dies := fun t => [].contains t }
def keep81 : Nat → List Nat
  | 0 => [0]
  | 1 => [0, 3]
  | 2 => [2]
  | _ => []
def head81 : Nat → List Nat
  | _ => []
def hint81 : Hint := { keep := keep81, head := head81, box := fun t => [].contains t, prim := none, own := none, dies := fun t => [5, 10, 12, 13].contains t }
def keep82 : Nat → List Nat
  | 0 => [0, 1]
  | 1 => [0, 1, 6]
  | 2 => [4]
  | 3 => [0, 1, 17]
  | 4 => []
  | 5 => [4]
  | 6 => [0, 1, 24]
  | 7 => []
  | 8 => [4]
  | 9 => [0, 1, 5]
  | 10 => [5]
  | 11 => [4]
  | _ => []
def head82 : Nat → List Nat
  | _ => []
def free82 : Nat → List Nat
  | 6 => [0, 1, 2, 3, 4, 5, 6, 7, 8, 9, 10]
  | 9 => [0, 1, 2, 3, 4, 5, 6, 7, 8, 9, 10, 11, 12, 13]
  | _ => []
def pairs82 : Nat → List (Nat × Nat)
  | 6 => []
  | 9 => []
  | _ => []
def hint82 : Hint := { keep := keep82, head := head82, box := fun t => [].contains t, prim := none, own := none, dies := fun t => [9, 20, 37, 56, 60, 64].contains t, free := free82, pairs := pairs82 }
def keep83 : Nat → List Nat
  | 0 => [0]
  | 1 => [3]
  | 2 => [3, 7]
  | 3 => [2]
  | 4 => [2]
  | _ => []
def head83 : Nat → List Nat
  | _ => []
def free83 : Nat → List Nat
  | 4 => [0, 1, 2, 3, 4, 5]
  | _ => []
def pairs83 : Nat → List (Nat × Nat)
  | 4 => []
  | _ => []
def hint83 : Hint := { keep := keep83, head := head83, box := fun t => [].contains t, prim := none, own := none, dies := fun t => [4, 11].contains t, free := free83, pairs := pairs83 }
def keep84 : Nat → List Nat
  | 0 => [0]
  | 1 => [3]
  | 2 => [3, 7]
  | 3 => [2]
  | 4 => [2]
  | _ => []
def head84 : Nat → List Nat
  | _ => []
def hint84 : Hint := { keep := keep84, head := head84, box := fun t => [].contains t, prim := none, own := none, dies := fun t => [4, 8].contains t }
def keep85 : Nat → List Nat
  | 0 => [0, 1, 2]
  | 1 => [6]
  | _ => []
def head85 : Nat → List Nat
  | _ => []
def hint85 : Hint := { keep := keep85, head := head85, box := fun t => [].contains t, prim := none, own := none, dies := fun t => [8, 10, 11, 12].contains t }
def keep86 : Nat → List Nat
  | 0 => [0, 1]
  | 1 => [3]
  | _ => []
def head86 : Nat → List Nat
  | _ => []
def free86 : Nat → List Nat
  | 1 => [0, 1, 2, 3, 4, 5]
  | _ => []
def pairs86 : Nat → List (Nat × Nat)
  | 1 => []
  | _ => []
def hint86 : Hint := { keep := keep86, head := head86, box := fun t => [].contains t, prim := none, own := none, dies := fun t => [7].contains t, free := free86, pairs := pairs86 }
def keep87 : Nat → List Nat
  | 0 => [2, 3]
  | 1 => [4]
  | _ => []
def head87 : Nat → List Nat
  | _ => []
def hint87 : Hint := { keep := keep87, head := head87, box := fun t => [2, 3].contains t, prim := none, own := none, dies := fun t => [11, 21].contains t }
def keep88 : Nat → List Nat
  | 0 => [0, 1]
  | 1 => [0, 1, 4]
  | 2 => [3]
  | _ => []
def head88 : Nat → List Nat
  | _ => []
def hint88 : Hint := { keep := keep88, head := head88, box := fun t => [].contains t, prim := none, own := none, dies := fun t => [12].contains t }
def keep89 : Nat → List Nat
  | 0 => [1, 2]
  | 1 => [5]
  | 2 => [3]
  | _ => []
def head89 : Nat → List Nat
  | _ => []
def hint89 : Hint := { keep := keep89, head := head89, box := fun t => [2, 4].contains t, prim := none, own := none, dies := fun t => [6, 20].contains t }
def keep90 : Nat → List Nat
  | 0 => [0, 1]
  | 1 => [3]
  | _ => []
def head90 : Nat → List Nat
  | _ => []
def free90 : Nat → List Nat
  | 1 => [0, 1, 2, 3, 4, 5]
  | _ => []
def pairs90 : Nat → List (Nat × Nat)
  | 1 => []
  | _ => []
def hint90 : Hint := { keep := keep90, head := head90, box := fun t => [].contains t, prim := none, own := none, dies := fun t => [7].contains t, free := free90, pairs := pairs90 }
def keep91 : Nat → List Nat
  | 0 => [2, 3]
  | 1 => [4]
  | _ => []
def head91 : Nat → List Nat
  | _ => []
def hint91 : Hint := { keep := keep91, head := head91, box := fun t => [2, 3].contains t, prim := none, own := none, dies := fun t => [11].contains t }
def keep92 : Nat → List Nat
  | 0 => [0, 1]
  | 1 => [0, 1, 4]
  | 2 => [3]
  | _ => []
def head92 : Nat → List Nat
  | _ => []
def hint92 : Hint := { keep := keep92, head := head92, box := fun t => [].contains t, prim := none, own := none, dies := fun t => [12].contains t }
def keep93 : Nat → List Nat
  | 0 => [0, 1]
  | 1 => [4]
  | _ => []
def head93 : Nat → List Nat
  | _ => []
def hint93 : Hint := { keep := keep93, head := head93, box := fun t => [].contains t, prim := none, own := none, dies := fun t => [5, 6].contains t }
def keep94 : Nat → List Nat
  | 0 => [1, 2]
  | 1 => [1, 2, 5]
  | 2 => [3]
  | _ => []
def head94 : Nat → List Nat
  | _ => []
def hint94 : Hint := { keep := keep94, head := head94, box := fun t => [2, 4].contains t, prim := none, own := none, dies := fun t => [6, 20, 21].contains t }
def keep95 : Nat → List Nat
  | 0 => [1, 2]
  | 1 => [3]
  | _ => []
def head95 : Nat → List Nat
  | _ => []
def hint95 : Hint := { keep := keep95, head := head95, box := fun t => [2].contains t, prim := none, own := none, dies := fun t => [].contains t }
def keep96 : Nat → List Nat
  | 0 => [0, 1]
  | 1 => [0, 1, 7, 8]
  | 2 => [0, 1, 7, 8, 9]
  | 3 => [0, 1, 5, 7, 8]
  | 4 => [0, 1, 5, 7, 8, 16]
  | 5 => [4]
  | 6 => [0, 1, 7, 8]
  | 7 => [4]
  | _ => []
def head96 : Nat → List Nat
  | 2 => [0, 1, 7, 8]
  | _ => []
def hint96 : Hint := { keep := keep96, head := head96, box := fun t => [].contains t, prim := none, own := none, dies := fun t => [8, 17].contains t }
def keep97 : Nat → List Nat
  | 0 => [1]
  | 1 => [2]
  | _ => []
def head97 : Nat → List Nat
  | _ => []
def hint97 : Hint := { keep := keep97, head := head97, box := fun t => [1].contains t, prim := none, own := none, dies := fun t => [].contains t }
def keep98 : Nat → List Nat
  | 0 => [0, 1]
  | 1 => [3]
  | _ => []
def head98 : Nat → List Nat
  | _ => []
def hint98 : Hint := { keep := keep98, head := head98, box := fun t => [].contains t, prim := none, own := none, dies := fun t => [6].contains t }
def keep99 : Nat → List Nat
  | 0 => [1]
  | 1 => [1, 3]
  | 2 => [2]
  | 3 => [1, 17]
  | 4 => [2]
  | 5 => [1, 34]
  | 6 => [2]
  | 7 => [1, 45]
  | 8 => [2]
  | 9 => [2]
  | _ => []
def head99 : Nat → List Nat
  | _ => []
def free99 : Nat → List Nat
  | 3 => [5, 6, 7, 8, 9, 10, 11, 12]
  | _ => []
def pairs99 : Nat → List (Nat × Nat)
  | 3 => [(5, 11), (6, 11), (7, 11), (8, 11)]
  | _ => []
def hint99 : Hint := { keep := keep99, head := head99, box := fun t => [1].contains t, prim := none, own := none, dies := fun t => [8, 22, 39, 50, 59].contains t, free := free99, pairs := pairs99 }
def keep100 : Nat → List Nat
  | 0 => [0, 1]
  | 1 => [0, 1, 4]
  | 2 => [3]
  | _ => []
def head100 : Nat → List Nat
  | _ => []
def hint100 : Hint := { keep := keep100, head := head100, box := fun t => [].contains t, prim := none, own := none, dies := fun t => [12, 15].contains t }
def keep101 : Nat → List Nat
  | 0 => [0, 1]
  | 1 => [4]
  | _ => []
def head101 : Nat → List Nat
  | _ => []
def hint101 : Hint := { keep := keep101, head := head101, box := fun t => [].contains t, prim := none, own := none, dies := fun t => [5, 6].contains t }
def keep102 : Nat → List Nat
  | 0 => [1, 2]
  | 1 => [3]
  | _ => []
def head102 : Nat → List Nat
  | _ => []
def hint102 : Hint := { keep := keep102, head := head102, box := fun t => [2].contains t, prim := none, own := none, dies := fun t => [6].contains t }
def keep103 : Nat → List Nat
  | 0 => [2, 3]
  | 1 => [2, 3, 6]
  | 2 => [2, 3, 6, 8]
  | 3 => [4]
  | _ => []
def head103 : Nat → List Nat
  | _ => []
def free103 : Nat → List Nat
  | 1 => [0, 1, 2, 3, 4, 5, 6, 7, 8, 9, 10, 11, 12, 13, 14, 15]
  | 2 => [0, 1, 2, 3, 4, 5, 6, 7, 8, 9, 10, 11, 12, 13, 14, 15]
  | _ => []
def pairs103 : Nat → List (Nat × Nat)
  | 1 => [(4, 5), (4, 6), (4, 7), (4, 8), (4, 14), (9, 14), (10, 14), (13, 15)]
  | 2 => [(4, 5), (4, 6), (4, 7), (4, 8), (4, 14), (9, 14), (10, 14), (13, 15)]
  | _ => []
def hint103 : Hint := { keep := keep103, head := head103, box := fun t => [2, 3, 5, 7].contains t, prim := none, own := none, dies := fun t => [9, 23, 42, 49, 50, 52, 53].contains t, free := free103, pairs := pairs103 }
def keep104 : Nat → List Nat
  | 0 => [0, 1, 8]
  | 1 => []
  | _ => []
def head104 : Nat → List Nat
  | _ => []
def hint104 : Hint := { keep := keep104, head := head104, box := fun t => [].contains t, prim := none, own := none, dies := fun t => [9, 10].contains t }
def keep105 : Nat → List Nat
  | 0 => [0, 1]
  | 1 => [0]
  | 2 => [0, 12]
  | 3 => [0, 12, 13]
  | 4 => [0, 5, 12]
  | 5 => [0, 5, 12]
  | 6 => [0, 12, 20]
  | 7 => [0, 12]
  | 8 => [0, 12]
  | 9 => [4]
  | _ => []
def head105 : Nat → List Nat
  | 3 => [0, 12]
  | _ => []
def hint105 : Hint := { keep := keep105, head := head105, box := fun t => [].contains t, prim := none, own := none, dies := fun t => [6, 8, 12, 16, 19, 21, 24].contains t }
def keep106 : Nat → List Nat
  | 0 => [0, 1]
  | 1 => [0, 1, 5]
  | 2 => [0, 1, 5]
  | 3 => [0, 13]
  | 4 => [0]
  | 5 => [4]
  | _ => []
def head106 : Nat → List Nat
  | _ => []
def hint106 : Hint := { keep := keep106, head := head106, box := fun t => [].contains t, prim := none, own := none, dies := fun t => [8, 11, 12, 14, 16].contains t }
def keep107 : Nat → List Nat
  | 0 => [0, 1]
  | 1 => [1, 5]
  | 2 => [1, 5, 6]
  | 3 => [1, 5, 6, 11]
  | 4 => [1, 5, 6]
  | 5 => [1, 5, 6]
  | 6 => [4]
  | _ => []
def head107 : Nat → List Nat
  | 3 => [1, 5, 6]
  | _ => []
def hint107 : Hint := { keep := keep107, head := head107, box := fun t => [].contains t, prim := none, own := none, dies := fun t => [7, 12, 14, 16].contains t }
def keep108 : Nat → List Nat
  | 0 => [0]
  | 1 => [0, 20]
  | 2 => [2]
  | 3 => [2]
  | _ => []
def head108 : Nat → List Nat
  | _ => []
def hint108 : Hint := { keep := keep108, head := head108, box := fun t => [].contains t, prim := none, own := none, dies := fun t => [5, 9, 13, 17, 21].contains t }
def keep109 : Nat → List Nat
  | 0 => [1]
  | 1 => [2]
  | _ => []
def head109 : Nat → List Nat
  | _ => []
def hint109 : Hint := { keep := keep109, head := head109, box := fun t => [1].contains t, prim := none, own := none, dies := fun t => [].contains t }
def keep110 : Nat → List Nat
  | 0 => [1, 2]
  | 1 => [4]
  | _ => []
def head110 : Nat → List Nat
  | _ => []
def hint110 : Hint := { keep := keep110, head := head110, box := fun t => [2].contains t, prim := none, own := none, dies := fun t => [8, 14, 15].contains t }
def keep111 : Nat → List Nat
  | 0 => [1]
  | 1 => [2]
  | _ => []
def head111 : Nat → List Nat
  | _ => []
def hint111 : Hint := { keep := keep111, head := head111, box := fun t => [1].contains t, prim := none, own := none, dies := fun t => [6].contains t }
def keep112 : Nat → List Nat
  | 0 => [0, 1]
  | 1 => [0, 1, 7, 8]
  | 2 => [0, 1, 7, 8, 9]
  | 3 => [0, 1, 5, 7, 8]
  | 4 => [0, 1, 5, 7, 8, 16]
  | 5 => [4]
  | 6 => [0, 1, 7, 8]
  | 7 => [4]
  | _ => []
def head112 : Nat → List Nat
  | 2 => [0, 1, 7, 8]
  | _ => []
def hint112 : Hint := { keep := keep112, head := head112, box := fun t => [].contains t, prim := none, own := none, dies := fun t => [8, 17].contains t }
def keep113 : Nat → List Nat
  | 0 => [0]
  | 1 => [0, 7, 8, 9]
  | 2 => [0, 7, 8, 9, 10]
  | 3 => [0, 4, 5, 7, 8, 9]
  | 4 => [0, 4, 6, 7, 8, 9]
  | 5 => [0, 4, 6, 7, 8, 9, 20]
  | 6 => [2, 3]
  | 7 => [0, 7, 8, 9]
  | 8 => [2, 3]
  | _ => []
def head113 : Nat → List Nat
  | 2 => [0, 7, 8, 9]
  | _ => []
def hint113 : Hint := { keep := keep113, head := head113, box := fun t => [].contains t, prim := none, own := none, dies := fun t => [9, 21, 22].contains t }
def keep114 : Nat → List Nat
  | 0 => [0, 1]
  | 1 => [4]
  | _ => []
def head114 : Nat → List Nat
  | _ => []
def hint114 : Hint := { keep := keep114, head := head114, box := fun t => [].contains t, prim := none, own := none, dies := fun t => [5, 6].contains t }
def keep115 : Nat → List Nat
  | 0 => [1]
  | 1 => [2]
  | _ => []
def head115 : Nat → List Nat
  | _ => []
def hint115 : Hint := { keep := keep115, head := head115, box := fun t => [1].contains t, prim := none, own := none, dies := fun t => [].contains t }
def keep116 : Nat → List Nat
  | 0 => [0, 1]
  | 1 => [4]
  | _ => []
def head116 : Nat → List Nat
  | _ => []
def hint116 : Hint := { keep := keep116, head := head116, box := fun t => [].contains t, prim := none, own := none, dies := fun t => [5, 7].contains t }
def keep117 : Nat → List Nat
  | 0 => [0]
  | 1 => [0, 3]
  | 2 => [0, 3, 4]
  | 3 => [0, 3, 4]
  | 4 => [0, 3, 4]
  | 5 => [0, 3, 4]
  | 6 => [0, 4]
  | 7 => [2]
  | 8 => [2]
  | _ => []
def head117 : Nat → List Nat
  | _ => []
def hint117 : Hint := { keep := keep117, head := head117, box := fun t => [].contains t, prim := none, own := none, dies := fun t => [10].contains t }
def keep118 : Nat → List Nat
  | 0 => [0, 1, 4]
  | 1 => [4]
  | _ => []
def head118 : Nat → List Nat
  | _ => []
def hint118 : Hint := { keep := keep118, head := head118, box := fun t => [4].contains t, prim := none, own := none, dies := fun t => [6, 7].contains t }
def keep119 : Nat → List Nat
  | 0 => [0, 1]
  | 1 => [0, 1, 7, 8]
  | 2 => [0, 1, 7, 8, 9]
  | 3 => [0, 1, 5, 7, 8]
  | 4 => [0, 1, 5, 7, 8, 16]
  | 5 => [4]
  | 6 => [0, 1, 7, 8]
  | 7 => [4]
  | _ => []
def head119 : Nat → List Nat
  | 2 => [0, 1, 7, 8]
  | _ => []
def hint119 : Hint := { keep := keep119, head := head119, box := fun t => [].contains t, prim := none, own := none, dies := fun t => [8, 17].contains t }
def keep120 : Nat → List Nat
  | 0 => [1, 2]
  | 1 => [5]
  | 2 => [3]
  | _ => []
def head120 : Nat → List Nat
  | _ => []
def hint120 : Hint := { keep := keep120, head := head120, box := fun t => [2, 4].contains t, prim := none, own := none, dies := fun t => [6, 12].contains t }
def hints : FuncId → Hint
  | 2 => hint2
  | 3 => hint3
  | 4 => hint4
  | 5 => hint5
  | 6 => hint6
  | 7 => hint7
  | 8 => hint8
  | 9 => hint9
  | 10 => hint10
  | 11 => hint11
  | 12 => hint12
  | 13 => hint13
  | 14 => hint14
  | 15 => hint15
  | 16 => hint16
  | 17 => hint17
  | 18 => hint18
  | 19 => hint19
  | 20 => hint20
  | 21 => hint21
  | 22 => hint22
  | 23 => hint23
  | 24 => hint24
  | 25 => hint25
  | 26 => hint26
  | 27 => hint27
  | 28 => hint28
  | 29 => hint29
  | 30 => hint30
  | 31 => hint31
  | 32 => hint32
  | 33 => hint33
  | 34 => hint34
  | 35 => hint35
  | 36 => hint36
  | 37 => hint37
  | 38 => hint38
  | 39 => hint39
  | 40 => hint40
  | 41 => hint41
  | 42 => hint42
  | 43 => hint43
  | 44 => hint44
  | 45 => hint45
  | 46 => hint46
  | 47 => hint47
  | 48 => hint48
  | 49 => hint49
  | 50 => hint50
  | 51 => hint51
  | 52 => hint52
  | 53 => hint53
  | 54 => hint54
  | 55 => hint55
  | 56 => hint56
  | 57 => hint57
  | 58 => hint58
  | 59 => hint59
  | 60 => hint60
  | 61 => hint61
  | 62 => hint62
  | 63 => hint63
  | 64 => hint64
  | 65 => hint65
  | 66 => hint66
  | 67 => hint67
  | 68 => hint68
  | 69 => hint69
  | 70 => hint70
  | 71 => hint71
  | 72 => hint72
  | 73 => hint73
  | 74 => hint74
  | 75 => hint75
  | 76 => hint76
  | 77 => hint77
  | 78 => hint78
  | 79 => hint79
  | 80 => hint80
  | 81 => hint81
  | 82 => hint82
  | 83 => hint83
  | 84 => hint84
  | 85 => hint85
  | 86 => hint86
  | 87 => hint87
  | 88 => hint88
  | 89 => hint89
  | 90 => hint90
  | 91 => hint91
  | 92 => hint92
  | 93 => hint93
  | 94 => hint94
  | 95 => hint95
  | 96 => hint96
  | 97 => hint97
  | 98 => hint98
  | 99 => hint99
  | 100 => hint100
  | 101 => hint101
  | 102 => hint102
  | 103 => hint103
  | 104 => hint104
  | 105 => hint105
  | 106 => hint106
  | 107 => hint107
  | 108 => hint108
  | 109 => hint109
  | 110 => hint110
  | 111 => hint111
  | 112 => hint112
  | 113 => hint113
  | 114 => hint114
  | 115 => hint115
  | 116 => hint116
  | 117 => hint117
  | 118 => hint118
  | 119 => hint119
  | 120 => hint120
  | _ => { keep := fun _ => [], head := fun _ => [], box := fun _ => false }

end Go.PS
namespace Go.Proofs.YtaiiboplopljoaaGreat
open Go.PS
theorem tabsC : (List.range Tryz.prog.types.size).all (tabT Tryz.prog) = true := by kernel_rfl
theorem tabs : Tabs Tryz.prog := tabs_of tabsC
theorem mixedC : Tryz.prog.follows .mixedOrders = true := by kernel_rfl
theorem wfC : (List.range Tryz.prog.funcs.size).all (wfF Tryz.prog hints) = true := by kernel_rfl
theorem wf : WF Tryz.prog hints := wf_of (fun f h => List.all_eq_true.1 wfC f (List.mem_range.2 h)) mixedC
end Go.Proofs.YtaiiboplopljoaaGreat
end
