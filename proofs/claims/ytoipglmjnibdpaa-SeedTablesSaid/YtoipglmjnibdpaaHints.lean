/-
  The hints of the evaluator for this program, and that the program is as the evaluator wants it.
-/
import Derived.Test.YtoipglmjnibdpaaRows
import Derived.Test.YtoipglmjnibdpaaPsD
set_option linter.all false

namespace Go.PS
def keep2 : Nat → List Nat
  | 0 => []
  | _ => []
def head2 : Nat → List Nat
  | _ => []
def hint2 : Hint := { keep := keep2, head := head2, box := fun t => [].contains t, prim := none, own := none, dies := fun t => [].contains t }
def keep3 : Nat → List Nat
  | 0 => [0, 1]
  | 1 => [0, 1, 5]
  | 2 => [1, 5, 6]
  | 3 => [1, 5, 6, 7]
  | 4 => [1, 5, 6, 7, 23]
  | 5 => [1, 5, 6, 7]
  | 6 => [1, 5, 6, 7]
  | 7 => [1, 5, 6, 7, 56]
  | 8 => [4]
  | 9 => [5, 6, 8]
  | 10 => [5, 6, 8, 9]
  | 11 => [5, 6, 8, 9, 10]
  | 12 => [5, 6, 8, 9, 10, 60]
  | 13 => [5, 6, 8, 9, 10]
  | 14 => [5, 6, 8, 9, 10]
  | 15 => [5, 6, 8, 9, 10]
  | 16 => [5, 8, 9, 11]
  | 17 => [4]
  | _ => []
def head3 : Nat → List Nat
  | 4 => [1, 5, 6, 7]
  | 12 => [5, 6, 8, 9, 10]
  | _ => []
def free3 : Nat → List Nat
  | 7 => [4, 5, 6, 14, 15, 16, 17, 18, 19, 20, 21, 22, 23, 24]
  | _ => []
def pairs3 : Nat → List (Nat × Nat)
  | 7 => [(5, 6), (19, 20), (19, 21), (19, 22), (19, 23), (19, 24)]
  | _ => []
def hint3 : Hint := { keep := keep3, head := head3, box := fun t => [].contains t, prim := none, own := none, dies := fun t => [14, 20, 24, 26, 31, 37, 41, 61, 63, 65, 72, 73, 74, 78, 83, 84, 89, 94, 99, 100].contains t, free := free3, pairs := pairs3 }
def keep4 : Nat → List Nat
  | 0 => [0, 1]
  | 1 => [0, 1, 5]
  | 2 => [0, 1, 5, 22]
  | 3 => [4]
  | 4 => [0, 1, 5, 29]
  | 5 => [4]
  | 6 => [4]
  | _ => []
def head4 : Nat → List Nat
  | _ => []
def hint4 : Hint := { keep := keep4, head := head4, box := fun t => [].contains t, prim := none, own := none, dies := fun t => [11, 15, 19, 24, 25, 31, 35, 43, 44, 46, 48, 52, 59, 67, 70, 71, 72, 75].contains t }
def keep5 : Nat → List Nat
  | 0 => [0, 1, 2]
  | 1 => [0, 1, 2]
  | 2 => [0, 1, 2, 7]
  | 3 => [0, 1, 2, 7, 8]
  | 4 => [0, 1, 2, 7, 8, 52]
  | 5 => [6]
  | 6 => [0, 1, 2, 7, 8, 9, 10]
  | 7 => [0, 1, 2, 7, 8, 9, 10, 62]
  | 8 => [0, 1, 2, 7, 8, 9, 10]
  | 9 => [0, 1, 2, 7, 8, 9, 10, 74]
  | 10 => [0, 2, 7, 9, 10]
  | 11 => [6]
  | _ => []
def head5 : Nat → List Nat
  | _ => []
def free5 : Nat → List Nat
  | 1 => [0, 1, 2, 3, 4, 5, 6, 7, 8, 9, 10]
  | _ => []
def pairs5 : Nat → List (Nat × Nat)
  | 1 => []
  | _ => []
def hint5 : Hint := { keep := keep5, head := head5, box := fun t => [7, 9, 10].contains t, prim := none, own := none, dies := fun t => [12, 17, 31, 39, 45, 57, 69, 75, 76, 80, 86, 92, 97, 101, 103].contains t, free := free5, pairs := pairs5 }
def keep6 : Nat → List Nat
  | 0 => [0, 1]
  | 1 => [0, 1, 5]
  | 2 => [1, 5, 6]
  | 3 => [4]
  | _ => []
def head6 : Nat → List Nat
  | _ => []
def hint6 : Hint := { keep := keep6, head := head6, box := fun t => [5, 6].contains t, prim := none, own := none, dies := fun t => [11, 16, 22, 26, 31].contains t }
def keep7 : Nat → List Nat
  | 0 => [0, 1, 2]
  | 1 => [0, 1, 2]
  | 2 => [0, 1, 2, 7, 8]
  | 3 => [0, 1, 2, 7, 8, 27]
  | 4 => [6]
  | 5 => [0, 1, 2, 7, 9]
  | 6 => [0, 1, 2, 7, 9, 10]
  | 7 => [0, 1, 2, 7, 9, 10, 43]
  | 8 => [0, 1, 2, 7, 9, 10]
  | 9 => [0, 1, 2, 7, 9, 10, 58]
  | 10 => [0, 1, 2, 7, 9, 10, 78]
  | 11 => [6]
  | 12 => [0, 1, 2, 7, 9, 10]
  | 13 => [0, 1, 2, 7, 9, 10, 119]
  | 14 => [6]
  | 15 => [6]
  | _ => []
def head7 : Nat → List Nat
  | 7 => [0, 1, 2, 7, 9, 10]
  | _ => []
def free7 : Nat → List Nat
  | 9 => [0, 1, 2, 3, 4, 5, 6, 7, 8, 9, 10]
  | 12 => [0, 1, 2, 3, 4, 5, 6, 7, 8, 9, 10, 11, 12, 13, 14]
  | 13 => [0, 1, 2, 3, 4, 5, 6, 7, 8, 9, 10, 11, 12, 13, 14, 15, 16, 17, 18, 19, 20, 21, 22, 23]
  | _ => []
def pairs7 : Nat → List (Nat × Nat)
  | 9 => []
  | 12 => []
  | 13 => [(14, 15), (14, 16), (14, 17), (14, 18), (14, 19), (14, 20), (14, 21), (14, 22), (14, 23)]
  | _ => []
def soft7 : Nat → List (Nat × Option Nat)
  | 5 => [(9, none)]
  | 12 => [(9, none)]
  | _ => []
def hint7 : Hint := { keep := keep7, head := head7, box := fun t => [].contains t, prim := none, own := none, dies := fun t => [12, 16, 24, 29, 30, 31, 33, 40, 44, 65, 75, 79].contains t, free := free7, pairs := pairs7, soft := soft7 }
def keep8 : Nat → List Nat
  | 0 => [0, 1, 2, 3]
  | 1 => [0, 1, 2, 3]
  | 2 => [0, 1, 2, 3, 9, 10]
  | 3 => [0, 1, 2, 3, 9, 10, 11]
  | 4 => [0, 1, 2, 3, 9, 10, 11, 42]
  | 5 => [8]
  | 6 => [2, 3, 9, 11, 13]
  | 7 => [2, 3, 9, 11, 13, 14]
  | 8 => [2, 3, 9, 11, 13, 14, 58]
  | 9 => [2, 3, 9, 11, 13, 14]
  | 10 => [2, 3, 9, 11, 13, 14, 74]
  | 11 => [2, 3, 9, 11, 13, 14]
  | 12 => [2, 3, 9, 11, 13, 14, 15]
  | 13 => [2, 3, 9, 11, 13, 14, 104]
  | 14 => [8]
  | 15 => [8]
  | _ => []
def head8 : Nat → List Nat
  | 8 => [2, 3, 9, 11, 13, 14]
  | _ => []
def hint8 : Hint := { keep := keep8, head := head8, box := fun t => [].contains t, prim := none, own := none, dies := fun t => [17, 21, 27, 35, 39, 44, 45, 46, 48, 55, 59, 67, 75, 97, 98, 106, 115, 116, 119, 120].contains t }
def keep9 : Nat → List Nat
  | 0 => [0, 1, 2]
  | 1 => [0, 1, 2]
  | 2 => [0, 1, 2, 7, 8]
  | 3 => [0, 1, 2, 7, 8, 9]
  | 4 => [0, 1, 2, 7, 8, 9, 30]
  | 5 => [6]
  | 6 => [0, 1, 2, 7, 46]
  | 7 => [6]
  | 8 => [2, 7, 10]
  | 9 => [2, 7, 10, 11]
  | 10 => [2, 7, 10, 11, 57]
  | 11 => [2, 7, 10, 11]
  | 12 => [2, 7, 10, 11, 12, 13]
  | 13 => [2, 7, 10, 11, 12, 13, 78]
  | 14 => [6]
  | 15 => [2, 7, 10, 11, 12, 13]
  | 16 => [2, 7, 10, 11, 12, 13, 14]
  | 17 => [2, 7, 10, 11, 116]
  | 18 => [6]
  | 19 => [6]
  | _ => []
def head9 : Nat → List Nat
  | 10 => [2, 7, 10, 11]
  | _ => []
def free9 : Nat → List Nat
  | 12 => [0, 1, 2, 3, 4, 5, 6, 7, 8, 9, 10]
  | 13 => [0, 1, 2, 3, 4, 5, 6]
  | 17 => [0, 1, 2, 3, 4, 7, 8, 9, 10, 14, 15, 16, 17, 18, 23, 24, 25, 26, 27]
  | _ => []
def pairs9 : Nat → List (Nat × Nat)
  | 12 => []
  | 13 => [(3, 4), (3, 5), (3, 6)]
  | 17 => [(3, 4), (8, 9), (8, 10), (16, 17), (16, 18), (25, 26), (25, 27)]
  | _ => []
def soft9 : Nat → List (Nat × Option Nat)
  | 8 => [(10, some 3)]
  | _ => []
def hint9 : Hint := { keep := keep9, head := head9, box := fun t => [10].contains t, prim := none, own := none, dies := fun t => [16, 20, 32, 33, 36, 37, 38, 43, 44, 47, 48, 54, 58, 79, 87, 90, 92, 99, 108, 113].contains t, free := free9, pairs := pairs9, soft := soft9 }
def keep10 : Nat → List Nat
  | 0 => [0, 1, 2]
  | 1 => [0, 1, 2]
  | 2 => [0, 1, 2, 7, 8]
  | 3 => [0, 1, 2, 7, 8, 28]
  | 4 => [6]
  | 5 => [2, 7, 9]
  | 6 => [2, 7, 9, 40]
  | 7 => [6]
  | 8 => [2, 7, 9, 10]
  | 9 => [2, 7, 9, 10, 11]
  | 10 => [2, 7, 9, 10, 11, 48]
  | 11 => [2, 7, 9, 10, 11]
  | 12 => [2, 7, 9, 10, 11]
  | 13 => [2, 7, 9, 10, 11, 110]
  | 14 => [6]
  | 15 => [6]
  | _ => []
def head10 : Nat → List Nat
  | 10 => [2, 7, 9, 10, 11]
  | _ => []
def free10 : Nat → List Nat
  | 12 => [0, 1, 2, 3, 4, 5, 6, 7, 8, 9, 10]
  | 13 => [0, 1, 2, 3, 4, 5, 6, 7, 8, 9, 10, 11, 12, 13, 14, 15, 16, 20, 21, 22, 23, 24, 25, 26, 27, 28, 29, 30, 34, 35, 36, 37, 38, 39, 40, 41, 42, 43, 44]
  | _ => []
def pairs10 : Nat → List (Nat × Nat)
  | 12 => []
  | 13 => [(6, 7), (6, 8), (6, 9), (6, 10), (6, 11), (6, 12), (6, 15), (13, 15), (14, 16)]
  | _ => []
def hint10 : Hint := { keep := keep10, head := head10, box := fun t => [].contains t, prim := none, own := none, dies := fun t => [13, 17, 25, 30, 31, 32, 34, 45, 49, 82, 96, 112, 123, 124].contains t, free := free10, pairs := pairs10 }
def keep11 : Nat → List Nat
  | 0 => [0, 1]
  | 1 => [0, 1, 15]
  | 2 => [4]
  | 3 => [0, 1, 5]
  | 4 => [0, 1, 5, 24]
  | 5 => [4]
  | 6 => [0, 1, 5, 6, 7]
  | 7 => [4]
  | _ => []
def head11 : Nat → List Nat
  | _ => []
def hint11 : Hint := { keep := keep11, head := head11, box := fun t => [].contains t, prim := none, own := none, dies := fun t => [11, 26, 27, 30, 37, 38, 44, 45, 46, 49, 50, 53, 55].contains t }
def keep12 : Nat → List Nat
  | 0 => [0, 1]
  | 1 => [0, 1, 16]
  | 2 => [4]
  | 3 => [0, 1, 5, 6]
  | 4 => [5, 6, 7, 8]
  | 5 => [4]
  | _ => []
def head12 : Nat → List Nat
  | _ => []
def hint12 : Hint := { keep := keep12, head := head12, box := fun t => [].contains t, prim := none, own := none, dies := fun t => [12, 18, 24, 25, 26, 31, 32, 33, 36, 37, 38].contains t }
def keep13 : Nat → List Nat
  | 0 => [0]
  | 1 => [0, 3]
  | 2 => [0, 14]
  | 3 => [2]
  | 4 => [0, 4, 5]
  | 5 => [4, 5, 6, 7]
  | 6 => [2]
  | _ => []
def head13 : Nat → List Nat
  | _ => []
def hint13 : Hint := { keep := keep13, head := head13, box := fun t => [].contains t, prim := none, own := none, dies := fun t => [8, 9, 13, 16, 21, 22, 27, 28, 29, 32, 33, 34].contains t }
def keep14 : Nat → List Nat
  | 0 => [0]
  | 1 => [0, 3]
  | 2 => [0, 16]
  | 3 => [2]
  | 4 => [0, 4, 5]
  | 5 => [0, 4, 5, 6, 7]
  | 6 => [0, 4, 6, 7, 36]
  | 7 => [2]
  | 8 => [0, 4, 6, 38]
  | 9 => [2]
  | 10 => [0, 4, 8, 9]
  | 11 => [2]
  | _ => []
def head14 : Nat → List Nat
  | _ => []
def hint14 : Hint := { keep := keep14, head := head14, box := fun t => [].contains t, prim := none, own := none, dies := fun t => [10, 11, 15, 18, 23, 32, 33, 37, 40, 41, 46, 47, 50, 51, 55, 56, 58].contains t }
def keep15 : Nat → List Nat
  | 0 => [0]
  | 1 => [2]
  | _ => []
def head15 : Nat → List Nat
  | _ => []
def hint15 : Hint := { keep := keep15, head := head15, box := fun t => [].contains t, prim := none, own := none, dies := fun t => [3].contains t }
def keep16 : Nat → List Nat
  | 0 => [0]
  | 1 => [3]
  | 2 => [3, 7]
  | 3 => [3]
  | 4 => [2]
  | _ => []
def head16 : Nat → List Nat
  | _ => []
def hint16 : Hint := { keep := keep16, head := head16, box := fun t => [].contains t, prim := none, own := none, dies := fun t => [4, 8, 10].contains t }
def keep17 : Nat → List Nat
  | 0 => [0]
  | 1 => [2]
  | _ => []
def head17 : Nat → List Nat
  | _ => []
def hint17 : Hint := { keep := keep17, head := head17, box := fun t => [].contains t, prim := none, own := none, dies := fun t => [3].contains t }
def keep18 : Nat → List Nat
  | 0 => [0]
  | 1 => [0, 4]
  | 2 => [2]
  | 3 => [0]
  | 4 => [2]
  | _ => []
def head18 : Nat → List Nat
  | _ => []
def hint18 : Hint := { keep := keep18, head := head18, box := fun t => [].contains t, prim := none, own := none, dies := fun t => [15].contains t }
def keep19 : Nat → List Nat
  | 0 => [0, 1]
  | 1 => [0, 1, 10]
  | 2 => [0, 1]
  | 3 => [4]
  | _ => []
def head19 : Nat → List Nat
  | _ => []
def hint19 : Hint := { keep := keep19, head := head19, box := fun t => [].contains t, prim := none, own := none, dies := fun t => [7, 11, 14].contains t }
def keep20 : Nat → List Nat
  | 0 => [0, 1]
  | 1 => [0, 1, 10]
  | 2 => [4]
  | 3 => [4]
  | _ => []
def head20 : Nat → List Nat
  | _ => []
def hint20 : Hint := { keep := keep20, head := head20, box := fun t => [].contains t, prim := none, own := none, dies := fun t => [7, 11, 13].contains t }
def keep21 : Nat → List Nat
  | 0 => [0, 1]
  | 1 => [0, 1, 12]
  | 2 => [4]
  | 3 => [0, 5]
  | 4 => [0, 5, 17, 18]
  | 5 => [0, 5, 17, 18, 19]
  | 6 => [0, 5, 6, 17, 18]
  | 7 => [0, 5, 17, 18]
  | 8 => [0, 5, 17, 18]
  | 9 => [4]
  | _ => []
def head21 : Nat → List Nat
  | 5 => [0, 5, 17, 18]
  | _ => []
def hint21 : Hint := { keep := keep21, head := head21, box := fun t => [].contains t, prim := none, own := none, dies := fun t => [9, 13, 18, 22, 28].contains t }
def keep22 : Nat → List Nat
  | 0 => []
  | 1 => [1]
  | 2 => [2, 3]
  | 3 => [0]
  | _ => []
def head22 : Nat → List Nat
  | _ => []
def hint22 : Hint := { keep := keep22, head := head22, box := fun t => [].contains t, prim := none, own := none, dies := fun t => [7, 9, 11, 12, 15].contains t }
def keep23 : Nat → List Nat
  | 0 => [0, 1]
  | 1 => [0, 1, 18]
  | 2 => [4]
  | 3 => [4]
  | _ => []
def head23 : Nat → List Nat
  | _ => []
def hint23 : Hint := { keep := keep23, head := head23, box := fun t => [].contains t, prim := none, own := none, dies := fun t => [7, 11, 15, 19, 20].contains t }
def keep24 : Nat → List Nat
  | 0 => []
  | 1 => [1]
  | 2 => [1, 2]
  | 3 => [2, 3]
  | 4 => [0]
  | _ => []
def head24 : Nat → List Nat
  | _ => []
def free24 : Nat → List Nat
  | 4 => [12, 13, 14, 15, 16, 17]
  | _ => []
def pairs24 : Nat → List (Nat × Nat)
  | 4 => []
  | _ => []
def hint24 : Hint := { keep := keep24, head := head24, box := fun t => [1].contains t, prim := none, own := none, dies := fun t => [15, 19, 24, 25, 33, 34].contains t, free := free24, pairs := pairs24 }
def keep25 : Nat → List Nat
  | 0 => [0, 1]
  | 1 => [0, 1, 5]
  | 2 => [0, 1, 5, 11]
  | 3 => [0, 1, 5]
  | 4 => [4]
  | _ => []
def head25 : Nat → List Nat
  | 2 => [0, 1, 5]
  | _ => []
def hint25 : Hint := { keep := keep25, head := head25, box := fun t => [].contains t, prim := none, own := none, dies := fun t => [12, 14].contains t }
def keep26 : Nat → List Nat
  | 0 => [0, 1, 4]
  | 1 => [0, 1, 4, 10, 11]
  | 2 => [0, 1, 4, 10, 11, 12]
  | 3 => [0, 1, 4, 5, 10, 11]
  | 4 => [0, 1, 4, 5, 10, 11, 34]
  | 5 => [4]
  | 6 => [0, 1, 4, 10, 11]
  | 7 => [4]
  | _ => []
def head26 : Nat → List Nat
  | 2 => [0, 1, 4, 10, 11]
  | _ => []
def free26 : Nat → List Nat
  | 4 => [0, 1, 2, 5, 6, 7, 11, 12, 13, 14, 15, 16, 17, 18]
  | _ => []
def pairs26 : Nat → List (Nat × Nat)
  | 4 => []
  | _ => []
def hint26 : Hint := { keep := keep26, head := head26, box := fun t => [4].contains t, prim := none, own := none, dies := fun t => [11, 18, 24, 36, 39, 40].contains t, free := free26, pairs := pairs26 }
def keep27 : Nat → List Nat
  | 0 => [0, 1]
  | 1 => [0, 1, 5]
  | 2 => [0, 1, 5, 15]
  | 3 => [0, 1, 5]
  | 4 => [0, 1, 5, 38]
  | 5 => [4]
  | 6 => [4]
  | _ => []
def head27 : Nat → List Nat
  | 2 => [0, 1, 5]
  | _ => []
def free27 : Nat → List Nat
  | 4 => [0, 1, 2, 5, 6, 7, 11, 12, 13, 14, 15, 16, 17, 18]
  | _ => []
def pairs27 : Nat → List (Nat × Nat)
  | 4 => []
  | _ => []
def hint27 : Hint := { keep := keep27, head := head27, box := fun t => [].contains t, prim := none, own := none, dies := fun t => [10, 16, 22, 28, 39].contains t, free := free27, pairs := pairs27 }
def keep28 : Nat → List Nat
  | 0 => [0, 1]
  | 1 => [4]
  | _ => []
def head28 : Nat → List Nat
  | _ => []
def hint28 : Hint := { keep := keep28, head := head28, box := fun t => [].contains t, prim := none, own := none, dies := fun t => [5, 6].contains t }
def keep29 : Nat → List Nat
  | 0 => [0, 1]
  | 1 => [4]
  | _ => []
def head29 : Nat → List Nat
  | _ => []
def hint29 : Hint := { keep := keep29, head := head29, box := fun t => [].contains t, prim := none, own := none, dies := fun t => [10, 12, 13].contains t }
def keep30 : Nat → List Nat
  | 0 => []
  | 1 => [1, 2, 3]
  | 2 => [0]
  | _ => []
def head30 : Nat → List Nat
  | _ => []
def free30 : Nat → List Nat
  | 2 => [0, 1, 2, 3, 4, 5, 6, 7, 8, 9, 12, 13, 14, 15, 19, 20, 21, 22, 23, 27, 28, 29]
  | _ => []
def pairs30 : Nat → List (Nat × Nat)
  | 2 => [(6, 7), (6, 8), (6, 9)]
  | _ => []
def hint30 : Hint := { keep := keep30, head := head30, box := fun t => [1, 2, 3].contains t, prim := none, own := none, dies := fun t => [18, 25, 33].contains t, free := free30, pairs := pairs30 }
def keep31 : Nat → List Nat
  | 0 => [0, 1]
  | 1 => [0, 1, 10]
  | 2 => [4]
  | 3 => [0, 1, 5]
  | 4 => [0, 1, 5, 14]
  | 5 => [0, 1, 5]
  | 6 => [0, 1, 5, 25]
  | 7 => [4]
  | 8 => [4]
  | _ => []
def head31 : Nat → List Nat
  | 4 => [0, 1, 5]
  | _ => []
def free31 : Nat → List Nat
  | 6 => [0, 1, 2, 3, 4, 5, 6, 7]
  | _ => []
def pairs31 : Nat → List (Nat × Nat)
  | 6 => []
  | _ => []
def hint31 : Hint := { keep := keep31, head := head31, box := fun t => [].contains t, prim := none, own := none, dies := fun t => [15].contains t, free := free31, pairs := pairs31 }
def keep32 : Nat → List Nat
  | 0 => [0, 3]
  | 1 => [0, 5]
  | 2 => [0, 5, 10]
  | 3 => [0, 5]
  | 4 => [4]
  | _ => []
def head32 : Nat → List Nat
  | _ => []
def hint32 : Hint := { keep := keep32, head := head32, box := fun t => [].contains t, prim := none, own := none, dies := fun t => [13, 14].contains t }
def keep33 : Nat → List Nat
  | 0 => [0, 1]
  | 1 => [0, 1, 5]
  | 2 => [0, 1, 5, 6]
  | 3 => [0, 1, 5, 6, 11]
  | 4 => [0, 1, 5, 6]
  | 5 => [0, 1, 5, 6, 20]
  | 6 => [4]
  | 7 => [0, 1, 5, 6]
  | 8 => [4]
  | _ => []
def head33 : Nat → List Nat
  | 3 => [0, 1, 5, 6]
  | _ => []
def hint33 : Hint := { keep := keep33, head := head33, box := fun t => [].contains t, prim := none, own := none, dies := fun t => [12, 21, 22, 29].contains t }
def keep34 : Nat → List Nat
  | 0 => [0, 1, 4]
  | 1 => [0, 4, 5]
  | 2 => [0, 4, 5, 6]
  | 3 => [0, 4, 5, 6, 7, 8, 9, 10]
  | 4 => [0, 4, 5, 6, 7, 8, 9, 10, 11]
  | 5 => [0, 4, 5, 6, 7, 8, 9, 10, 11, 24, 25]
  | 6 => [0, 4, 5, 6, 7, 8, 9, 10, 11, 24, 25, 26]
  | 7 => [0, 4, 5, 6, 7, 8, 9, 10, 11, 12, 24, 25]
  | 8 => [0, 4, 5, 6, 7, 8, 9, 10, 11, 12, 24, 25, 30]
  | 9 => [0, 4, 5, 6, 7, 8, 9, 10, 11, 12, 24, 25]
  | 10 => [0, 4, 5, 6, 7, 8, 9, 10, 11, 12, 24, 25]
  | 11 => [0, 4, 5, 6, 7, 8, 9, 10, 11, 12, 24, 25, 51]
  | 12 => [0, 4, 5, 6, 8, 9, 10, 11, 12, 13, 24, 25]
  | 13 => [0, 4, 5, 6, 8, 9, 10, 11, 12, 13, 14, 15, 24, 25]
  | 14 => [0, 4, 5, 6, 8, 9, 10, 11, 12, 13, 14, 15, 24, 25]
  | 15 => [0, 4, 5, 6, 8, 9, 10, 11, 12, 13, 14, 15, 24, 25]
  | 16 => [0, 4, 5, 6, 8, 9, 10, 11, 12, 13, 14, 15, 24, 25]
  | 17 => [0, 4, 5, 6, 8, 9, 10, 11, 13, 14, 15, 24, 25]
  | 18 => [0, 4, 5, 6, 7, 8, 9, 10, 11, 14, 15, 24, 25]
  | 19 => [0, 4, 5, 6, 7, 8, 9, 10, 11, 15, 24, 25]
  | 20 => [0, 4, 5, 6, 7, 8, 9, 10, 11, 24, 25]
  | 21 => [0, 4, 5, 6, 7, 8, 9, 10, 11, 24, 25]
  | 22 => [4, 6]
  | 23 => [4]
  | _ => []
def head34 : Nat → List Nat
  | 6 => [0, 4, 5, 6, 7, 8, 9, 10, 11, 24, 25]
  | _ => []
def free34 : Nat → List Nat
  | 18 => [0, 1, 2, 3, 4, 5, 6, 7, 8, 9]
  | _ => []
def pairs34 : Nat → List (Nat × Nat)
  | 18 => []
  | _ => []
def hint34 : Hint := { keep := keep34, head := head34, box := fun t => [4, 6, 13].contains t, prim := none, own := none, dies := fun t => [16, 25, 42, 54, 91, 107, 111, 112, 117, 118, 125, 126, 128].contains t, free := free34, pairs := pairs34 }
def keep35 : Nat → List Nat
  | 0 => [1]
  | 1 => [1, 8]
  | 2 => [2]
  | 3 => [1, 3]
  | 4 => [1, 3, 4]
  | 5 => [1, 3, 4, 13]
  | 6 => [1, 3, 4]
  | 7 => [1, 3, 4, 5]
  | 8 => [1, 3, 4, 5, 17]
  | 9 => [1, 3, 4, 5]
  | 10 => [1, 3, 4, 5, 23]
  | 11 => [1, 3, 4, 5]
  | 12 => [2]
  | _ => []
def head35 : Nat → List Nat
  | 5 => [1, 3, 4]
  | 8 => [1, 3, 4, 5]
  | _ => []
def hint35 : Hint := { keep := keep35, head := head35, box := fun t => [1].contains t, prim := none, own := none, dies := fun t => [14, 18, 24, 30].contains t }
def keep36 : Nat → List Nat
  | 0 => [2, 3]
  | 1 => [2, 3, 5, 6]
  | 2 => [5, 6, 34]
  | 3 => [4]
  | 4 => [5, 6, 7]
  | 5 => [5, 6, 7, 38]
  | 6 => [5, 6, 7]
  | 7 => [5, 6, 7, 49]
  | 8 => [4]
  | 9 => [4]
  | _ => []
def head36 : Nat → List Nat
  | 5 => [5, 6, 7]
  | _ => []
def free36 : Nat → List Nat
  | 1 => [0, 1, 2]
  | 7 => [0, 1, 2, 3, 4, 5, 6, 7]
  | _ => []
def pairs36 : Nat → List (Nat × Nat)
  | 1 => [(1, 2)]
  | 7 => []
  | _ => []
def hint36 : Hint := { keep := keep36, head := head36, box := fun t => [2, 3].contains t, prim := none, own := none, dies := fun t => [17, 26, 39].contains t, free := free36, pairs := pairs36 }
def keep37 : Nat → List Nat
  | 0 => [0, 1]
  | 1 => [0, 1, 9]
  | 2 => [4, 5]
  | 3 => [0, 1, 13]
  | 4 => [4, 5]
  | 5 => [1, 6]
  | 6 => [6, 22, 23, 24]
  | 7 => [6, 22, 23, 24, 25]
  | 8 => [6, 7, 8, 22, 23, 24]
  | 9 => [6, 7, 8, 22, 23, 24, 34]
  | 10 => [4, 5]
  | 11 => [6, 22, 23, 24]
  | 12 => [6, 22, 23, 24]
  | 13 => [4, 5]
  | _ => []
def head37 : Nat → List Nat
  | 7 => [6, 22, 23, 24]
  | _ => []
def hint37 : Hint := { keep := keep37, head := head37, box := fun t => [].contains t, prim := none, own := none, dies := fun t => [17, 22, 24, 31, 36, 37, 43].contains t }
def keep38 : Nat → List Nat
  | 0 => []
  | 1 => [1, 2]
  | 2 => [0]
  | _ => []
def head38 : Nat → List Nat
  | _ => []
def hint38 : Hint := { keep := keep38, head := head38, box := fun t => [].contains t, prim := none, own := none, dies := fun t => [3, 8, 10, 14, 18, 23, 27, 32, 37, 38].contains t }
def keep39 : Nat → List Nat
  | 0 => [0, 1]
  | 1 => [1, 8]
  | 2 => [4]
  | 3 => [1, 11]
  | 4 => [4]
  | 5 => [1, 5]
  | 6 => [1, 5, 15]
  | 7 => [1, 5]
  | 8 => [1, 5, 29]
  | 9 => [4]
  | 10 => [4]
  | _ => []
def head39 : Nat → List Nat
  | 6 => [1, 5]
  | _ => []
def hint39 : Hint := { keep := keep39, head := head39, box := fun t => [].contains t, prim := none, own := none, dies := fun t => [6, 16, 23].contains t }
def keep40 : Nat → List Nat
  | 0 => [0, 1, 2]
  | 1 => [0, 2, 7, 8]
  | 2 => [0, 2, 7, 19]
  | 3 => [6]
  | 4 => [0, 2, 7, 25]
  | 5 => [0, 2]
  | 6 => [0, 2, 30]
  | 7 => [0, 2, 30, 31]
  | 8 => [0, 2, 9, 30]
  | 9 => [0, 2, 30]
  | 10 => [0, 2, 30]
  | 11 => [10]
  | 12 => [10, 54]
  | 13 => []
  | 14 => [6]
  | 15 => [10]
  | 16 => []
  | 17 => [6]
  | _ => []
def head40 : Nat → List Nat
  | 7 => [0, 2, 30]
  | _ => []
def free40 : Nat → List Nat
  | 12 => [0, 1, 2, 3, 4, 5, 6, 7]
  | _ => []
def pairs40 : Nat → List (Nat × Nat)
  | 12 => []
  | _ => []
def hint40 : Hint := { keep := keep40, head := head40, box := fun t => [].contains t, prim := none, own := none, dies := fun t => [11, 13, 18, 27, 30, 34, 40, 41, 55, 69].contains t, free := free40, pairs := pairs40 }
def keep41 : Nat → List Nat
  | 0 => [1, 2, 3, 4]
  | 1 => [1, 2, 3, 4, 9]
  | 2 => [1, 2, 3, 4, 9, 10]
  | 3 => [1, 2, 3, 4, 9, 10, 15]
  | 4 => [1, 2, 3, 4, 9, 10]
  | 5 => [1, 2, 3, 4, 9, 10, 49]
  | 6 => [1, 2, 3, 4, 9, 10]
  | 7 => [8]
  | _ => []
def head41 : Nat → List Nat
  | 3 => [1, 2, 3, 4, 9, 10]
  | _ => []
def hint41 : Hint := { keep := keep41, head := head41, box := fun t => [4].contains t, prim := none, own := none, dies := fun t => [16, 26, 36, 39, 50, 52].contains t }
def keep42 : Nat → List Nat
  | 0 => [0, 1]
  | 1 => [4]
  | _ => []
def head42 : Nat → List Nat
  | _ => []
def hint42 : Hint := { keep := keep42, head := head42, box := fun t => [].contains t, prim := none, own := none, dies := fun t => [5, 6].contains t }
def keep43 : Nat → List Nat
  | 0 => [0, 1]
  | 1 => [4]
  | _ => []
def head43 : Nat → List Nat
  | _ => []
def hint43 : Hint := { keep := keep43, head := head43, box := fun t => [].contains t, prim := none, own := none, dies := fun t => [5, 6].contains t }
def keep44 : Nat → List Nat
  | 0 => [0, 1, 2]
  | 1 => [0, 2, 7, 8]
  | 2 => [0, 2, 7, 16]
  | 3 => [6]
  | 4 => [0, 2, 19]
  | 5 => [6]
  | 6 => [6]
  | _ => []
def head44 : Nat → List Nat
  | _ => []
def free44 : Nat → List Nat
  | 6 => [0, 1, 2, 3, 4, 5, 6, 7, 8, 9, 10, 11, 12, 13, 14, 15]
  | _ => []
def pairs44 : Nat → List (Nat × Nat)
  | 6 => []
  | _ => []
def hint44 : Hint := { keep := keep44, head := head44, box := fun t => [].contains t, prim := none, own := none, dies := fun t => [9, 11, 17, 20, 26, 27, 42, 43].contains t, free := free44, pairs := pairs44 }
def keep45 : Nat → List Nat
  | 0 => [1, 2, 3]
  | 1 => [1, 2, 3, 11]
  | 2 => [6]
  | 3 => [6]
  | _ => []
def head45 : Nat → List Nat
  | _ => []
def free45 : Nat → List Nat
  | 3 => [0, 1, 2, 3, 4, 5, 6, 7, 8, 9, 10, 11, 12]
  | _ => []
def pairs45 : Nat → List (Nat × Nat)
  | 3 => [(0, 12), (1, 12), (2, 12), (3, 12), (4, 12), (5, 12)]
  | _ => []
def hint45 : Hint := { keep := keep45, head := head45, box := fun t => [3].contains t, prim := none, own := none, dies := fun t => [19, 23].contains t, free := free45, pairs := pairs45 }
def keep46 : Nat → List Nat
  | 0 => [1, 2, 3, 6]
  | 1 => [1, 2, 3, 6, 13]
  | 2 => [6, 7]
  | 3 => [1, 2, 3, 6, 8]
  | 4 => [1, 2, 3, 6, 8]
  | 5 => [3, 6, 8]
  | 6 => [6, 7]
  | _ => []
def head46 : Nat → List Nat
  | _ => []
def free46 : Nat → List Nat
  | 5 => [0, 1, 2, 3, 4, 5, 6, 7, 8, 9, 10, 11]
  | _ => []
def pairs46 : Nat → List (Nat × Nat)
  | 5 => [(3, 4), (3, 5), (3, 6), (3, 7), (3, 8), (3, 9), (3, 10), (3, 11)]
  | _ => []
def hint46 : Hint := { keep := keep46, head := head46, box := fun t => [3, 6].contains t, prim := none, own := none, dies := fun t => [29, 33, 40].contains t, free := free46, pairs := pairs46 }
def keep47 : Nat → List Nat
  | 0 => [0]
  | 1 => [0, 4]
  | 2 => [2]
  | 3 => [2]
  | _ => []
def head47 : Nat → List Nat
  | _ => []
def hint47 : Hint := { keep := keep47, head := head47, box := fun t => [].contains t, prim := none, own := none, dies := fun t => [5].contains t }
def keep48 : Nat → List Nat
  | 0 => [0]
  | 1 => [0, 5]
  | 2 => [2]
  | 3 => [3]
  | 4 => [2]
  | _ => []
def head48 : Nat → List Nat
  | _ => []
def hint48 : Hint := { keep := keep48, head := head48, box := fun t => [].contains t, prim := none, own := none, dies := fun t => [6].contains t }
def keep49 : Nat → List Nat
  | 0 => []
  | 1 => [1, 2]
  | 2 => [0]
  | _ => []
def head49 : Nat → List Nat
  | _ => []
def hint49 : Hint := { keep := keep49, head := head49, box := fun t => [].contains t, prim := none, own := none, dies := fun t => [3, 9, 10, 13, 14, 17].contains t }
def keep50 : Nat → List Nat
  | 0 => [0, 1]
  | 1 => [0, 1, 17]
  | 2 => [4]
  | 3 => [0, 1, 5]
  | 4 => [0, 1, 5, 6]
  | 5 => [0, 1, 5, 6, 32]
  | 6 => [0, 1, 5, 6]
  | 7 => [0, 1, 5, 6, 38]
  | 8 => [4]
  | 9 => [0, 1, 5, 6, 7]
  | 10 => [0, 1, 5, 6, 7, 60]
  | 11 => [0, 1, 5, 6, 7]
  | 12 => [0, 1, 5, 6, 7]
  | 13 => [0, 1, 5, 6, 7]
  | 14 => [0, 1, 5, 6]
  | _ => []
def head50 : Nat → List Nat
  | 5 => [0, 1, 5, 6]
  | 10 => [0, 1, 5, 6, 7]
  | 1000 => [0, 1, 5, 6]
  | _ => []
def free50 : Nat → List Nat
  | 5 => [0, 1, 2, 5, 6, 7, 8, 9, 10]
  | 10 => [0, 1, 2, 5, 6, 7, 8, 9, 10, 14, 15]
  | _ => []
def pairs50 : Nat → List (Nat × Nat)
  | 5 => []
  | 10 => []
  | _ => []
def hint50 : Hint := { keep := keep50, head := head50, box := fun t => [].contains t, prim := none, own := none, dies := fun t => [13, 24, 33, 39, 46, 55, 61, 73].contains t, free := free50, pairs := pairs50 }
def keep51 : Nat → List Nat
  | 0 => [0, 1]
  | 1 => [1, 6]
  | 2 => [1, 6, 7]
  | 3 => [6, 7, 8]
  | 4 => [6, 7, 8, 18]
  | 5 => [6, 7, 8, 9]
  | 6 => [6, 7, 8, 9, 10]
  | 7 => [6, 7, 8, 9, 10, 11]
  | 8 => [6, 7, 8, 9, 10, 11, 26]
  | 9 => [4, 5]
  | 10 => [6, 8, 9, 10, 11, 32]
  | 11 => [4, 5]
  | 12 => [6, 8, 9, 11, 40]
  | 13 => [4, 5]
  | 14 => [6, 7, 8]
  | 15 => [4, 5]
  | _ => []
def head51 : Nat → List Nat
  | 4 => [6, 7, 8]
  | _ => []
def hint51 : Hint := { keep := keep51, head := head51, box := fun t => [].contains t, prim := none, own := none, dies := fun t => [12, 14, 30, 35, 37, 45, 46, 55, 57, 60].contains t }
def keep52 : Nat → List Nat
  | 0 => [0, 1]
  | 1 => [0, 1, 5]
  | 2 => [0, 1, 5, 6]
  | 3 => [0, 1, 5, 6, 7]
  | 4 => [0, 1, 5, 6, 7, 12]
  | 5 => [0, 1, 5, 6, 7]
  | 6 => [0, 1, 5, 6, 7, 8]
  | 7 => [0, 1, 5, 6, 7, 8, 38]
  | 8 => [0, 1, 5, 7, 8]
  | 9 => [0, 1, 5, 6, 7, 8]
  | 10 => [0, 1, 5, 6, 7, 54]
  | 11 => [0, 1, 5, 6, 7]
  | 12 => [4]
  | _ => []
def head52 : Nat → List Nat
  | 4 => [0, 1, 5, 6, 7]
  | _ => []
def free52 : Nat → List Nat
  | 6 => [0, 1, 2, 5, 6, 7, 8, 9, 10]
  | 8 => [0, 1, 2, 3, 4, 5, 6, 7, 8, 9, 10, 11, 12, 13]
  | _ => []
def pairs52 : Nat → List (Nat × Nat)
  | 6 => []
  | 8 => [(0, 5), (5, 7), (5, 8), (5, 9), (5, 10), (5, 11), (5, 13)]
  | _ => []
def hint52 : Hint := { keep := keep52, head := head52, box := fun t => [].contains t, prim := none, own := none, dies := fun t => [13, 19, 30, 33, 39, 52, 54, 55, 62].contains t, free := free52, pairs := pairs52 }
def keep53 : Nat → List Nat
  | 0 => [0, 1]
  | 1 => [0, 1, 6]
  | 2 => [0, 1, 6, 7]
  | 3 => [0, 1, 6, 7, 8]
  | 4 => [0, 1, 6, 7, 8, 15]
  | 5 => [0, 1, 6, 7, 8, 20]
  | 6 => [4, 5]
  | 7 => [0, 1, 6, 7, 8, 9]
  | 8 => [0, 1, 6, 7, 8, 9, 10]
  | 9 => [0, 1, 6, 7, 8, 9, 10]
  | 10 => [0, 1, 6, 7, 8, 9, 10, 44]
  | 11 => [4, 5]
  | 12 => [0, 1, 6, 8, 9, 10, 51]
  | 13 => [4, 5]
  | 14 => [0, 1, 6, 8, 9, 10, 57]
  | 15 => [4, 5]
  | 16 => [0, 1, 6, 8, 9, 10]
  | 17 => [0, 1, 6, 7, 8, 10]
  | 18 => [0, 1, 6, 7, 8]
  | 19 => [4, 5]
  | _ => []
def head53 : Nat → List Nat
  | 4 => [0, 1, 6, 7, 8]
  | _ => []
def free53 : Nat → List Nat
  | 7 => [0, 1, 2, 3, 4, 5, 6, 7, 8, 9]
  | 16 => [0, 1, 2, 3, 4, 5, 6, 7, 8, 9, 10, 11, 12, 13, 14]
  | _ => []
def pairs53 : Nat → List (Nat × Nat)
  | 7 => []
  | 16 => []
  | _ => []
def hint53 : Hint := { keep := keep53, head := head53, box := fun t => [].contains t, prim := none, own := none, dies := fun t => [37, 47, 49, 68, 74, 77, 78, 80].contains t, free := free53, pairs := pairs53 }
def keep54 : Nat → List Nat
  | 0 => [0]
  | 1 => [0]
  | 2 => [0, 4]
  | 3 => [0, 4, 13]
  | 4 => [0, 4]
  | 5 => [0, 4, 22]
  | 6 => [2, 3]
  | 7 => [2, 3]
  | _ => []
def head54 : Nat → List Nat
  | 3 => [0, 4]
  | _ => []
def hint54 : Hint := { keep := keep54, head := head54, box := fun t => [].contains t, prim := none, own := none, dies := fun t => [6, 14, 23, 24].contains t }
def keep55 : Nat → List Nat
  | 0 => [0]
  | 1 => [0, 4]
  | 2 => [0, 4, 5]
  | 3 => [4, 5, 12, 13, 14]
  | 4 => [4, 5, 12, 13, 14, 15]
  | 5 => [4, 5, 6, 7, 12, 13, 14]
  | 6 => [4, 5, 6, 7, 12, 13, 14, 21]
  | 7 => [4, 5, 6, 7, 12, 13, 14, 23]
  | 8 => [2, 3]
  | 9 => [4, 5, 6, 7, 12, 13, 14, 23, 24]
  | 10 => [4, 5, 6, 7, 12, 13, 14, 26]
  | 11 => [4, 5, 6, 7, 12, 13, 14, 29]
  | 12 => [2, 3]
  | 13 => [4, 6, 8, 9, 12, 13, 14]
  | 14 => [4, 6, 8, 9, 12, 13, 14, 42]
  | 15 => [2, 3]
  | 16 => [4, 6, 12, 13, 14]
  | 17 => [4, 5, 12, 13, 14]
  | 18 => [4, 5, 12, 13, 14]
  | 19 => [2, 3]
  | _ => []
def head55 : Nat → List Nat
  | 4 => [4, 5, 12, 13, 14]
  | _ => []
def free55 : Nat → List Nat
  | 13 => [0, 1, 2, 3, 4, 5, 6, 9, 10, 11]
  | _ => []
def pairs55 : Nat → List (Nat × Nat)
  | 13 => []
  | _ => []
def hint55 : Hint := { keep := keep55, head := head55, box := fun t => [7].contains t, prim := none, own := none, dies := fun t => [12, 14, 30, 32, 43, 48, 53, 55].contains t, free := free55, pairs := pairs55 }
def keep56 : Nat → List Nat
  | 0 => [0]
  | 1 => [0, 4]
  | 2 => [0, 4, 5]
  | 3 => [0, 4, 5, 6]
  | 4 => [0, 4, 5, 6, 7]
  | 5 => [0, 4, 5, 6, 7, 15]
  | 6 => [0, 4, 5, 6, 7]
  | 7 => [0, 4, 5, 6, 7, 8]
  | 8 => [0, 4, 5, 6, 7, 8, 24]
  | 9 => [0, 4, 5, 6, 7, 8, 32]
  | 10 => [2, 3]
  | 11 => [0, 4, 6, 7, 8, 39]
  | 12 => [2, 3]
  | 13 => [0, 4, 6, 7, 8, 42]
  | 14 => [0, 4, 7, 8, 9, 10]
  | 15 => [0, 4, 7, 8, 9, 10, 51]
  | 16 => [2, 3]
  | 17 => [0, 4, 7, 8]
  | 18 => [0, 4, 7, 8]
  | 19 => [0, 4, 5, 7, 8]
  | 20 => [0, 4, 5, 6, 7, 8]
  | 21 => [0, 4, 5, 6, 7]
  | 22 => [2, 3]
  | _ => []
def head56 : Nat → List Nat
  | 5 => [0, 4, 5, 6, 7]
  | _ => []
def hint56 : Hint := { keep := keep56, head := head56, box := fun t => [8].contains t, prim := none, own := none, dies := fun t => [16, 28, 36, 37, 43, 44, 52, 53, 58, 62].contains t }
def keep57 : Nat → List Nat
  | 0 => [0]
  | 1 => [0, 4]
  | 2 => [0, 4, 5]
  | 3 => [0, 4, 5, 11, 12, 13]
  | 4 => [0, 4, 5, 11, 12, 13, 14]
  | 5 => [0, 4, 5, 6, 7, 11, 12, 13]
  | 6 => [0, 4, 5, 6, 7, 11, 12, 13, 18]
  | 7 => [0, 4, 5, 6, 7, 11, 12, 13, 22]
  | 8 => [2, 3]
  | 9 => [0, 4, 5, 6, 7, 11, 12, 13, 45]
  | 10 => [0, 4, 6, 7, 8, 11, 12, 13]
  | 11 => [0, 4, 6, 8, 11, 12, 13, 59]
  | 12 => [0, 4, 6, 11, 12, 13]
  | 13 => [0, 4, 5, 11, 12, 13]
  | 14 => [0, 4, 5, 11, 12, 13]
  | 15 => [2, 3]
  | _ => []
def head57 : Nat → List Nat
  | 4 => [0, 4, 5, 11, 12, 13]
  | _ => []
def free57 : Nat → List Nat
  | 9 => [3, 4, 5, 6, 7, 8, 9, 10, 11]
  | 10 => [0, 1, 2, 3, 4, 5, 6]
  | _ => []
def pairs57 : Nat → List (Nat × Nat)
  | 9 => []
  | 10 => []
  | _ => []
def hint57 : Hint := { keep := keep57, head := head57, box := fun t => [7].contains t, prim := none, own := none, dies := fun t => [13, 28, 40, 47, 64, 69, 71].contains t, free := free57, pairs := pairs57 }
def keep58 : Nat → List Nat
  | 0 => [0]
  | 1 => [0, 4]
  | 2 => [0, 4, 5]
  | 3 => [0, 4, 5, 6]
  | 4 => [0, 4, 5, 6, 7]
  | 5 => [0, 4, 5, 6, 7, 14]
  | 6 => [0, 4, 5, 6, 7]
  | 7 => [0, 4, 5, 6, 7, 8]
  | 8 => [0, 4, 5, 6, 7, 8, 23]
  | 9 => [0, 4, 5, 6, 7, 8, 26]
  | 10 => [2, 3]
  | 11 => [0, 4, 5, 6, 7, 8, 9]
  | 12 => [0, 4, 6, 7, 8, 9, 50]
  | 13 => [0, 4, 6, 7, 8, 9]
  | 14 => [0, 4, 7, 8, 9]
  | 15 => [0, 4, 5, 7, 8, 9]
  | 16 => [0, 4, 5, 6, 7, 8]
  | 17 => [0, 4, 5, 6, 7]
  | 18 => [2, 3]
  | _ => []
def head58 : Nat → List Nat
  | 5 => [0, 4, 5, 6, 7]
  | _ => []
def hint58 : Hint := { keep := keep58, head := head58, box := fun t => [8].contains t, prim := none, own := none, dies := fun t => [15, 29, 30, 37, 42, 52, 56, 57, 61].contains t }
def keep59 : Nat → List Nat
  | 0 => [0]
  | 1 => [0, 3]
  | 2 => [3, 6, 7, 8]
  | 3 => [3, 6, 7, 8, 9]
  | 4 => [3, 5, 6, 7, 8]
  | 5 => [3, 6, 7, 8]
  | 6 => [3, 6, 7, 8]
  | 7 => [2]
  | _ => []
def head59 : Nat → List Nat
  | 3 => [3, 6, 7, 8]
  | _ => []
def hint59 : Hint := { keep := keep59, head := head59, box := fun t => [5].contains t, prim := none, own := none, dies := fun t => [6, 8, 12, 18].contains t }
def keep60 : Nat → List Nat
  | 0 => [0, 1]
  | 1 => [0, 1, 5]
  | 2 => [0, 1, 5, 7]
  | 3 => [0, 1, 5, 10]
  | 4 => [0, 1, 5]
  | 5 => [0, 1, 5]
  | 6 => [0, 1, 5]
  | 7 => [4]
  | _ => []
def head60 : Nat → List Nat
  | 2 => [0, 1, 5]
  | _ => []
def hint60 : Hint := { keep := keep60, head := head60, box := fun t => [].contains t, prim := none, own := none, dies := fun t => [11, 15, 18, 20].contains t }
def keep61 : Nat → List Nat
  | 0 => [0, 2, 4]
  | 1 => [0, 2, 4, 7]
  | 2 => [2, 4, 7, 12, 13, 14]
  | 3 => [2, 4, 7, 12, 13, 14, 15]
  | 4 => [2, 4, 7, 9, 12, 13, 14]
  | 5 => [2, 4, 7, 9, 12, 13, 14, 28]
  | 6 => [2, 4, 7, 9, 10, 12, 13, 14]
  | 7 => [2, 4, 7, 9, 10, 11, 12, 13, 14]
  | 8 => [2, 4, 7, 9, 10, 11, 12, 13, 14, 43]
  | 9 => [2, 4, 7, 9, 10, 11, 12, 13, 14]
  | 10 => [2, 4, 7, 9, 12, 13, 14, 56]
  | 11 => [2, 4, 7, 12, 13, 14]
  | 12 => [2, 4, 7, 12, 13, 14]
  | 13 => [6]
  | _ => []
def head61 : Nat → List Nat
  | 3 => [2, 4, 7, 12, 13, 14]
  | 1000 => [0, 2, 4, 7]
  | _ => []
def free61 : Nat → List Nat
  | 6 => [0, 1, 2, 3, 4, 5, 6, 7, 8, 9]
  | _ => []
def pairs61 : Nat → List (Nat × Nat)
  | 6 => []
  | _ => []
def hint61 : Hint := { keep := keep61, head := head61, box := fun t => [4, 9].contains t, prim := none, own := none, dies := fun t => [12, 14, 21, 49, 50, 54, 57, 62].contains t, free := free61, pairs := pairs61 }
def keep62 : Nat → List Nat
  | 0 => [0, 1]
  | 1 => [0, 1, 5]
  | 2 => [1, 5, 8, 9, 10]
  | 3 => [1, 5, 8, 9, 10, 11]
  | 4 => [1, 5, 7, 8, 9, 10]
  | 5 => [1, 5, 7, 8, 9, 10, 22]
  | 6 => [1, 5, 8, 9, 10]
  | 7 => [1, 5, 8, 9, 10]
  | 8 => [4]
  | _ => []
def head62 : Nat → List Nat
  | 3 => [1, 5, 8, 9, 10]
  | _ => []
def hint62 : Hint := { keep := keep62, head := head62, box := fun t => [7].contains t, prim := none, own := none, dies := fun t => [8, 10, 18, 23, 31].contains t }
def keep63 : Nat → List Nat
  | 0 => [0, 1, 4]
  | 1 => [0, 1, 4, 8]
  | 2 => [4]
  | 3 => [4]
  | _ => []
def head63 : Nat → List Nat
  | _ => []
def hint63 : Hint := { keep := keep63, head := head63, box := fun t => [4].contains t, prim := none, own := none, dies := fun t => [9, 10].contains t }
def keep64 : Nat → List Nat
  | 0 => [0, 1]
  | 1 => [0, 1, 7, 8]
  | 2 => [0, 1, 7, 8, 9]
  | 3 => [0, 1, 5, 7, 8]
  | 4 => [0, 1, 5, 7, 8, 16]
  | 5 => [4]
  | 6 => [0, 1, 7, 8]
  | 7 => [4]
  | _ => []
def head64 : Nat → List Nat
  | 2 => [0, 1, 7, 8]
  | _ => []
def hint64 : Hint := { keep := keep64, head := head64, box := fun t => [].contains t, prim := none, own := none, dies := fun t => [8, 17].contains t }
def keep65 : Nat → List Nat
  | 0 => [1, 2]
  | 1 => [3]
  | _ => []
def head65 : Nat → List Nat
  | _ => []
def hint65 : Hint := { keep := keep65, head := head65, box := fun t => [2].contains t, prim := none, own := none, dies := fun t => [].contains t }
def keep66 : Nat → List Nat
  | 0 => [0]
  | 1 => [0, 4]
  | 2 => [2]
  | 3 => [2]
  | _ => []
def head66 : Nat → List Nat
  | _ => []
def hint66 : Hint := { keep := keep66, head := head66, box := fun t => [].contains t, prim := some (1, 6), own := none, dies := fun t => [6].contains t }
def keep67 : Nat → List Nat
  | 0 => [0, 1, 2, 3, 8]
  | 1 => [0, 8, 9]
  | 2 => [0, 8, 9, 10]
  | 3 => [0, 8, 9, 10]
  | 4 => [8, 9]
  | 5 => [8]
  | _ => []
def head67 : Nat → List Nat
  | _ => []
def free67 : Nat → List Nat
  | 1 => [0, 1, 2, 3, 4, 5, 6, 7, 8, 9, 10, 11, 12, 13]
  | 4 => [0, 1, 2, 3, 4, 5]
  | _ => []
def pairs67 : Nat → List (Nat × Nat)
  | 1 => [(0, 2), (2, 4), (0, 5), (3, 5), (2, 6), (5, 6), (2, 7), (5, 7), (2, 8), (5, 8), (2, 9), (5, 9), (2, 10), (5, 10), (0, 11), (3, 11), (6, 11), (7, 11), (8, 11), (9, 11), (2, 13), (5, 13), (11, 13)]
  | 4 => [(0, 5), (1, 5), (2, 5), (3, 5)]
  | _ => []
def hint67 : Hint := { keep := keep67, head := head67, box := fun t => [8, 9].contains t, prim := none, own := none, dies := fun t => [11, 18, 20, 34, 36].contains t, free := free67, pairs := pairs67 }
def keep68 : Nat → List Nat
  | 0 => [1]
  | 1 => [2]
  | _ => []
def head68 : Nat → List Nat
  | _ => []
def hint68 : Hint := { keep := keep68, head := head68, box := fun t => [1].contains t, prim := none, own := none, dies := fun t => [6, 11, 17, 23, 29].contains t }
def keep69 : Nat → List Nat
  | 0 => [1, 2, 3]
  | 1 => [1, 2, 3, 7]
  | 2 => [2, 3, 7, 21]
  | 3 => [2, 3, 7, 21, 22]
  | 4 => [6]
  | 5 => [2, 3, 7, 21, 41]
  | 6 => [3, 7, 8]
  | 7 => [3, 7, 8, 52]
  | 8 => [3, 7, 8]
  | 9 => [3, 7, 8, 9, 10]
  | 10 => [3, 7, 8, 108]
  | 11 => [6]
  | 12 => [6]
  | 13 => [2, 3, 7, 21, 109]
  | 14 => [6]
  | 15 => [2, 3, 7, 21, 129]
  | 16 => [3, 7, 11]
  | 17 => [3, 7, 11, 140]
  | 18 => [3, 7, 11]
  | 19 => [3, 7, 11, 12, 13]
  | 20 => [3, 7, 11, 170]
  | 21 => [6]
  | 22 => [6]
  | 23 => [2, 3, 7, 21, 171]
  | 24 => [2, 3, 14]
  | 25 => [2, 3, 14, 177]
  | 26 => [2, 3, 14]
  | 27 => [2, 3, 14, 187]
  | 28 => [6]
  | 29 => [6]
  | 30 => [2, 3, 7, 21, 193]
  | 31 => [2, 3, 15]
  | 32 => [2, 3, 15, 203]
  | 33 => [2, 3, 15]
  | 34 => [2, 3, 15, 212]
  | 35 => [6]
  | 36 => [6]
  | 37 => [2, 3, 7, 21, 241]
  | 38 => [6]
  | 39 => [2, 3, 7, 261]
  | 40 => [3, 7, 16]
  | 41 => [3, 7, 16, 272]
  | 42 => [3, 7, 16]
  | 43 => [3, 7, 16, 17, 18]
  | 44 => [3, 7, 16, 295]
  | 45 => [6]
  | 46 => [6]
  | 47 => [6]
  | _ => []
def head69 : Nat → List Nat
  | 7 => [3, 7, 8]
  | 17 => [3, 7, 11]
  | 25 => [2, 3, 14]
  | 32 => [2, 3, 15]
  | 41 => [3, 7, 16]
  | _ => []
def free69 : Nat → List Nat
  | 9 => [0, 1, 2, 3, 4, 5, 6, 7, 8, 9, 10, 11, 12]
  | 14 => [3, 4, 5, 6, 10, 11, 12, 13, 14, 15]
  | 19 => [0, 1, 2, 3, 4, 5, 6, 7, 8, 9, 10, 11, 12]
  | 35 => [0, 1, 2, 3, 4, 5, 9, 10, 11, 12, 13, 14, 15, 16, 17, 18, 19, 20, 21, 22, 23, 24, 25]
  | 38 => [3, 4, 5, 6, 10, 11, 12, 13, 14, 15]
  | 43 => [0, 1, 2, 3, 4, 5, 6, 7, 8, 9, 10, 11, 12]
  | 47 => [3, 4, 5, 6, 10, 11, 12, 13, 14, 15, 16, 17, 18]
  | _ => []
def pairs69 : Nat → List (Nat × Nat)
  | 9 => [(5, 12), (6, 12), (7, 12), (8, 12), (9, 12)]
  | 14 => []
  | 19 => [(5, 12), (6, 12), (7, 12), (8, 12), (9, 12)]
  | 35 => []
  | 38 => []
  | 43 => [(5, 12), (6, 12), (7, 12), (8, 12), (9, 12)]
  | 47 => [(10, 18), (11, 18), (12, 18), (13, 18), (14, 18), (15, 18)]
  | _ => []
def hint69 : Hint := { keep := keep69, head := head69, box := fun t => [3, 9, 10, 12, 13, 17, 18].contains t, prim := none, own := none, dies := fun t => [21, 26, 33, 36, 46, 53, 68, 73, 79, 86, 97, 113, 120, 124, 134, 141, 158, 178, 188, 200, 204, 221, 230, 245, 252, 256, 266, 273, 298, 305, 308, 313].contains t, free := free69, pairs := pairs69 }
def keep70 : Nat → List Nat
  | 0 => [1]
  | 1 => [1, 3]
  | 2 => [1, 3, 4]
  | 3 => [1, 3, 4, 22]
  | 4 => [1, 3, 4]
  | 5 => [1, 3, 4]
  | 6 => [1, 3]
  | 7 => [1, 3, 5]
  | 8 => [1, 3, 5, 57]
  | 9 => [1, 3, 5]
  | 10 => [1, 3, 5]
  | 11 => [1, 3]
  | 12 => [1, 3, 6]
  | 13 => [1, 3, 6, 92]
  | 14 => [1, 3, 6]
  | 15 => [1, 3, 6, 7]
  | 16 => [1, 3, 6]
  | 17 => [2]
  | _ => []
def head70 : Nat → List Nat
  | 3 => [1, 3, 4]
  | 8 => [1, 3, 5]
  | 13 => [1, 3, 6]
  | _ => []
def free70 : Nat → List Nat
  | 5 => [0, 1, 2, 3, 4, 5, 6, 7, 8, 9, 10, 11, 12, 13, 14, 15, 16, 17, 18, 19]
  | 10 => [0, 1, 2, 3, 4, 5, 6, 7, 8, 9, 10, 11, 12, 13, 14, 15, 16, 17, 18, 19]
  | _ => []
def pairs70 : Nat → List (Nat × Nat)
  | 5 => [(0, 19)]
  | 10 => [(0, 19)]
  | _ => []
def hint70 : Hint := { keep := keep70, head := head70, box := fun t => [1, 7].contains t, prim := none, own := none, dies := fun t => [23, 25, 46, 58, 60, 81, 93, 100, 133].contains t, free := free70, pairs := pairs70 }
def keep71 : Nat → List Nat
  | 0 => [0]
  | 1 => [2]
  | _ => []
def head71 : Nat → List Nat
  | _ => []
def hint71 : Hint := { keep := keep71, head := head71, box := fun t => [].contains t, prim := none, own := none, dies := fun t => [5, 6].contains t }
def keep72 : Nat → List Nat
  | 0 => [0]
  | 1 => [2]
  | _ => []
def head72 : Nat → List Nat
  | _ => []
def hint72 : Hint := { keep := keep72, head := head72, box := fun t => [].contains t, prim := none, own := none, dies := fun t => [5, 6].contains t }
def keep73 : Nat → List Nat
  | 0 => [0, 1, 2]
  | 1 => [0, 1, 31]
  | 2 => [6, 7]
  | 3 => [0, 8]
  | 4 => [6, 7]
  | _ => []
def head73 : Nat → List Nat
  | _ => []
def free73 : Nat → List Nat
  | 4 => [0, 1, 2, 3, 4, 5, 6, 7]
  | _ => []
def pairs73 : Nat → List (Nat × Nat)
  | 4 => []
  | _ => []
def hint73 : Hint := { keep := keep73, head := head73, box := fun t => [].contains t, prim := none, own := none, dies := fun t => [12, 16, 17, 24, 28, 32, 33, 42, 43].contains t, free := free73, pairs := pairs73 }
def keep74 : Nat → List Nat
  | 0 => [0, 1, 4]
  | 1 => [0, 1, 4, 18]
  | 2 => [4]
  | 3 => [4]
  | _ => []
def head74 : Nat → List Nat
  | _ => []
def hint74 : Hint := { keep := keep74, head := head74, box := fun t => [4].contains t, prim := none, own := none, dies := fun t => [7, 11, 20, 21].contains t }
def keep75 : Nat → List Nat
  | 0 => [1, 2, 3]
  | 1 => [6]
  | _ => []
def head75 : Nat → List Nat
  | _ => []
def free75 : Nat → List Nat
  | 1 => [3, 4, 5, 6, 18, 19, 20, 21, 22, 23]
  | _ => []
def pairs75 : Nat → List (Nat × Nat)
  | 1 => []
  | _ => []
def hint75 : Hint := { keep := keep75, head := head75, box := fun t => [3].contains t, prim := none, own := none, dies := fun t => [9, 10, 16, 20, 24, 25].contains t, free := free75, pairs := pairs75 }
def keep76 : Nat → List Nat
  | 0 => [0]
  | 1 => [0, 12]
  | 2 => [2]
  | 3 => [2]
  | _ => []
def head76 : Nat → List Nat
  | _ => []
def hint76 : Hint := { keep := keep76, head := head76, box := fun t => [].contains t, prim := none, own := none, dies := fun t => [5, 13].contains t }
def keep77 : Nat → List Nat
  | 0 => []
  | _ => []
def head77 : Nat → List Nat
  | _ => []
def hint77 : Hint := { keep := keep77, head := head77, box := fun t => [].contains t, prim := none, own := none, dies := fun t => [4, 7, 13].contains t }
def keep78 : Nat → List Nat
  | 0 => []
  | _ => []
def head78 : Nat → List Nat
  | _ => []
def hint78 : Hint := { keep := keep78, head := head78, box := fun t => [].contains t, prim := none, own := none, dies := fun t => [4, 7, 11].contains t }
def keep79 : Nat → List Nat
  | 0 => []
  | _ => []
def head79 : Nat → List Nat
  | _ => []
def hint79 : Hint := { keep := keep79, head := head79, box := fun t => [].contains t, prim := none, own := none, dies := fun t => [4, 5].contains t }
def keep80 : Nat → List Nat
  | 0 => [0]
  | 1 => [2]
  | _ => []
def head80 : Nat → List Nat
  | _ => []
def hint80 : Hint := { keep := keep80, head := head80, box := fun t => [].contains t, prim := none, own := none, dies := fun t => [3].contains t }
def keep81 : Nat → List Nat
  | 0 => [0]
  | 1 => [0, 12]
  | 2 => [2]
  | 3 => [2]
  | _ => []
def head81 : Nat → List Nat
  | _ => []
def free81 : Nat → List Nat
  | 3 => [0, 1, 2, 3, 4, 5, 6, 7, 8]
  | _ => []
def pairs81 : Nat → List (Nat × Nat)
  | 3 => []
  | _ => []
def hint81 : Hint := { keep := keep81, head := head81, box := fun t => [].contains t, prim := none, own := none, dies := fun t => [5, 18].contains t, free := free81, pairs := pairs81 }
def keep82 : Nat → List Nat
  | 0 => [0]
  | 1 => [3]
  | 2 => [3, 7]
  | 3 => [2]
  | 4 => [2]
  | _ => []
def head82 : Nat → List Nat
  | _ => []
def free82 : Nat → List Nat
  | 4 => [0, 1, 2, 3, 4, 5]
  | _ => []
def pairs82 : Nat → List (Nat × Nat)
  | 4 => []
  | _ => []
def hint82 : Hint := { keep := keep82, head := head82, box := fun t => [].contains t, prim := none, own := none, dies := fun t => [4, 11].contains t, free := free82, pairs := pairs82 }
def keep83 : Nat → List Nat
  | 0 => [0]
  | 1 => [3]
  | 2 => [3, 7]
  | 3 => [2]
  | 4 => [2]
  | _ => []
def head83 : Nat → List Nat
  | _ => []
def hint83 : Hint := { keep := keep83, head := head83, box := fun t => [].contains t, prim := none, own := none, dies := fun t => [4, 8].contains t }
def keep84 : Nat → List Nat
  | 0 => [0, 1]
  | 1 => [4]
  | _ => []
def head84 : Nat → List Nat
  | _ => []
def hint84 : Hint := { keep := keep84, head := head84, box := fun t => [].contains t, prim := none, own := none, dies := fun t => [5, 6].contains t }
def keep85 : Nat → List Nat
  | 0 => [0]
  | 1 => [0, 4]
  | 2 => [2]
  | 3 => [2]
  | _ => []
def head85 : Nat → List Nat
  | _ => []
def hint85 : Hint := { keep := keep85, head := head85, box := fun t => [].contains t, prim := none, own := none, dies := fun t => [5].contains t }
def keep86 : Nat → List Nat
  | 0 => [0]
  | 1 => [2]
  | _ => []
def head86 : Nat → List Nat
  | _ => []
def hint86 : Hint := { keep := keep86, head := head86, box := fun t => [].contains t, prim := none, own := none, dies := fun t => [6].contains t }
def keep87 : Nat → List Nat
  | 0 => [1]
  | 1 => [2]
  | _ => []
def head87 : Nat → List Nat
  | _ => []
def hint87 : Hint := { keep := keep87, head := head87, box := fun t => [1].contains t, prim := none, own := none, dies := fun t => [].contains t }
def keep88 : Nat → List Nat
  | 0 => [0]
  | 1 => [0, 3]
  | 2 => [0, 3, 4]
  | 3 => [0, 3, 4]
  | 4 => [0, 3, 4]
  | 5 => [0, 3, 4]
  | 6 => [0, 4]
  | 7 => [2]
  | 8 => [2]
  | _ => []
def head88 : Nat → List Nat
  | _ => []
def hint88 : Hint := { keep := keep88, head := head88, box := fun t => [].contains t, prim := none, own := none, dies := fun t => [10].contains t }
def keep89 : Nat → List Nat
  | 0 => [1]
  | 1 => [1, 23]
  | 2 => [2]
  | 3 => [1, 43]
  | 4 => [2]
  | 5 => [1, 81]
  | 6 => [2]
  | 7 => [2]
  | _ => []
def head89 : Nat → List Nat
  | _ => []
def free89 : Nat → List Nat
  | 3 => [10, 11, 12, 13, 14, 15, 16, 17]
  | _ => []
def pairs89 : Nat → List (Nat × Nat)
  | 3 => [(10, 16), (11, 16), (12, 16), (13, 16)]
  | _ => []
def hint89 : Hint := { keep := keep89, head := head89, box := fun t => [1].contains t, prim := none, own := none, dies := fun t => [6, 11, 16, 28, 33, 47, 52, 57, 62, 67, 72, 77, 85, 90, 95].contains t, free := free89, pairs := pairs89 }
def keep90 : Nat → List Nat
  | 0 => [0, 1, 2, 3]
  | 1 => [8]
  | _ => []
def head90 : Nat → List Nat
  | _ => []
def hint90 : Hint := { keep := keep90, head := head90, box := fun t => [].contains t, prim := none, own := none, dies := fun t => [10, 11, 15, 16].contains t }
def keep91 : Nat → List Nat
  | 0 => [2, 3]
  | 1 => [4]
  | _ => []
def head91 : Nat → List Nat
  | _ => []
def hint91 : Hint := { keep := keep91, head := head91, box := fun t => [2, 3].contains t, prim := none, own := none, dies := fun t => [8, 16, 21, 28].contains t }
def keep92 : Nat → List Nat
  | 0 => [2, 3]
  | 1 => [4]
  | _ => []
def head92 : Nat → List Nat
  | _ => []
def hint92 : Hint := { keep := keep92, head := head92, box := fun t => [2, 3].contains t, prim := none, own := none, dies := fun t => [7, 11, 16].contains t }
def keep93 : Nat → List Nat
  | 0 => [2, 3]
  | 1 => [4]
  | _ => []
def head93 : Nat → List Nat
  | _ => []
def hint93 : Hint := { keep := keep93, head := head93, box := fun t => [2, 3].contains t, prim := none, own := none, dies := fun t => [8, 16, 21, 28, 35].contains t }
def keep94 : Nat → List Nat
  | 0 => [1, 2]
  | 1 => [1, 2, 5]
  | 2 => [1, 2, 5, 6]
  | 3 => [1, 2, 5, 6, 15]
  | 4 => [1, 2, 5, 6]
  | 5 => [1, 2, 5, 6, 35]
  | 6 => [1, 2, 5, 6]
  | 7 => [4]
  | _ => []
def head94 : Nat → List Nat
  | 3 => [1, 2, 5, 6]
  | _ => []
def free94 : Nat → List Nat
  | 5 => [0, 1, 2, 3, 4, 5, 6, 9, 10, 11, 12, 13, 14]
  | 6 => [0, 1, 2, 3, 4, 5, 6, 7, 8, 9, 10, 11, 12, 13, 14]
  | _ => []
def pairs94 : Nat → List (Nat × Nat)
  | 5 => []
  | 6 => []
  | _ => []
def hint94 : Hint := { keep := keep94, head := head94, box := fun t => [2].contains t, prim := none, own := none, dies := fun t => [12, 16, 26, 36, 52].contains t, free := free94, pairs := pairs94 }
def keep95 : Nat → List Nat
  | 0 => [0, 1, 2]
  | 1 => [6]
  | _ => []
def head95 : Nat → List Nat
  | _ => []
def hint95 : Hint := { keep := keep95, head := head95, box := fun t => [].contains t, prim := none, own := none, dies := fun t => [7, 9, 11].contains t }
def keep96 : Nat → List Nat
  | 0 => [0, 1]
  | 1 => [0, 1, 12]
  | 2 => [4, 5]
  | 3 => [4, 5]
  | _ => []
def head96 : Nat → List Nat
  | _ => []
def free96 : Nat → List Nat
  | 3 => [0, 1, 2, 3, 4, 5, 6]
  | _ => []
def pairs96 : Nat → List (Nat × Nat)
  | 3 => []
  | _ => []
def hint96 : Hint := { keep := keep96, head := head96, box := fun t => [].contains t, prim := none, own := none, dies := fun t => [9, 16, 17].contains t, free := free96, pairs := pairs96 }
def keep97 : Nat → List Nat
  | 0 => []
  | 1 => [0, 1, 2, 15]
  | 2 => [0, 2, 26]
  | 3 => []
  | _ => []
def head97 : Nat → List Nat
  | _ => []
def hint97 : Hint := { keep := keep97, head := head97, box := fun t => [].contains t, prim := none, own := none, dies := fun t => [7, 11, 18, 27, 29].contains t }
def keep98 : Nat → List Nat
  | 0 => [0, 1]
  | 1 => [0, 1, 6]
  | 2 => [4]
  | 3 => [0, 1, 17]
  | 4 => []
  | 5 => [4]
  | 6 => [0, 1, 24]
  | 7 => []
  | 8 => [4]
  | 9 => [0, 1, 5]
  | 10 => [5]
  | 11 => [4]
  | _ => []
def head98 : Nat → List Nat
  | _ => []
def free98 : Nat → List Nat
  | 6 => [0, 1, 2, 3, 4, 5, 6, 7, 8, 9, 10]
  | 9 => [0, 1, 2, 3, 4, 5, 6, 7, 8, 9, 10, 11, 12, 13]
  | _ => []
def pairs98 : Nat → List (Nat × Nat)
  | 6 => []
  | 9 => []
  | _ => []
def hint98 : Hint := { keep := keep98, head := head98, box := fun t => [].contains t, prim := none, own := none, dies := fun t => [9, 20, 37, 56, 60, 64].contains t, free := free98, pairs := pairs98 }
def keep99 : Nat → List Nat
  | 0 => [0, 1]
  | 1 => [4]
  | _ => []
def head99 : Nat → List Nat
  | _ => []
def hint99 : Hint := { keep := keep99, head := head99, box := fun t => [].contains t, prim := none, own := none, dies := fun t => [5, 7].contains t }
def keep100 : Nat → List Nat
  | 0 => [0]
  | 1 => [2]
  | _ => []
def head100 : Nat → List Nat
  | _ => []
def hint100 : Hint := { keep := keep100, head := head100, box := fun t => [].contains t, prim := none, own := none, dies := fun t => [3].contains t }
def keep101 : Nat → List Nat
  | 0 => [0]
  | 1 => [2]
  | _ => []
def head101 : Nat → List Nat
  | _ => []
def hint101 : Hint := { keep := keep101, head := head101, box := fun t => [].contains t, prim := none, own := none, dies := fun t => [3].contains t }
def keep102 : Nat → List Nat
  | 0 => [0]
  | 1 => [0, 20]
  | 2 => [2]
  | 3 => [2]
  | _ => []
def head102 : Nat → List Nat
  | _ => []
def hint102 : Hint := { keep := keep102, head := head102, box := fun t => [].contains t, prim := none, own := none, dies := fun t => [5, 9, 13, 17, 21].contains t }
def keep103 : Nat → List Nat
  | 0 => [1]
  | 1 => [2]
  | _ => []
def head103 : Nat → List Nat
  | _ => []
def hint103 : Hint := { keep := keep103, head := head103, box := fun t => [1].contains t, prim := none, own := none, dies := fun t => [].contains t }
def keep104 : Nat → List Nat
  | 0 => [1, 2]
  | 1 => [4]
  | _ => []
def head104 : Nat → List Nat
  | _ => []
def hint104 : Hint := { keep := keep104, head := head104, box := fun t => [2].contains t, prim := none, own := none, dies := fun t => [8, 14, 15].contains t }
def keep105 : Nat → List Nat
  | 0 => [0, 1, 8]
  | 1 => []
  | _ => []
def head105 : Nat → List Nat
  | _ => []
def hint105 : Hint := { keep := keep105, head := head105, box := fun t => [].contains t, prim := none, own := none, dies := fun t => [9, 10].contains t }
def keep106 : Nat → List Nat
  | 0 => [0, 1]
  | 1 => [1, 5]
  | 2 => [1, 5, 10]
  | 3 => [5]
  | 4 => [4]
  | _ => []
def head106 : Nat → List Nat
  | _ => []
def hint106 : Hint := { keep := keep106, head := head106, box := fun t => [].contains t, prim := none, own := none, dies := fun t => [6, 11, 12, 14].contains t }
def hints : FuncId → Hint
  | 2 => hint2
  | 3 => hint3
  | 4 => hint4
  | 5 => hint5
  | 6 => hint6
  | 7 => hint7
  | 8 => hint8
  | 9 => hint9
  | 10 => hint10
  | 11 => hint11
  | 12 => hint12
  | 13 => hint13
  | 14 => hint14
  | 15 => hint15
  | 16 => hint16
  | 17 => hint17
  | 18 => hint18
  | 19 => hint19
  | 20 => hint20
  | 21 => hint21
  | 22 => hint22
  | 23 => hint23
  | 24 => hint24
  | 25 => hint25
  | 26 => hint26
  | 27 => hint27
  | 28 => hint28
  | 29 => hint29
  | 30 => hint30
  | 31 => hint31
  | 32 => hint32
  | 33 => hint33
  | 34 => hint34
  | 35 => hint35
  | 36 => hint36
  | 37 => hint37
  | 38 => hint38
  | 39 => hint39
  | 40 => hint40
  | 41 => hint41
  | 42 => hint42
  | 43 => hint43
  | 44 => hint44
  | 45 => hint45
  | 46 => hint46
  | 47 => hint47
  | 48 => hint48
  | 49 => hint49
  | 50 => hint50
  | 51 => hint51
  | 52 => hint52
  | 53 => hint53
  | 54 => hint54
  | 55 => hint55
  | 56 => hint56
  | 57 => hint57
  | 58 => hint58
  | 59 => hint59
  | 60 => hint60
  | 61 => hint61
  | 62 => hint62
  | 63 => hint63
  | 64 => hint64
  | 65 => hint65
  | 66 => hint66
  | 67 => hint67
  | 68 => hint68
  | 69 => hint69
  | 70 => hint70
  | 71 => hint71
  | 72 => hint72
  | 73 => hint73
  | 74 => hint74
  | 75 => hint75
  | 76 => hint76
  | 77 => hint77
  | 78 => hint78
  | 79 => hint79
  | 80 => hint80
  | 81 => hint81
  | 82 => hint82
  | 83 => hint83
  | 84 => hint84
  | 85 => hint85
  | 86 => hint86
  | 87 => hint87
  | 88 => hint88
  | 89 => hint89
  | 90 => hint90
  | 91 => hint91
  | 92 => hint92
  | 93 => hint93
  | 94 => hint94
  | 95 => hint95
  | 96 => hint96
  | 97 => hint97
  | 98 => hint98
  | 99 => hint99
  | 100 => hint100
  | 101 => hint101
  | 102 => hint102
  | 103 => hint103
  | 104 => hint104
  | 105 => hint105
  | 106 => hint106
  | _ => { keep := fun _ => [], head := fun _ => [], box := fun _ => false }

end Go.PS
namespace Go.Proofs.Ytoipglmjnibdpaa
open Go.PS
theorem tabsC : (List.range Try.prog.types.size).all (tabT Try.prog) = true := by kernel_rfl
theorem tabs : Tabs Try.prog := tabs_of tabsC
theorem mixedC : Try.prog.follows .mixedOrders = true := by kernel_rfl
theorem wfC : (List.range Try.prog.funcs.size).all (wfF Try.prog hints) = true := by kernel_rfl
theorem wf : WF Try.prog hints := wf_of (fun f h => List.all_eq_true.1 wfC f (List.mem_range.2 h)) mixedC
end Go.Proofs.Ytoipglmjnibdpaa
