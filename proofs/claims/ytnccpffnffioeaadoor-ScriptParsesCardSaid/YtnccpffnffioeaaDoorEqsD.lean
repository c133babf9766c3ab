/-
  What functions of this program compute, as equations about the evaluator. No condition but those stated.
-/
import Derived.Test.YtnccpffnffioeaaDoorEqsC

set_option linter.all false
section
namespace Go.PS
/-- The program's event. -/
def evE (ws : List (List UInt8)) : Evt × Bool :=
  if nth ws 0 = wPacket ∧ ws.length = 2 then (⟨3, 0, 0, (0, 0), (0, 0), (0, 0), (0, 0), (uh (nth ws 1)).1⟩, (uh (nth ws 1)).2)
  else if nth ws 0 = wByte ∧ ws.length = 3 then (⟨1, (nm (nth ws 1)).1, (nm (nth ws 2)).1, (0, 0), (0, 0), (0, 0), (0, 0), []⟩, (nm (nth ws 1)).2 && (nm (nth ws 2)).2)
  else if nth ws 0 = wTone ∧ ws.length = 10 then (⟨2, (nm (nth ws 1)).1, 0, ((fl (nth ws 2)).1, (fl (nth ws 3)).1), ((fl (nth ws 4)).1, (fl (nth ws 5)).1), ((fl (nth ws 6)).1, (fl (nth ws 7)).1), ((fl (nth ws 8)).1, (fl (nth ws 9)).1), []⟩,
    (nm (nth ws 1)).2 && ((fl (nth ws 2)).2 && (fl (nth ws 3)).2) && ((fl (nth ws 4)).2 && (fl (nth ws 5)).2) && ((fl (nth ws 6)).2 && (fl (nth ws 7)).2) && ((fl (nth ws 8)).2 && (fl (nth ws 9)).2))
  else (E0, false)
def cA (c : Int) (z0 z1 z2 z3 : Nat × Nat) (k : Nat) : List PV := [.int .u8 2, .int .i64 c, .int .i64 0, if 0 < k then cx z0 else cx (0, 0), if 1 < k then cx z1 else cx (0, 0), if 2 < k then cx z2 else cx (0, 0), if 3 < k then cx z3 else cx (0, 0), .str []]
def oA (o o0 o1 o2 o3 : Bool) (k : Nat) : Bool := match k with
  | 0 => o
  | 1 => o && o0
  | 2 => o && o0 && o1
  | 3 => o && o0 && o1 && o2
  | _ => o && o0 && o1 && o2 && o3
end Go.PS
namespace Go.Proofs.YtnccpffnffioeaaDoor
open Go Go.PS
set_option maxHeartbeats 4000000 in
theorem f23 (n : Nat) (ws : List (List UInt8)) (hp : Heap) (hm : ∀ w, w ∈ ws → w.length ≤ 3000) (hne : ws ≠ []) (hn : 5100 < n) : evalCall Tryd.prog hints (n + 10) 23 [.sl .sh ws.length (ws.map .str)] hp = some (.tup [.agg (evE ws).1.cells, .bool (evE ws).2], hp, false) := by
  rw [evalCall_at _ _ _ hh23 rfl Tryd.func23 rfl (Nat.le_of_ble_eq_true rfl) rfl]
  by_cases k2 : nth ws 0 = wPacket ∧ ws.length = 2
  · obtain ⟨w0, w1, rfl⟩ := twoW k2.2
    have h0 : w0 = wPacket := k2.1
    subst h0
    have e22 := f22 (n + 6) w1 hp (hm w1 (by simp)) (by omega)
    have he : evE [wPacket, w1] = (⟨3, 0, 0, (0, 0), (0, 0), (0, 0), (0, 0), (uh w1).1⟩, (uh w1).2) := rfl
    rw [he]
    generalize (uh w1).1 = dd at *
    generalize (uh w1).2 = bb at *
    unfold Evt.cells
    simp only [wPacket, List.map_cons, List.map_nil, List.length_cons, List.length_nil, c3i]
    simp [e22]
  · by_cases k1 : nth ws 0 = wByte ∧ ws.length = 3
    · obtain ⟨w0, w1, w2, rfl⟩ := threeW k1.2
      have h0 : w0 = wByte := k1.1
      subst h0
      have ea := f42 (n + 8) w1 hp (by omega)
      have eb := f42 (n + 8) w2 hp (by omega)
      have he : evE [wByte, w1, w2] = (⟨1, (nm w1).1, (nm w2).1, (0, 0), (0, 0), (0, 0), (0, 0), []⟩, (nm w1).2 && (nm w2).2) := rfl
      rw [he]
      generalize (nm w1).1 = x1 at *
      generalize (nm w1).2 = b1 at *
      generalize (nm w2).1 = x2 at *
      generalize (nm w2).2 = b2 at *
      unfold Evt.cells
      simp only [wByte, List.map_cons, List.map_nil, List.length_cons, List.length_nil, c1i]
      cases b1
      · simp [ea, eb]
      · simp [ea, eb]
    · by_cases k3 : nth ws 0 = wTone ∧ ws.length = 10
      · obtain ⟨w0, w1, w2, w3, w4, w5, w6, w7, w8, w9, rfl⟩ := ten k3.2
        have h0 : w0 = wTone := k3.1
        subst h0
        have e42 := f42 (n + 8) w1 hp (by omega)
        have g2 := f43 (n + 6) w2 hp (by omega)
        have g3 := f43 (n + 6) w3 hp (by omega)
        have g4 := f43 (n + 6) w4 hp (by omega)
        have g5 := f43 (n + 6) w5 hp (by omega)
        have g6 := f43 (n + 6) w6 hp (by omega)
        have g7 := f43 (n + 6) w7 hp (by omega)
        have g8 := f43 (n + 6) w8 hp (by omega)
        have g9 := f43 (n + 6) w9 hp (by omega)
        have he : evE [wTone, w1, w2, w3, w4, w5, w6, w7, w8, w9] = (⟨2, (nm w1).1, 0, ((fl w2).1, (fl w3).1), ((fl w4).1, (fl w5).1), ((fl w6).1, (fl w7).1), ((fl w8).1, (fl w9).1), []⟩,
          (nm w1).2 && ((fl w2).2 && (fl w3).2) && ((fl w4).2 && (fl w5).2) && ((fl w6).2 && (fl w7).2) && ((fl w8).2 && (fl w9).2)) := rfl
        rw [he]
        clear he hm hne k1 k2 k3
        generalize nm w1 = x1 at *
        generalize fl w2 = y2 at *
        generalize fl w3 = y3 at *
        generalize fl w4 = y4 at *
        generalize fl w5 = y5 at *
        generalize fl w6 = y6 at *
        generalize fl w7 = y7 at *
        generalize fl w8 = y8 at *
        generalize fl w9 = y9 at *
        obtain ⟨x1, o1⟩ := x1
        obtain ⟨y2, o2⟩ := y2
        obtain ⟨y3, o3⟩ := y3
        obtain ⟨y4, o4⟩ := y4
        obtain ⟨y5, o5⟩ := y5
        obtain ⟨y6, o6⟩ := y6
        obtain ⟨y7, o7⟩ := y7
        obtain ⟨y8, o8⟩ := y8
        obtain ⟨y9, o9⟩ := y9
        unfold Evt.cells
        simp only [wTone, List.map_cons, List.map_nil, List.length_cons, List.length_nil, c2i] at *
        simp [e42]
        rw [iter_count (fun k => { fr := [(0, .sl .sh 10 [.str [116, 111, 110, 101], .str w1, .str w2, .str w3, .str w4, .str w5, .str w6, .str w7, .str w8, .str w9]), (2, .box [.int .u8 0, .int .i64 0, .int .i64 0, cx (0, 0), cx (0, 0), cx (0, 0), cx (0, 0), .str []]), (4, .box (cA x1 (y2, y3) (y4, y5) (y6, y7) (y8, y9) k)), (5, .bool (oA o1 (o2 && o3) (o4 && o5) (o6 && o7) (o8 && o9) k)), (81, .int .i64 k)], hp := hp, base := hp.length, dirty := false })
          (.exit 1, { fr := [(0, .sl .sh 10 [.str [116, 111, 110, 101], .str w1, .str w2, .str w3, .str w4, .str w5, .str w6, .str w7, .str w8, .str w9]), (2, .box [.int .u8 0, .int .i64 0, .int .i64 0, cx (0, 0), cx (0, 0), cx (0, 0), cx (0, 0), .str []]), (4, .box (cA x1 (y2, y3) (y4, y5) (y6, y7) (y8, y9) 4)), (5, .bool (oA o1 (o2 && o3) (o4 && o5) (o6 && o7) (o8 && o9) 4)), (81, .int .i64 4), (82, .bool false)], hp := hp, base := hp.length, dirty := false }) 4]
        · simp [cA, oA]
        · simp [cA, oA]
        · omega
        · intro k hk
          rcases (show k = 0 ∨ k = 1 ∨ k = 2 ∨ k = 3 by omega) with rfl | rfl | rfl | rfl
          · simp only [oA]
            have a1 := wrap_id (x := (2 : Int)) (by omega)
            have a2 := wrap_id (x := (3 : Int)) (by omega)
            have a3 := wrap_id (x := (0 : Int)) (by omega)
            have a4 := wrap_id (x := (1 : Int)) (by omega)
            generalize o1 = oo at *
            cases oo
            · simp [cA, g2, g3, a1, a2, a3, a4]
            · cases o2
              · simp [cA, g2, g3, a1, a2, a3, a4]
              · simp [cA, g2, g3, a1, a2, a3, a4]
          · simp only [oA]
            have a1 := wrap_id (x := (2 : Int)) (by omega)
            have a2 := wrap_id (x := (4 : Int)) (by omega)
            have a3 := wrap_id (x := (5 : Int)) (by omega)
            generalize (o1 && (o2 && o3)) = oo at *
            cases oo
            · simp [cA, g4, g5, a1, a2, a3]
            · cases o4
              · simp [cA, g4, g5, a1, a2, a3]
              · simp [cA, g4, g5, a1, a2, a3]
          · simp only [oA]
            have a1 := wrap_id (x := (4 : Int)) (by omega)
            have a2 := wrap_id (x := (6 : Int)) (by omega)
            have a3 := wrap_id (x := (7 : Int)) (by omega)
            have a4 := wrap_id (x := (3 : Int)) (by omega)
            generalize (o1 && (o2 && o3) && (o4 && o5)) = oo at *
            cases oo
            · simp [cA, g6, g7, a1, a2, a3, a4]
            · cases o6
              · simp [cA, g6, g7, a1, a2, a3, a4]
              · simp [cA, g6, g7, a1, a2, a3, a4]
          · simp only [oA]
            have a1 := wrap_id (x := (6 : Int)) (by omega)
            have a2 := wrap_id (x := (8 : Int)) (by omega)
            have a3 := wrap_id (x := (9 : Int)) (by omega)
            have a4 := wrap_id (x := (4 : Int)) (by omega)
            generalize (o1 && (o2 && o3) && (o4 && o5) && (o6 && o7)) = oo at *
            cases oo
            · simp [cA, g8, g9, a1, a2, a3, a4]
            · cases o8
              · simp [cA, g8, g9, a1, a2, a3, a4]
              · simp [cA, g8, g9, a1, a2, a3, a4]
        · simp
        · simp
      · have he : evE ws = (E0, false) := by unfold evE; rw [if_neg k2, if_neg k1, if_neg k3]
        rw [he]
        unfold E0 Evt.cells
        obtain ⟨w0, r, rfl⟩ : ∃ w0 r, ws = w0 :: r := by
          cases ws with
          | nil => exact (hne rfl).elim
          | cons w0 r => exact ⟨w0, r, rfl⟩
        simp only [List.map_cons, List.length_cons, c0i]
        have f1 : w0 = wByte → r.length ≠ 2 := fun h h2 => k1 ⟨h, by simp [h2]⟩
        have f2 : w0 = wPacket → r.length ≠ 1 := fun h h2 => k2 ⟨h, by simp [h2]⟩
        have f3 : w0 = wTone → r.length ≠ 9 := fun h h2 => k3 ⟨h, by simp [h2]⟩
        clear k1 k2 k3 he hne hm
        by_cases c1 : w0 = wByte
        · have l3 : ((r.length : Int) + 1 == 3) = false := by
            have := f1 c1
            simp only [beq_eq_false_iff_ne, ne_eq]; omega
          subst c1
          simp only [wByte]
          simp [l3]
        · have c1' : (w0 == [98, 121, 116, 101]) = false := by simpa [wByte] using c1
          by_cases c2 : w0 = wPacket
          · have l3 : ((r.length : Int) + 1 == 2) = false := by
              have := f2 c2
              simp only [beq_eq_false_iff_ne, ne_eq]; omega
            subst c2
            simp only [wPacket]
            simp [l3]
          · have c2' : (w0 == [112, 97, 99, 107, 101, 116]) = false := by simpa [wPacket] using c2
            by_cases c3 : w0 = wTone
            · have l3 : ((r.length : Int) + 1 == 10) = false := by
                have := f3 c3
                simp only [beq_eq_false_iff_ne, ne_eq]; omega
              subst c3
              simp only [wTone]
              simp [l3]
            · have c3' : (w0 == [116, 111, 110, 101]) = false := by simpa [wTone] using c3
              simp [c1', c2', c3']
end Go.Proofs.YtnccpffnffioeaaDoor
end
