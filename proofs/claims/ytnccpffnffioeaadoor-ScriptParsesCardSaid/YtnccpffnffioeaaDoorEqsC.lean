/-
  What functions of this program compute, as equations about the evaluator. No condition but those stated.
-/
import Derived.Test.YtnccpffnffioeaaDoorEqsB

set_option linter.all false
section
namespace Go.PS
theorem mayE_0 : mayE E0 = false := by decide
theorem c0i : ((0 : Nat) : Int) = 0 := rfl
theorem c1i : ((1 : Nat) : Int) = 1 := rfl
theorem c2i : ((2 : Nat) : Int) = 2 := rfl
theorem c3i : ((3 : Nat) : Int) = 3 := rfl
theorem ten {ws : List (List UInt8)} (h : ws.length = 10) : ∃ w0 w1 w2 w3 w4 w5 w6 w7 w8 w9, ws = [w0, w1, w2, w3, w4, w5, w6, w7, w8, w9] := by
  match ws, h with
  | [w0, w1, w2, w3, w4, w5, w6, w7, w8, w9], _ => exact ⟨w0, w1, w2, w3, w4, w5, w6, w7, w8, w9, rfl⟩
theorem threeW {ws : List (List UInt8)} (h : ws.length = 3) : ∃ w0 w1 w2, ws = [w0, w1, w2] := by
  match ws, h with
  | [w0, w1, w2], _ => exact ⟨w0, w1, w2, rfl⟩
theorem twoW {ws : List (List UInt8)} (h : ws.length = 2) : ∃ w0 w1, ws = [w0, w1] := by
  match ws, h with
  | [w0, w1], _ => exact ⟨w0, w1, rfl⟩
end Go.PS
namespace Go.Proofs.YtnccpffnffioeaaDoor
open Go Go.PS
set_option maxHeartbeats 4000000 in
theorem f13 (n : Nat) (s : List UInt8) (hp : Heap) (hs : s.length ≤ 3000) (hn : 5100 < n) : evalCall Tryd.prog hints (n + 30) 13 [.str s] hp = some (.tup [.agg (readR s).1.cells, .bool (readR s).2], hp, false) := by
  have e11 := f11 (n + 28) s 32 hp hs (by omega)
  have e28 := fun e => f28 (n + 6) e hp
  have e29 := fun e h => f29 (n + 9) e hp h (by omega)
  rw [evalCall_at _ _ _ hh13 rfl Tryd.func13 rfl (Nat.le_of_ble_eq_true rfl) rfl]
  have hm : ∀ w, w ∈ splitL 32 s → w.length ≤ 3000 := fun w h => Nat.le_trans (splitL_mem 32 s w h) hs
  have hne := splitL_ne 32 s
  unfold readR
  rw [show (UInt8.toNat 32 : Int) = 32 from rfl] at e11
  generalize splitL 32 s = ws at *
  by_cases k1 : nth ws 0 = wByte ∧ ws.length = 3
  · obtain ⟨w0, w1, w2, rfl⟩ := threeW k1.2
    have h0 : w0 = wByte := k1.1
    subst h0
    have e26a := f26 (n + 28) w1 hp (hm w1 (by simp)) (by omega)
    have e26b := f26 (n + 28) w2 hp (hm w2 (by simp)) (by omega)
    have he : rdE [wByte, w1, w2] = ⟨1, numR w1, numR w2, (0, 0), (0, 0), (0, 0), (0, 0), []⟩ := rfl
    rw [he]
    have ok : mayE ⟨1, numR w1, numR w2, (0, 0), (0, 0), (0, 0), (0, 0), []⟩ = true → OkE ⟨1, numR w1, numR w2, (0, 0), (0, 0), (0, 0), (0, 0), []⟩ := fun h => ⟨h, by simp, by simp⟩
    generalize numR w1 = x1 at *
    generalize numR w2 = x2 at *
    have e28 := e28 ⟨1, x1, x2, (0, 0), (0, 0), (0, 0), (0, 0), []⟩
    have e29 := fun h => e29 ⟨1, x1, x2, (0, 0), (0, 0), (0, 0), (0, 0), []⟩ (ok h)
    generalize mayE ⟨1, x1, x2, (0, 0), (0, 0), (0, 0), (0, 0), []⟩ = mm at *
    generalize lineE ⟨1, x1, x2, (0, 0), (0, 0), (0, 0), (0, 0), []⟩ = ll at *
    unfold Evt.cells at *
    simp only [wByte, List.map_cons, List.map_nil, List.length_cons, List.length_nil, c1i] at e11 e28 e29 ⊢
    cases mm
    · simp [e11, e26a, e26b, e28]
    · have e29 := e29 rfl
      simp [e11, e26a, e26b, e28, e29]
  · by_cases k2 : nth ws 0 = wPacket ∧ ws.length = 2
    · obtain ⟨w0, w1, rfl⟩ := twoW k2.2
      have h0 : w0 = wPacket := k2.1
      subst h0
      have lw := hm w1 (by simp)
      have e24 := f24 (n + 26) w1 hp lw (by omega)
      have ld := dataL_len w1
      have he : rdE [wPacket, w1] = ⟨3, 0, 0, (0, 0), (0, 0), (0, 0), (0, 0), dataL w1⟩ := rfl
      rw [he]
      have ok : mayE ⟨3, 0, 0, (0, 0), (0, 0), (0, 0), (0, 0), dataL w1⟩ = true → OkE ⟨3, 0, 0, (0, 0), (0, 0), (0, 0), (0, 0), dataL w1⟩ := fun h => ⟨h, by show (dataL w1).length ≤ 3000; omega, by simp⟩
      generalize dataL w1 = dd at *
      have e28 := e28 ⟨3, 0, 0, (0, 0), (0, 0), (0, 0), (0, 0), dd⟩
      have e29 := fun h => e29 ⟨3, 0, 0, (0, 0), (0, 0), (0, 0), (0, 0), dd⟩ (ok h)
      generalize mayE ⟨3, 0, 0, (0, 0), (0, 0), (0, 0), (0, 0), dd⟩ = mm at *
      generalize lineE ⟨3, 0, 0, (0, 0), (0, 0), (0, 0), (0, 0), dd⟩ = ll at *
      unfold Evt.cells at *
      simp only [wPacket, List.map_cons, List.map_nil, List.length_cons, List.length_nil, c3i] at e11 e28 e29 ⊢
      cases mm
      · simp [e11, e24, e28]
      · have e29 := e29 rfl
        simp [e11, e24, e28, e29]
    · by_cases k3 : nth ws 0 = wTone ∧ ws.length = 10
      · obtain ⟨w0, w1, w2, w3, w4, w5, w6, w7, w8, w9, rfl⟩ := ten k3.2
        have h0 : w0 = wTone := k3.1
        subst h0
        have e26 := f26 (n + 28) w1 hp (hm w1 (by simp)) (by omega)
        have g2 := f27 (n + 26) w2 hp (hm w2 (by simp)) (by omega)
        have g3 := f27 (n + 26) w3 hp (hm w3 (by simp)) (by omega)
        have g4 := f27 (n + 26) w4 hp (hm w4 (by simp)) (by omega)
        have g5 := f27 (n + 26) w5 hp (hm w5 (by simp)) (by omega)
        have g6 := f27 (n + 26) w6 hp (hm w6 (by simp)) (by omega)
        have g7 := f27 (n + 26) w7 hp (hm w7 (by simp)) (by omega)
        have g8 := f27 (n + 26) w8 hp (hm w8 (by simp)) (by omega)
        have g9 := f27 (n + 26) w9 hp (hm w9 (by simp)) (by omega)
        have v2 := fltR_lt w2
        have v3 := fltR_lt w3
        have v4 := fltR_lt w4
        have v5 := fltR_lt w5
        have v6 := fltR_lt w6
        have v7 := fltR_lt w7
        have v8 := fltR_lt w8
        have v9 := fltR_lt w9
        have he : rdE [wTone, w1, w2, w3, w4, w5, w6, w7, w8, w9] = ⟨2, numR w1, 0, (fltR w2, fltR w3), (fltR w4, fltR w5), (fltR w6, fltR w7), (fltR w8, fltR w9), []⟩ := rfl
        rw [he]
        clear he hm
        generalize numR w1 = x1 at *
        generalize fltR w2 = y2 at *
        generalize fltR w3 = y3 at *
        generalize fltR w4 = y4 at *
        generalize fltR w5 = y5 at *
        generalize fltR w6 = y6 at *
        generalize fltR w7 = y7 at *
        generalize fltR w8 = y8 at *
        generalize fltR w9 = y9 at *
        have ok : mayE ⟨2, x1, 0, (y2, y3), (y4, y5), (y6, y7), (y8, y9), []⟩ = true → OkE ⟨2, x1, 0, (y2, y3), (y4, y5), (y6, y7), (y8, y9), []⟩ := fun h => ⟨h, by simp, ⟨v2, v3, v4, v5, v6, v7, v8, v9⟩⟩
        have e28 := e28 ⟨2, x1, 0, (y2, y3), (y4, y5), (y6, y7), (y8, y9), []⟩
        have e29 := fun h => e29 ⟨2, x1, 0, (y2, y3), (y4, y5), (y6, y7), (y8, y9), []⟩ (ok h)
        generalize mayE ⟨2, x1, 0, (y2, y3), (y4, y5), (y6, y7), (y8, y9), []⟩ = mm at *
        generalize lineE ⟨2, x1, 0, (y2, y3), (y4, y5), (y6, y7), (y8, y9), []⟩ = ll at *
        unfold Evt.cells at *
        simp only [wTone, List.map_cons, List.map_nil, List.length_cons, List.length_nil, c2i] at e11 e28 e29 ⊢
        have a0 := wrap_id (x := (1 : Int)) (by omega)
        have a1 := wrap_id (x := (2 : Int)) (by omega)
        have a2 := wrap_id (x := (3 : Int)) (by omega)
        have a3 := wrap_id (x := (4 : Int)) (by omega)
        have a4 := wrap_id (x := (5 : Int)) (by omega)
        have a5 := wrap_id (x := (6 : Int)) (by omega)
        have a6 := wrap_id (x := (7 : Int)) (by omega)
        have a7 := wrap_id (x := (8 : Int)) (by omega)
        have a8 := wrap_id (x := (9 : Int)) (by omega)
        have a9 := wrap_id (x := (0 : Int)) (by omega)
        obtain ⟨m, rfl⟩ : ∃ m, n = m + 10 := ⟨n - 10, by omega⟩
        cases mm
        · simp [iter_one, e11, e26, g2, g3, g4, g5, g6, g7, g8, g9, a0, a1, a2, a3, a4, a5, a6, a7, a8, a9, e28]
        · have e29 := e29 rfl
          simp [iter_one, e11, e26, g2, g3, g4, g5, g6, g7, g8, g9, a0, a1, a2, a3, a4, a5, a6, a7, a8, a9, e28, e29]
      · have he : rdE ws = E0 := by unfold rdE; rw [if_neg k1, if_neg k2, if_neg k3]
        have e28 := e28 E0
        rw [mayE_0] at e28
        rw [he, mayE_0]
        unfold E0 Evt.cells at *
        simp only [c0i] at e28
        obtain ⟨w0, r, rfl⟩ : ∃ w0 r, ws = w0 :: r := by
          cases ws with
          | nil => exact (hne rfl).elim
          | cons w0 r => exact ⟨w0, r, rfl⟩
        simp only [List.map_cons, List.length_cons] at e11
        have f1 : w0 = wByte → r.length ≠ 2 := fun h h2 => k1 ⟨h, by simp [h2]⟩
        have f2 : w0 = wPacket → r.length ≠ 1 := fun h h2 => k2 ⟨h, by simp [h2]⟩
        have f3 : w0 = wTone → r.length ≠ 9 := fun h h2 => k3 ⟨h, by simp [h2]⟩
        clear k1 k2 k3 he hne hm e29
        by_cases c1 : w0 = wByte
        · have l3 : ((r.length : Int) + 1 == 3) = false := by
            have := f1 c1
            simp only [beq_eq_false_iff_ne, ne_eq]; omega
          subst c1
          simp only [wByte] at e11
          simp [e11, l3, e28]
        · have c1' : (w0 == [98, 121, 116, 101]) = false := by simpa [wByte] using c1
          by_cases c2 : w0 = wPacket
          · have l3 : ((r.length : Int) + 1 == 2) = false := by
              have := f2 c2
              simp only [beq_eq_false_iff_ne, ne_eq]; omega
            subst c2
            simp only [wPacket] at e11
            simp [e11, l3, e28]
          · have c2' : (w0 == [112, 97, 99, 107, 101, 116]) = false := by simpa [wPacket] using c2
            by_cases c3 : w0 = wTone
            · have l3 : ((r.length : Int) + 1 == 10) = false := by
                have := f3 c3
                simp only [beq_eq_false_iff_ne, ne_eq]; omega
              subst c3
              simp only [wTone] at e11
              simp [e11, l3, e28]
            · have c3' : (w0 == [116, 111, 110, 101]) = false := by simpa [wTone] using c3
              simp [e11, c1', c2', c3', e28]
end Go.Proofs.YtnccpffnffioeaaDoor
end
