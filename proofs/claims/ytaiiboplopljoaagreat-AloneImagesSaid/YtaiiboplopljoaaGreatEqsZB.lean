/-
  What functions of this program compute, as equations about the evaluator. No condition but those stated.
-/
import Derived.Test.YtaiiboplopljoaaGreatEqsX

set_option linter.all false
section
namespace Go.Proofs.YtaiiboplopljoaaGreat
open Go Go.PS
set_option maxRecDepth 100000 in
set_option maxHeartbeats 4000000 in
theorem f3Bt (n : Nat) (s : List UInt8) (l : List (List UInt8)) (o x y : Int) (hp : Heap) (hs : s.length ≤ 600) (hl : l.length ≤ 10) (c0 : (parseI s).1 = 0) (ck : (pk (parseI s).2 o).1 ≠ 0) (H1 : Heap) (e5 : evalCall Tryz.prog hints (n + 30000) 5 [.str s, .int .i64 o] hp = some (.tup [.str [], .int .i64 (pk (parseI s).2 o).1], H1, true)) : ∃ H d, evalCall Tryz.prog hints (n + 30001) 3 [.str s, .sl .sh l.length (l.map PV.str), .int .i64 o, .int .i64 x, .int .i64 y] hp = some (.bool true, H, d) := by
  have c1 : ¬ (600 : Int) < s.length := by omega
  have c2 : ¬ (10 : Int) < l.length := by omega
  have c1' : ¬ 600 < s.length := by omega
  have c2' : ¬ 10 < l.length := by omega
  have e9 := fun H => f9 (n + 29999) l o H (by omega)
  have e10 := fun H => f10 (n + 29999) l o H (by omega)
  rw [show n + 29999 + 1 = n + 30000 by omega] at e9 e10
  have e6 := fun H => f6 (n + 27990) s H (by omega)
  rw [show n + 27990 + 2010 = n + 30000 by omega] at e6
  obtain ⟨H4, e4⟩ := Classical.axiomOfChoice (fun H => live53 (n + 29800) H)
  rw [show n + 29800 + 200 = n + 30000 by omega] at e4
  rw [evalCall_at _ _ _ hh3 rfl Tryz.func3 rfl (Nat.le_of_ble_eq_true rfl) rfl]
  have hP := parseI_C s
  generalize parseI s = P at *
  obtain ⟨pe, t⟩ := P
  simp only at *
  have e7 := fun H => f7 (n + 29960) t o H (by omega)
  rw [show n + 29960 + 40 = n + 30000 by omega] at e7
  have e8 := fun H => f8p (n + 10000) t o H
  rw [show n + 10000 + 20000 = n + 30000 by omega] at e8
  obtain ⟨H11, e11⟩ := Classical.axiomOfChoice (fun H => f11w (n + 29998) t x y H hP (by omega))
  rw [show n + 29998 + 2 = n + 30000 by omega] at e11
  subst c0
  clear hs
  have kq := pk_zero ck
  generalize pk t o = Q at *
  obtain ⟨qe, qt⟩ := Q
  simp only at *
  subst kq
  have ck' : (qe == 0) = false := by simp [ck]
  clear e8
  obtain ⟨tf, tW, tS', tC⟩ := t
  simp only [Tab.cells] at *
  have rr := fun k h => flat_row Cl.len tC k h
  have lX := flat_len Cl.len tC
  have hst := wantD_step (fun c : Cl => c.id == x || c.irq == y) tC
  have hz := wantD_last (fun c : Cl => c.id == x || c.irq == y) tC
  have h0 := wantD_zero (fun c : Cl => c.id == x || c.irq == y) tC
  have hq : ∀ c : Cl, (fun c : Cl => c.id == x || c.irq == y) c = (c.id == x || c.irq == y) := fun _ => rfl
  generalize (fun c : Cl => c.id == x || c.irq == y) = q at *
  have w0 := wrap_id (x := (tC.length : Int) - 1) (by omega)
  generalize hFX : tC.flatMap Cl.cells = X at *
  generalize tW.flatMap R3.cells = XW at *
  generalize tS'.flatMap R3.cells = XS at *
  obtain ⟨H7, e7⟩ := Classical.axiomOfChoice e7
  simp only [Tab.zero, Tab.cells, List.flatMap_nil, List.length_nil] at e7
  simp [-getElem?_pos, List.getElem?_cons_zero, List.getElem?_cons_succ, c1, c2, c1', c2', e5, e6, e9, w0, e7, ck, ck']
  rw [iter_count (fun j => { fr := [(1, .sl .sh l.length (l.map PV.str)), (2, .int .i64 o), (3, .int .i64 x), (4, .int .i64 y), (11, .str []), (12, .int .i64 qe), (13, .box [.int .i64 tf, .sl .sh tW.length XW, .sl .sh tS'.length XS, .sl .sh tC.length X]), (14, .int .i64 qe), (16, .str []), (17, .sl (.mu 1) (if o < 1 then 0 else 1) (if o < 1 then [] else [.str (l[o.toNat - 1]?.getD [])])), (18, .int .i64 (wantD q tC (tC.length - j))), (19, .int .i64 ((tC.length : Int) - j - 1))], hp := H1, base := hp.length, dirty := true }) (.exit 0, { fr := [(1, .sl .sh l.length (l.map PV.str)), (2, .int .i64 o), (3, .int .i64 x), (4, .int .i64 y), (11, .str []), (12, .int .i64 qe), (13, .box [.int .i64 tf, .sl .sh tW.length XW, .sl .sh tS'.length XS, .sl .sh tC.length X]), (14, .int .i64 qe), (16, .str []), (17, .sl (.mu 1) (if o < 1 then 0 else 1) (if o < 1 then [] else [.str (l[o.toNat - 1]?.getD [])])), (18, .int .i64 (wantD q tC 0)), (19, .int .i64 (-1)), (64, .bool false)], hp := H1, base := hp.length, dirty := true }) tC.length]
  · clear e5 e6 e9 hst hz rr
    generalize 1 + idxI (idx q tC) = W at *
    by_cases co : o < 1
    · have co' : ¬ 1 ≤ o := by omega
      simp [e4, e10, e11, h0, co, co']
    · have co' : 1 ≤ o := by omega
      simp [e4, e10, e11, h0, co, co']
  · simp [hz]
  · omega
  · intro j hj
    obtain ⟨k, hk⟩ : ∃ k, tC.length = k + 1 + j := ⟨tC.length - j - 1, by omega⟩
    have hkl : k < tC.length := by omega
    have r := rr k hkl
    have s1 := hst k hkl
    have z1 : tC.length - j = k + 1 := by omega
    have z2 : tC.length - (j + 1) = k := by omega
    have z3 : (tC.length : Int) - j - 1 = k := by omega
    have z4 : (tC.length : Int) - ((j + 1 : Nat) : Int) - 1 = (k : Int) - 1 := by omega
    have w1 := wrap_id (x := (k : Int) + 1) (by omega)
    have w2 := wrap_id (x := (k : Int) - 1) (by omega)
    have z : k * 10 + 10 ≤ tC.length * 10 := by omega
    simp only [z1, z2, z3, z4]
    rw [s1]
    generalize wantD q tC (k + 1) = W at *
    clear hst hz h0 s1 hq
    generalize tC[k] = xx at *
    obtain ⟨x1, x2, x3, x4, x5, x6, x7, x8, x9, x10⟩ := xx
    simp only [Cl.cells] at *
    have h6 : X[k * 10 + 6]? = some (.int .i64 x7) := by
      have := congrArg (fun l : List PV => l[6]?) r
      simpa [List.getElem?_take, List.getElem?_drop] using this
    have h7 : X[k * 10 + 7]? = some (.int .i64 x8) := by
      have := congrArg (fun l : List PV => l[7]?) r
      simpa [List.getElem?_take, List.getElem?_drop] using this
    have k0 : (0 : Int) ≤ k := by omega
    have hkl' : (k : Int) < tC.length := by omega
    by_cases a1 : x7 = x
    · subst a1
      simp [-getElem?_pos, List.getElem?_cons_zero, List.getElem?_cons_succ, k0, hkl, hkl', lX, r, h6, h7, z, w1, w2]
    · have a1' : (x7 == x) = false := by simp [a1]
      by_cases a2 : x8 = y
      · subst a2
        simp [-getElem?_pos, List.getElem?_cons_zero, List.getElem?_cons_succ, k0, hkl, hkl', lX, r, h6, h7, z, w1, w2, a1, a1']
      · have a2' : (x8 == y) = false := by simp [a2]
        simp [-getElem?_pos, List.getElem?_cons_zero, List.getElem?_cons_succ, k0, hkl, hkl', lX, r, h6, h7, z, w1, w2, a1, a1', a2, a2']
  · simp
  · simp
end Go.Proofs.YtaiiboplopljoaaGreat
end
