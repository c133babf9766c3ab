/-
  Proves that campanilelaw37.BoundFrames returns true at every input and leaves its arguments as they were. No condition.
-/
import Derived.Test.YtoipglmjnibdpaaHints
import Derived.WalkKit
import Derived.ProofKit
import Derived.OpenShut
namespace Go.Proofs.Ytoipglmjnibdpaa.boundFrames
open Go.ChangeShapes Go.WideShapes Go.ChangeAt Go.RowKit
open Go Go.PS
set_option linter.unusedVariables false
set_option linter.unusedSimpArgs false
attribute [local simp] ev_seq ev_skip ev_ret ev_exit ev_region ev_cond ev_block ev_loop evalOps stepOp stepA wantedP PS.get opv setSlot setFr Kill.on viewSlot bin binI noOwn assign preShare canon keepRef takeRs takeOut take takeV ofConst takeL cellsOf storable out retag outCell
theorem f25 (n : Nat) (a b : Int) (hp : Heap) (h1 : ¬ b < 1) (h2 : ¬ 16 < b) (h3 : ¬ a < 0) (h4 : ¬ 5000 < a) (hn : 5000 < n) :
    evalCall Try.prog hints (n + 1) 25 [.int .i64 a, .int .i64 b] hp = some (.int .i64 (a / b + 2), hp, false) := by
  have hh : hints 25 = hint25 := rfl
  have h0 : b ≠ 0 := by omega
  have hq0 : 0 ≤ a / b := Int.ediv_nonneg (by omega) (by omega)
  have hq1 : a / b ≤ a := Int.ediv_le_self b (by omega)
  have hlt : a < (a / b + 1) * b := by
    have := Int.lt_ediv_add_one_mul_self a (b := b) (by omega); simpa using this
  have hle : (a / b) * b ≤ a := Int.ediv_mul_le a h0
  unfold evalCall
  rw [hh, Try.func25]
  simp [hint25, keep25, Try.f25]
  rw [iter_count (fun k => { fr := [(0, .int .i64 a), (1, .int .i64 b), (5, .int .i64 ((k : Int) + 1))], hp := hp, base := hp.length, dirty := false })
    (.exit 0, { fr := [(0, .int .i64 a), (1, .int .i64 b), (5, .int .i64 (a / b + 1)), (11, .bool false)], hp := hp, base := hp.length, dirty := false }) (a / b).toNat n _ (by simp) (by omega)]
  · simp [wrap_id (x := a / b + 2) (by omega), Int.add_assoc]
  · intro k hk
    have hk1 : ((k : Int) + 1) * b ≤ a := Int.le_trans (Int.mul_le_mul_of_nonneg_right (by omega) (by omega)) hle
    have hk0 : 0 ≤ ((k : Int) + 1) * b := Int.mul_nonneg (by omega) (by omega)
    have hc : ((k : Int) + 1) * b < a + 1 := by omega
    simp [loopBody, firstReg, head25, keep25, wrap_id (x := ((k : Int) + 1) * b) (by omega), wrap_id (x := a + 1) (by omega), wrap_id (x := (k : Int) + 2) (by omega), Int.add_assoc, hc]
  · have hb : (a / b + 1) * b ≤ 9223372036854775807 := by
      have : (a / b + 1) * b = a / b * b + b := by rw [Int.add_mul]; simp
      omega
    have e : ((a / b).toNat : Int) = a / b := by omega
    have hc : ¬ (a / b + 1) * b < a + 1 := by omega
    simp [loopBody, firstReg, head25, keep25, wrap_id (x := (a / b + 1) * b) (by omega), wrap_id (x := a + 1) (by omega), e, hc]
  · simp

def bf (a b : Int) : Int := if b < 1 ∨ 16 < b ∨ a < 0 ∨ 2147483647 < a then 0 else a / b + 2
theorem f23 (n : Nat) (a b : Int) (hp : Heap) :
    evalCall Try.prog hints (n + 1) 23 [.int .i64 a, .int .i64 b] hp = some (.int .i64 (bf a b), hp, false) := by
  have hh : hints 23 = hint23 := rfl
  unfold evalCall
  rw [hh, Try.func23]
  by_cases h1 : b < 1
  · simp [hint23, keep23, Try.f23, h1, bf]
  by_cases h2 : 16 < b
  · simp [hint23, keep23, Try.f23, h1, h2, bf]
  by_cases h3 : a < 0
  · simp [hint23, keep23, Try.f23, h1, h2, h3, bf]
  by_cases h4 : 2147483647 < a
  · simp [hint23, keep23, Try.f23, h1, h2, h3, h4, bf]
  have h0 : b ≠ 0 := by omega
  have hq0 : 0 ≤ a / b := Int.ediv_nonneg (by omega) (by omega)
  have hq1 : a / b ≤ a := Int.ediv_le_self b (by omega)
  have ht : a.tdiv b = a / b := Int.tdiv_eq_ediv_of_nonneg (by omega)
  simp [hint23, keep23, Try.f23, h1, h2, h3, h4, h0, bf, ht, wrap_id (x := a / b) (by omega), wrap_id (x := a / b + 2) (by omega)]

theorem live24 : evalCall Try.prog hints 5003 24 [] [] = some (.bool true, [], false) := by kernel_rfl

theorem bf_out {a b : Int} (h : b < 1 ∨ 16 < b ∨ a < 0 ∨ 2147483647 < a) : bf a b = 0 := if_pos h
theorem bf_in {a b : Int} (h1 : ¬ b < 1) (h2 : ¬ 16 < b) (h3 : ¬ a < 0) (h4 : ¬ 2147483647 < a) : bf a b = a / b + 2 := if_neg (by omega)

set_option maxHeartbeats 4000000 in
theorem f4 (a b : Int) : evalCall Try.prog hints 5004 4 [.int .i64 a, .int .i64 b] [] = some (.bool true, [], false) := by
  have hh : hints 4 = hint4 := rfl
  have o23 : (hints 23).own = none := rfl
  have o24 : (hints 24).own = none := rfl
  have o25 : (hints 25).own = none := rfl
  have e23 := f23 5002
  unfold evalCall
  rw [hh, Try.func4]
  by_cases h1 : b < 1
  · simp [hint4, keep4, Try.f4, callOp, takeArgs, o23, o24, o25, e23, live24, plain, plainA, plain1, h1, bf_out]
  by_cases h2 : 16 < b
  · simp [hint4, keep4, Try.f4, callOp, takeArgs, o23, o24, o25, e23, live24, plain, plainA, plain1, h1, h2, bf_out]
  by_cases h3 : a < 0
  · simp [hint4, keep4, Try.f4, callOp, takeArgs, o23, o24, o25, e23, live24, plain, plainA, plain1, h1, h2, h3, bf_out]
  by_cases h4 : 2147483647 < a
  · simp [hint4, keep4, Try.f4, callOp, takeArgs, o23, o24, o25, e23, live24, plain, plainA, plain1, h1, h2, h3, h4, bf_out]
  have h0 : b ≠ 0 := by omega
  have hq0 : 0 ≤ a / b := Int.ediv_nonneg (by omega) (by omega)
  have hq1 : a / b ≤ a := Int.ediv_le_self b (by omega)
  have hlt : a < (a / b + 1) * b := by
    have := Int.lt_ediv_add_one_mul_self a (b := b) (by omega); simpa using this
  have hle : (a / b) * b ≤ a := Int.ediv_mul_le a h0
  have hm : (a / b + 1) * b = a / b * b + b := by rw [Int.add_mul]; simp
  have hm0 : 0 ≤ a / b * b := Int.mul_nonneg (by omega) (by omega)
  have hb := bf_in h1 h2 h3 h4
  by_cases h5 : 5000 < a
  · have g1 : a / b + 2 - 2 = a / b := by omega
    have g2 : a / b + 2 - 1 = a / b + 1 := by omega
    have g3 : (2 : Int) ≤ a / b + 2 := by omega
    simp [hint4, keep4, Try.f4, callOp, takeArgs, o23, o24, o25, e23, live24, plain, plainA, plain1, h1, h2, h3, h4, h5, hb, g1, g2, g3, hle, hlt,
      wrap_id (x := a / b) (by omega), wrap_id (x := a / b + 1) (by omega), wrap_id (x := a / b * b) (by omega), wrap_id (x := (a / b + 1) * b) (by omega)]
  have e25 := f25 5002 a b [] h1 h2 h3 h5 (by omega)
  have w1 := wrap_id (x := a + 1) (by omega)
  have w2 := wrap_id (x := b + 1) (by omega)
  have hb1 : a / b + 2 ≤ bf (a + 1) b := by
    rw [bf_in h1 h2 (by omega) (by omega)]
    have : a / b ≤ (a + 1) / b := Int.ediv_le_ediv (by omega) (by omega)
    omega
  have hb2 : b ≠ 16 → bf a (b + 1) ≤ a / b + 2 := fun h => by
    rw [bf_in (by omega) (by omega) h3 h4]
    have : a / (b + 1) ≤ a / b := by
      apply Int.le_ediv_of_mul_le (by omega)
      have h5 : a / (b + 1) * (b + 1) ≤ a := Int.ediv_mul_le a (by omega)
      have h6 : 0 ≤ a / (b + 1) := Int.ediv_nonneg (by omega) (by omega)
      rw [Int.mul_add] at h5
      omega
    omega
  by_cases h6 : b = 16
  · subst h6
    simp [hint4, keep4, Try.f4, callOp, takeArgs, o23, o24, o25, e23, e25, live24, plain, plainA, plain1, h3, h4, h5, hb, hb1, w1, w2]
  have hb2 := hb2 h6
  have h7 : (b == 16) = false := by simp [h6]
  simp [hint4, keep4, Try.f4, callOp, takeArgs, o23, o24, o25, e23, e25, live24, plain, plainA, plain1, h1, h2, h3, h4, h5, hb, hb1, w1, w2, h6, h7, hb2]
theorem own : ownKnob Try.prog.godebug = none := by kernel_rfl

theorem walk (a0 : Int) (a1 : Int) (w : World) :
    Calls Try.prog 4 #[.int .i64 a0, .int .i64 a1] w fun e w' => e = .returned (.bool true) ∧ Kept w w' :=
  law_kept tabs wf prims (f4 a0 a1) rfl fun j u y h1 h2 => by
    match j, h1, h2 with
    | 0, h1, h2 => cases h1; cases h2; exact .int _ _
    | 1, h1, h2 => cases h1; cases h2; exact .int _ _
    | j + 2, h1, h2 => simp at h2

/-! ### THE ROW's STEP: WRITTEN OUT: LEAVE IT -/
set_option maxRecDepth 100000 in
theorem lifted (os : Os) (started : os.Started) (H : Type) (enc : TypeId × Value → H) :
    ReturnsInHanded {} Try.checked os 4 .any (Rows.boundFramesSpec.pre6 enc Try.prog Try.f4 Rows.boundFramesRow.domain false) (Rows.boundFramesSpec.post enc Try.prog Try.f4 false true false false) := by
  refine returnsInHanded_of_change (C := Try.checked) own started (by kernel_rfl) Try.func4
    (ChangeSpec.witness6 (enc := enc) (C := Try.checked) false ⟨#[], #[.int .i64 0, .int .i64 0], []⟩ 8 (by kernel_rfl) (by kernel_rfl) (by kernel_rfl) (by kernel_rfl)) ?_
  intro W base args ds gs before hval0 hW hcnd _
  have hval : ∀ (j : Nat) t v, Try.f4.params[j]? = some t → args[j]? = some v → Value.okWide Try.prog W .any base t v := hval0
  have hW' := hW
  obtain ⟨p, q, hA0, hV, rfl, hfz, hnd⟩ := hW
  have hA : DataW.TrodAll enc Try.prog W 0 (fun _ => true) true Try.f4.params.toList args.toList ds p := hA0
  rw [Try.params4] at hA hval
  obtain ⟨v0, vs0, d0, ds0, p0, q0, hargs, rfl, rfl, h0, r0⟩ := trodAll_cons hA
  obtain ⟨v1, vs1, d1, ds1, p1, q1, rfl, rfl, rfl, h1, r1⟩ := trodAll_cons r0
  obtain ⟨rfl, rfl, rfl⟩ := trodAll_nil r1
  obtain rfl : args = #[v0, v1] := by cases args; simp_all
  obtain ⟨rfl, rfl⟩ := trodVars_none hV
  obtain ⟨a0, rfl, rfl, rfl, w0⟩ := open_int Try.underlying3 (hval 0 3 v0 rfl rfl) h0
  obtain ⟨a1, rfl, rfl, rfl, w1⟩ := open_int Try.underlying3 (hval 1 3 v1 rfl rfl) h1
  clear hA0 hval0
  simp only [List.append_nil] at hW'
  refine (walk a0 a1 W).mono fun e W' ⟨he, hg⟩ => ?_
  subst he
  exact ⟨_, rfl, post_of_kept (pa := []) (pv := []) hW' (fun _ _ _ => (trodAll_cons_mk (shut_bool Try.underlying4 _) trodAll_mk0)) (fun sp _ => (trodAll_cons_mk (shut_int Try.underlying3 w0) (trodAll_cons_mk (shut_int Try.underlying3 w1) trodAll_mk0))) (fun _ _ => rfl) rfl
    hg (ok_one (by kernel_rfl) rfl (okWide_bool_mk Try.underlying4 _))⟩

theorem over : Rows.boundFramesRow.holds Try.pinned (OpenSpec.ofChange Rows.boundFramesSpec) :=
  OpenClaim.holds_of_wide 4 Try.f4 rfl rfl rfl rfl rfl rfl rfl ⟨rfl, rfl, rfl, rfl, rfl⟩ rfl rfl rfl rfl rfl (by kernel_rfl) Try.func4 (by kernel_rfl)
    (of_decide_eq_true (by kernel_rfl)) (by unfold Func.isWrapper; first | (rw [if_pos (by decide +kernel)]; kernel_rfl) | (rw [if_neg (by decide +kernel)]; exact ⟨rfl, rfl⟩))
    (fun os started H enc _ => lifted os started H enc)

/-- ████ THE STATEMENT ████ -/
theorem proved : Rows.BoundFramesSaid :=
  over
end Go.Proofs.Ytoipglmjnibdpaa.boundFrames
