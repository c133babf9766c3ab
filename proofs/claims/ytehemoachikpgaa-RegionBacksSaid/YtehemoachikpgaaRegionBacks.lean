/-
  Proves that campanilelaw05.RegionBacks returns true at every input and leaves its arguments as they were. No condition.
-/
import Derived.Test.YtehemoachikpgaaRegionRowsEqs4
import Derived.WalkKit
import Derived.ProofKit
import Derived.OpenShut
namespace Go.Proofs.Ytehemoachikpgaa.regionBacks
open Go.ChangeShapes Go.WideShapes Go.ChangeAt Go.RowKit
open Go Go.PS
set_option linter.all false
theorem own : ownKnob Try.prog.godebug = none := by kernel_rfl
theorem lay : laidOutB Try.prog = true := by kernel_rfl
theorem mapsR : mapsRowed Try.prog = true := by kernel_rfl
theorem full : ((List.range Try.prog.types.size).all fun t => match Try.prog.underlying t with | some (.slice e) => decide (0 < Try.prog.cellsOf e) | _ => true) = true := by kernel_rfl
theorem data : (Try.f6.params.toList.all fun t => decide (t < Try.prog.types.size) && dataT Try.prog 9 t) = true := by kernel_rfl
theorem law (y0 y1 : PV) (h0 : TyA Try.prog 33 y0) (h1 : TyA Try.prog 3 y1) : ∃ n hp d, evalCall Try.prog hints n 6 [y0, y1] [] = some (.bool true, hp, d) := by
  obtain ⟨l, rfl, hl, _⟩ := inv_rows Try.underlying33 r3_of24 h0
  obtain ⟨o, rfl, _⟩ := inv_int Try.underlying3 h1
  obtain ⟨hp, d, h⟩ := of_map (f6 0 l o hl)
  exact ⟨0 + 200, hp, d, h⟩

set_option maxRecDepth 100000 in
theorem lifted (os : Os) (started : os.Started) (H : Type) (enc : TypeId × Value → H) :
    ReturnsInHanded {} Try.checked os 6 .any (Rows.regionBacksSpec.pre6 enc Try.prog Try.f6 Rows.regionBacksRow.domain false) (Rows.regionBacksSpec.post enc Try.prog Try.f6 false true false false) := by
  refine returnsInHanded_of_change (C := Try.checked) own started (by kernel_rfl) Try.func6
    (ChangeSpec.witness6 (enc := enc) (C := Try.checked) false ⟨#[], #[.slice none 0 0, .int .i64 0], []⟩ 8 (by kernel_rfl) (by kernel_rfl) (by kernel_rfl) (by kernel_rfl)) ?_
  intro W base args ds gs before hval0 hW hcnd _
  have hval : ∀ (j : Nat) t v, Try.f6.params[j]? = some t → args[j]? = some v → Value.okWide Try.prog W .any base t v := hval0
  have hW' := hW
  obtain ⟨p, q, hA0, hV, rfl, hfz, hnd⟩ := hW
  have hA : DataW.TrodAll enc Try.prog W 0 (fun _ => true) true Try.f6.params.toList args.toList ds p := hA0
  have hD := data
  simp only [List.all_eq_true, Bool.and_eq_true, decide_eq_true_eq] at hD
  obtain ⟨ys, l1, l2, l3, l4⟩ := args_V lay (slices_full_of Try.prog full) (d := 9) (fun t ht => (hD t ht).2) (fun j t v h1 h2 => hval j t v (by simpa using h1) (by simpa using h2)) hA
  have hAg := fun W' (ho : Old W W') => args_again lay mapsR full ho (fun t ht => (hD t ht).1) hA
  rw [Try.params6] at hA l1 l3
  obtain ⟨v0, vs0, d0, ds0, p0, q0, hargs, rfl, e0, _, r0⟩ := trodAll_cons hA
  obtain ⟨v1, vs1, d1, ds1, p1, q1, rfl, rfl, e1, _, r1⟩ := trodAll_cons r0
  obtain ⟨rfl, rfl, rfl⟩ := trodAll_nil r1
  obtain ⟨rfl, rfl⟩ := trodVars_none hV
  obtain ⟨y0, y1, rfl⟩ : ∃ y0 y1, ys = [y0, y1] := by
    match ys, l1 with
    | [a0, a1], _ => exact ⟨a0, a1, rfl⟩
  obtain ⟨n, hp, d, hl⟩ := law y0 y1 (l3 0 _ _ rfl rfl) (l3 1 _ _ rfl rfl)
  refine (law_old tabs wf prims hl (by rw [← Array.length_toList, hargs]; rfl) (fun j u y h1 h2 => l4 j u y (by simpa using h1) h2)).mono fun e W' ⟨he, hg⟩ => ?_
  subst he
  simp only [List.append_nil] at hW'
  exact ⟨_, rfl, post_of_kept (pa := p) (pv := []) hW' (fun _ _ _ => (trodAll_cons_mk (shut_bool Try.underlying4 _) trodAll_mk0)) (fun sp hs => hAg W' hg sp hs) (fun _ _ => rfl) (by simp)
    hg.kept (ok_one (by kernel_rfl) rfl (okWide_bool_mk Try.underlying4 _))⟩

theorem over : Rows.regionBacksRow.holds Try.pinned (OpenSpec.ofChange Rows.regionBacksSpec) :=
  OpenClaim.holds_of_wide 6 Try.f6 rfl rfl rfl rfl rfl rfl rfl ⟨rfl, rfl, rfl, rfl, rfl⟩ rfl rfl rfl rfl rfl (by kernel_rfl) Try.func6 (by kernel_rfl)
    (of_decide_eq_true (by kernel_rfl)) (by unfold Func.isWrapper; first | (rw [if_pos (by decide +kernel)]; kernel_rfl) | (rw [if_neg (by decide +kernel)]; exact ⟨rfl, rfl⟩))
    (fun os started H enc _ => lifted os started H enc)

/-- The statement. -/
theorem proved : Rows.RegionBacksSaid :=
  over
end Go.Proofs.Ytehemoachikpgaa.regionBacks
