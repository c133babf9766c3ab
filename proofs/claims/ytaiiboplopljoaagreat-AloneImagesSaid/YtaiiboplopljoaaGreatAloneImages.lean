/-
  Proves that campanilelaw32.AloneImages returns true at every input and leaves its arguments as they were. No condition.
-/
import Derived.Test.YtaiiboplopljoaaGreatEqsZD
import Derived.WalkKit
import Derived.ProofKit
import Derived.OpenShut
namespace Go.Proofs.YtaiiboplopljoaaGreat.aloneImages
open Go.ChangeShapes Go.WideShapes Go.ChangeAt Go.RowKit
open Go Go.PS
set_option linter.all false
theorem own : ownKnob Tryz.prog.godebug = none := by kernel_rfl
theorem lay : laidOutB Tryz.prog = true := by kernel_rfl
theorem mapsR : mapsRowed Tryz.prog = true := by kernel_rfl
theorem full : ((List.range Tryz.prog.types.size).all fun t => match Tryz.prog.underlying t with | some (.slice e) => decide (0 < Tryz.prog.cellsOf e) | _ => true) = true := by kernel_rfl
theorem data : (Tryz.f3.params.toList.all fun t => decide (t < Tryz.prog.types.size) && dataT Tryz.prog 9 t) = true := by kernel_rfl
theorem law (y0 y1 y2 y3 y4 : PV) (h0 : TyA Tryz.prog 9 y0) (h1 : TyA Tryz.prog 22 y1) (h2 : TyA Tryz.prog 3 y2) (h3 : TyA Tryz.prog 3 y3) (h4 : TyA Tryz.prog 3 y4) : ∃ n hp d, evalCall Tryz.prog hints n 3 [y0, y1, y2, y3, y4] [] = some (.bool true, hp, d) := by
  obtain ⟨s, rfl, _⟩ := inv_str Tryz.underlying9 h0
  obtain ⟨l, rfl, _, _⟩ := inv_rows (f := fun s : List UInt8 => [PV.str s]) (Q := fun _ => True) Tryz.underlying22 (fun r hr => by obtain ⟨s, rfl, _⟩ := ty_str Tryz.underlying9 hr; exact ⟨s, rfl, trivial⟩) h1
  obtain ⟨o, rfl, _⟩ := inv_int Tryz.underlying3 h2
  obtain ⟨x, rfl, _⟩ := inv_int Tryz.underlying3 h3
  obtain ⟨y, rfl, _⟩ := inv_int Tryz.underlying3 h4
  obtain ⟨hp, d, h⟩ := f3all 0 s l o x y []
  have e : ∀ l : List (List UInt8), l.flatMap (fun s => [PV.str s]) = l.map PV.str := by
    intro l
    induction l with
    | nil => rfl
    | cons a l ih => rw [List.flatMap_cons, ih]; rfl
  rw [e]
  exact ⟨_, hp, d, h⟩

set_option maxRecDepth 100000 in
theorem lifted (os : Os) (started : os.Started) (H : Type) (enc : TypeId × Value → H) :
    ReturnsInHanded {} Tryz.checked os 3 .any (Rows.aloneImagesSpec.pre6 enc Tryz.prog Tryz.f3 Rows.aloneImagesRow.domain false) (Rows.aloneImagesSpec.post enc Tryz.prog Tryz.f3 false true false false) := by
  refine returnsInHanded_of_change (C := Tryz.checked) own started (by kernel_rfl) Tryz.func3
    (ChangeSpec.witness6 (enc := enc) (C := Tryz.checked) false ⟨#[], #[.string ⟨#[]⟩, .slice none 0 0, .int .i64 0, .int .i64 0, .int .i64 0], []⟩ 8 (by kernel_rfl) (by kernel_rfl) (by kernel_rfl) (by kernel_rfl)) ?_
  intro W base args ds gs before hval0 hW hcnd _
  have hval : ∀ (j : Nat) t v, Tryz.f3.params[j]? = some t → args[j]? = some v → Value.okWide Tryz.prog W .any base t v := hval0
  have hW' := hW
  obtain ⟨p, q, hA0, hV, rfl, hfz, hnd⟩ := hW
  have hA : DataW.TrodAll enc Tryz.prog W 0 (fun _ => true) true Tryz.f3.params.toList args.toList ds p := hA0
  have hD := data
  simp only [List.all_eq_true, Bool.and_eq_true, decide_eq_true_eq] at hD
  obtain ⟨ys, l1, l2, l3, l4⟩ := args_V lay (slices_full_of Tryz.prog full) (d := 9) (fun t ht => (hD t ht).2) (fun j t v h1 h2 => hval j t v (by simpa using h1) (by simpa using h2)) hA
  have hAg := fun W' (ho : Old W W') => args_again lay mapsR full ho (fun t ht => (hD t ht).1) hA
  rw [Tryz.params3] at hA l1 l3
  obtain ⟨v0, vs0, d0, ds0, p0, q0, hargs, rfl, e0, _, r0⟩ := trodAll_cons hA
  obtain ⟨v1, vs1, d1, ds1, p1, q1, rfl, rfl, e1, _, r1⟩ := trodAll_cons r0
  obtain ⟨v2, vs2, d2, ds2, p2, q2, rfl, rfl, e2, _, r2⟩ := trodAll_cons r1
  obtain ⟨v3, vs3, d3, ds3, p3, q3, rfl, rfl, e3, _, r3⟩ := trodAll_cons r2
  obtain ⟨v4, vs4, d4, ds4, p4, q4, rfl, rfl, e4, _, r4⟩ := trodAll_cons r3
  obtain ⟨rfl, rfl, rfl⟩ := trodAll_nil r4
  obtain ⟨rfl, rfl⟩ := trodVars_none hV
  obtain ⟨y0, y1, y2, y3, y4, rfl⟩ : ∃ y0 y1 y2 y3 y4, ys = [y0, y1, y2, y3, y4] := by
    match ys, l1 with
    | [a0, a1, a2, a3, a4], _ => exact ⟨a0, a1, a2, a3, a4, rfl⟩
  obtain ⟨n, hp, d, hl⟩ := law y0 y1 y2 y3 y4 (l3 0 _ _ rfl rfl) (l3 1 _ _ rfl rfl) (l3 2 _ _ rfl rfl) (l3 3 _ _ rfl rfl) (l3 4 _ _ rfl rfl)
  refine (law_old tabs wf prims hl (by rw [← Array.length_toList, hargs]; rfl) (fun j u y h1 h2 => l4 j u y (by simpa using h1) h2)).mono fun e W' ⟨he, hg⟩ => ?_
  subst he
  simp only [List.append_nil] at hW'
  exact ⟨_, rfl, post_of_kept (pa := p) (pv := []) hW' (fun _ _ _ => (trodAll_cons_mk (shut_bool Tryz.underlying4 _) trodAll_mk0)) (fun sp hs => hAg W' hg sp hs) (fun _ _ => rfl) (by simp)
    hg.kept (ok_one (by kernel_rfl) rfl (okWide_bool_mk Tryz.underlying4 _))⟩

theorem over : Rows.aloneImagesRow.holds Tryz.pinned (OpenSpec.ofChange Rows.aloneImagesSpec) :=
  OpenClaim.holds_of_wide 3 Tryz.f3 rfl rfl rfl rfl rfl rfl rfl ⟨rfl, rfl, rfl, rfl, rfl⟩ rfl rfl rfl rfl rfl (by kernel_rfl) Tryz.func3 (by kernel_rfl)
    (of_decide_eq_true (by kernel_rfl)) (by unfold Func.isWrapper; first | (rw [if_pos (by decide +kernel)]; kernel_rfl) | (rw [if_neg (by decide +kernel)]; exact ⟨rfl, rfl⟩))
    (fun os started H enc _ => lifted os started H enc)

/-- The statement. -/
theorem proved : Rows.AloneImagesSaid :=
  over
end Go.Proofs.YtaiiboplopljoaaGreat.aloneImages
