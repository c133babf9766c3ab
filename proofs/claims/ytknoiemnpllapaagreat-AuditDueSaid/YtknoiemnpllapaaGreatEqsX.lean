/-
  What functions of this program compute, as equations about the evaluator. No condition but those stated.
-/
import Derived.Test.YtknoiemnpllapaaGreatFacts
import Derived.Test.YtknoiemnpllapaaGreatPsD
import Derived.Shelf.SlicesG.Cmp
import Derived.Test.YtknoiemnpllapaaGreatEqsW

set_option linter.all false
section
namespace Go.Proofs.YtknoiemnpllapaaGreat
open Go Go.PS Go.Shelf Go.Sort
def Tryz.sortRg_ren : Go.Shelf.Ren := ⟨fun | 6 => 122 | 15 => 185 | 14 => 184 | 28 => 225 | 29 => 226 | 20 => 217 | 21 => 218 | 22 => 219 | 23 => 220 | 24 => 221 | 25 => 222 | 26 => 223 | 27 => 224 | 46 => 264 | 47 => 265 | 48 => 266 | 49 => 267 | 50 => 268 | 57 => 292 | n => n, fun | 22 => 73 | 24 => 123 | 25 => 240 | 3 => 3 | 39 => 324 | 0 => 0 | 53 => 374 | 55 => 376 | 4 => 4 | 46 => 368 | 45 => 367 | 50 => 242 | 5 => 5 | 9 => 9 | 66 => 404 | 70 => 408 | 76 => 424 | 77 => 85 | n => n, fun | n => n⟩
theorem Tryz.sortRg : Go.Proofs.SlLaysF0.n6 Tryz.prog Tryz.sortRg_ren := {
  mixed := by kernel_rfl
  f6 := ⟨Tryz.f122.name, by decide, Tryz.func122.trans (congrArg some (by kernel_rfl))⟩
  f14 := ⟨Tryz.f184.name, by decide, Tryz.func184.trans (congrArg some (by kernel_rfl))⟩
  f15 := Tryz.func185.trans (congrArg some (by kernel_rfl))
  f20 := ⟨Tryz.f217.name, by decide, Tryz.func217.trans (congrArg some (by kernel_rfl))⟩
  f21 := ⟨Tryz.f218.name, by decide, Tryz.func218.trans (congrArg some (by kernel_rfl))⟩
  f22 := ⟨Tryz.f219.name, by decide, Tryz.func219.trans (congrArg some (by kernel_rfl))⟩
  f23 := ⟨Tryz.f220.name, by decide, Tryz.func220.trans (congrArg some (by kernel_rfl))⟩
  f24 := ⟨Tryz.f221.name, by decide, Tryz.func221.trans (congrArg some (by kernel_rfl))⟩
  f25 := ⟨Tryz.f222.name, by decide, Tryz.func222.trans (congrArg some (by kernel_rfl))⟩
  f26 := ⟨Tryz.f223.name, by decide, Tryz.func223.trans (congrArg some (by kernel_rfl))⟩
  f27 := ⟨Tryz.f224.name, by decide, Tryz.func224.trans (congrArg some (by kernel_rfl))⟩
  f28 := Tryz.func225.trans (congrArg some (by kernel_rfl))
  f29 := Tryz.func226.trans (congrArg some (by kernel_rfl))
  f46 := ⟨Tryz.f264.name, by decide, Tryz.func264.trans (congrArg some (by kernel_rfl))⟩
  f47 := Tryz.func265.trans (congrArg some (by kernel_rfl))
  f48 := Tryz.func266.trans (congrArg some (by kernel_rfl))
  f49 := ⟨Tryz.f267.name, by decide, Tryz.func267.trans (congrArg some (by kernel_rfl))⟩
  f50 := ⟨Tryz.f268.name, by decide, Tryz.func268.trans (congrArg some (by kernel_rfl))⟩
  f57 := ⟨Tryz.f292.name, by decide, Tryz.func292.trans (congrArg some (by kernel_rfl))⟩
  t0 := Tryz.underlying0
  a0 := Tryz.isAgg0
  z0 := Tryz.sizeOf0
  v0 := Tryz.zeroValue0
  t3 := Tryz.underlying3
  a3 := Tryz.isAgg3
  z3 := Tryz.sizeOf3
  v3 := Tryz.zeroValue3
  t4 := Tryz.underlying4
  a4 := Tryz.isAgg4
  z4 := Tryz.sizeOf4
  v4 := Tryz.zeroValue4
  t5 := Tryz.underlying5
  a5 := Tryz.isAgg5
  z5 := Tryz.sizeOf5
  v5 := Tryz.zeroValue5
  t9 := Tryz.underlying9
  a9 := Tryz.isAgg9
  z9 := Tryz.sizeOf9
  v9 := Tryz.zeroValue9
  t22 := Tryz.underlying73
  a22 := Tryz.isAgg73
  z22 := Tryz.sizeOf73
  v22 := Tryz.zeroValue73
  t25 := Tryz.underlying240
  a25 := Tryz.isAgg240
  z25 := Tryz.sizeOf240
  v25 := Tryz.zeroValue240
  t39 := Tryz.underlying324
  a39 := Tryz.isAgg324
  z39 := Tryz.sizeOf324
  v39 := Tryz.zeroValue324
  t45 := Tryz.underlying367
  a45 := Tryz.isAgg367
  z45 := Tryz.sizeOf367
  v45 := Tryz.zeroValue367
  t46 := Tryz.underlying368
  a46 := Tryz.isAgg368
  z46 := Tryz.sizeOf368
  v46 := Tryz.zeroValue368
  t50 := Tryz.underlying242
  a50 := Tryz.isAgg242
  z50 := Tryz.sizeOf242
  v50 := Tryz.zeroValue242
  t53 := Tryz.underlying374
  a53 := Tryz.isAgg374
  z53 := Tryz.sizeOf374
  v53 := Tryz.zeroValue374
  t55 := Tryz.underlying376
  a55 := Tryz.isAgg376
  z55 := Tryz.sizeOf376
  v55 := Tryz.zeroValue376
  t66 := Tryz.underlying404
  a66 := Tryz.isAgg404
  z66 := Tryz.sizeOf404
  v66 := Tryz.zeroValue404
  t70 := Tryz.underlying408
  a70 := Tryz.isAgg408
  z70 := Tryz.sizeOf408
  v70 := Tryz.zeroValue408
  t76 := Tryz.underlying424
  a76 := Tryz.isAgg424
  z76 := Tryz.sizeOf424
  v76 := Tryz.zeroValue424
  t77 := Tryz.underlying85
  a77 := Tryz.isAgg85
  z77 := Tryz.sizeOf85
  v77 := Tryz.zeroValue85 }
def Tryz.cmpRg_ren : Go.Shelf.Ren := ⟨fun | 5 => 124 | 7 => 186 | n => n, fun | 22 => 3 | 3 => 3 | 4 => 4 | n => n, fun | n => n⟩
theorem Tryz.cmpRg : Go.Proofs.SlLaysC2.n5 Tryz.prog Tryz.cmpRg_ren := {
  mixed := by kernel_rfl
  f5 := ⟨Tryz.f124.name, by decide, Tryz.func124.trans (congrArg some (by kernel_rfl))⟩
  f7 := ⟨Tryz.f186.name, by decide, Tryz.func186.trans (congrArg some (by kernel_rfl))⟩
  t3 := Tryz.underlying3
  a3 := Tryz.isAgg3
  z3 := Tryz.sizeOf3
  v3 := Tryz.zeroValue3
  t4 := Tryz.underlying4
  a4 := Tryz.isAgg4
  z4 := Tryz.sizeOf4
  v4 := Tryz.zeroValue4
  t22 := Tryz.underlying3
  a22 := Tryz.isAgg3
  z22 := Tryz.sizeOf3
  v22 := Tryz.zeroValue3 }
set_option maxHeartbeats 1000000 in
theorem closure123 (a b c a' b' c' : Int) (W : World) : Calls Tryz.prog 123 #[.agg #[.int .i64 a, .int .i64 b, .int .i64 c], .agg #[.int .i64 a', .int .i64 b', .int .i64 c']] W fun e w' => e = .returned (.int .i64 (Lib.compareInt b b')) ∧ ∃ q os', w' = grow (W.drewN q) os' := by
  have hcon := fun W' => AnyG.cmp_Compare_int Tryz.cmpRg b b' W'
  change ∀ W', Calls Tryz.prog 124 _ _ _ at hcon
  generalize Lib.compareInt b b' = r at hcon ⊢
  go_enter Tryz.func123, Tryz.ntmps123
  go_wp2_with (go_at_call 124; refine (hcon _).mono ?_; rintro e w' ⟨rfl, rfl⟩)
  go_ret
  exact ⟨rfl, 0, _, by rw [alloc_eq_grow, alloc_eq_grow, grow_grow]; rfl⟩
theorem sortAt122 : SortAt Tryz.prog 122 123 3 1 := by
  refine sortAt Tryz.sortRg (s := 3) (g := 123) (key := 1) Tryz.isAgg123 Tryz.sizeOf123 (enters_of Tryz.func123 (by kernel_rfl) rfl) ?_
  intro x y hx hy W
  obtain ⟨a, b, c, rfl⟩ : ∃ a b c, x = [a, b, c] := by
    match x, hx with
    | [a, b, c], _ => exact ⟨a, b, c, rfl⟩
  obtain ⟨a', b', c', rfl⟩ : ∃ a b c, y = [a, b, c] := by
    match y, hy with
    | [a, b, c], _ => exact ⟨a, b, c, rfl⟩
  exact closure123 a b c a' b' c' W
end Go.Proofs.YtknoiemnpllapaaGreat
end

section
namespace Go.Proofs.YtknoiemnpllapaaGreat
open Go Go.PS
attribute [simp] Tryz.underlying281
@[simp] theorem sz281 : sizeT Tryz.prog 281 = 1 := by kernel_rfl
@[simp] theorem ag281 : isAggT Tryz.prog 281 = false := by kernel_rfl
@[simp] theorem in281 : (Tryz.prog.info? 281).isSome = true := by kernel_rfl
@[simp] theorem el281 : elemT Tryz.prog 281 = some 448 := by kernel_rfl
@[simp] theorem ze281 : zeroT Tryz.prog 281 = some [.sl (.mu 0) 0 []] := by kernel_rfl
@[simp] theorem fi281 (m : Nat) : fits Tryz.prog 281 m = decide (m * 24 ≤ 140737488355328) := fits_at ze281 (by kernel_rfl) m
@[simp] theorem an281 (n : Int) : (Tryz.prog.info? 281).any (fun i => decide ((i.bytes : Int) * n ≤ 140737488355328)) = decide (24 * n ≤ 140737488355328) := any_at (by kernel_rfl) n
attribute [simp] Tryz.underlying296
@[simp] theorem sz296 : sizeT Tryz.prog 296 = 1 := by kernel_rfl
@[simp] theorem ag296 : isAggT Tryz.prog 296 = false := by kernel_rfl
@[simp] theorem in296 : (Tryz.prog.info? 296).isSome = true := by kernel_rfl
@[simp] theorem el296 : elemT Tryz.prog 296 = some 452 := by kernel_rfl
@[simp] theorem ze296 : zeroT Tryz.prog 296 = some [.sl (.mu 0) 0 []] := by kernel_rfl
@[simp] theorem fi296 (m : Nat) : fits Tryz.prog 296 m = decide (m * 24 ≤ 140737488355328) := fits_at ze296 (by kernel_rfl) m
@[simp] theorem an296 (n : Int) : (Tryz.prog.info? 296).any (fun i => decide ((i.bytes : Int) * n ≤ 140737488355328)) = decide (24 * n ≤ 140737488355328) := any_at (by kernel_rfl) n
attribute [simp] Tryz.underlying448
@[simp] theorem sz448 : sizeT Tryz.prog 448 = 3 := by kernel_rfl
@[simp] theorem ag448 : isAggT Tryz.prog 448 = true := by kernel_rfl
@[simp] theorem in448 : (Tryz.prog.info? 448).isSome = true := by kernel_rfl
@[simp] theorem ze448 : zeroT Tryz.prog 448 = some [.int .i64 0, .int .i64 0, .str []] := by kernel_rfl
@[simp] theorem fi448 (m : Nat) : fits Tryz.prog 448 m = decide (m * 32 ≤ 140737488355328) := fits_at ze448 (by kernel_rfl) m
@[simp] theorem an448 (n : Int) : (Tryz.prog.info? 448).any (fun i => decide ((i.bytes : Int) * n ≤ 140737488355328)) = decide (32 * n ≤ 140737488355328) := any_at (by kernel_rfl) n
attribute [simp] Tryz.underlying452
@[simp] theorem sz452 : sizeT Tryz.prog 452 = 4 := by kernel_rfl
@[simp] theorem ag452 : isAggT Tryz.prog 452 = true := by kernel_rfl
@[simp] theorem in452 : (Tryz.prog.info? 452).isSome = true := by kernel_rfl
@[simp] theorem ze452 : zeroT Tryz.prog 452 = some [.int .i64 0, .int .i64 0, .int .i64 0, .str []] := by kernel_rfl
@[simp] theorem fi452 (m : Nat) : fits Tryz.prog 452 m = decide (m * 40 ≤ 140737488355328) := fits_at ze452 (by kernel_rfl) m
@[simp] theorem an452 (n : Int) : (Tryz.prog.info? 452).any (fun i => decide ((i.bytes : Int) * n ≤ 140737488355328)) = decide (40 * n ≤ 140737488355328) := any_at (by kernel_rfl) n
theorem clone317 : CallSound Tryz.prog fun f args hp => if f = 317 then primCall (1, 4) args hp else none :=
  clone_sound tabs mixedC Tryz.func317 (by simp [Tryz.f317]) rfl rfl rfl Tryz.underlying296 sz452 ze452 rfl (fun m hm => by rw [fi452]; simp; omega)
theorem clone320 : CallSound Tryz.prog fun f args hp => if f = 320 then primCall (1, 3) args hp else none :=
  clone_sound tabs mixedC Tryz.func320 (by simp [Tryz.f320]) rfl rfl rfl Tryz.underlying281 sz448 ze448 rfl (fun m hm => by rw [fi448]; simp; omega)
theorem beyond (n : Nat) : hints (n + 332) = { keep := fun _ => [], head := fun _ => [], box := fun _ => false } := by kernel_rfl
def primL (f : Nat) : Option (Nat × Nat) := if f = 6 then some (2, 1) else if f = 317 then some (1, 4) else if f = 320 then some (1, 3) else none
theorem primC : ((List.range 332).all fun f => (hints f).prim == primL f && (sortsOf (hints f).own == if f = 122 then some (123, 3, 1) else none)) = true := by kernel_rfl
theorem primN (f : FuncId) (k : Nat × Nat) (h : (hints f).prim = some k) : (f = 6 ∧ k = (2, 1)) ∨ (f = 317 ∧ k = (1, 4)) ∨ (f = 320 ∧ k = (1, 3)) := by
  by_cases hf : f < 332
  · have e := List.all_eq_true.1 primC f (List.mem_range.2 hf)
    simp only [Bool.and_eq_true, beq_iff_eq] at e
    rw [e.1] at h
    unfold primL at h
    split at h
    · rename_i h'; exact .inl ⟨h', (Option.some.inj h).symm⟩
    · split at h
      · rename_i h'; exact .inr (.inl ⟨h', (Option.some.inj h).symm⟩)
      · split at h
        · rename_i h'; exact .inr (.inr ⟨h', (Option.some.inj h).symm⟩)
        · cases h
  · obtain ⟨n, rfl⟩ : ∃ n, f = n + 332 := ⟨Nat.sub f 332, (Nat.sub_add_cancel (Nat.le_of_not_lt hf)).symm⟩
    rw [beyond] at h; cases h
theorem sortN (f : FuncId) (k : Nat × Nat × Nat) (h : sortsOf (hints f).own = some k) : f = 122 ∧ (123, 3, 1) = k := by
  by_cases hf : f < 332
  · have e := List.all_eq_true.1 primC f (List.mem_range.2 hf)
    simp only [Bool.and_eq_true, beq_iff_eq] at e
    rw [e.2] at h
    split at h
    · rename_i h'; exact ⟨h', Option.some.inj h⟩
    · cases h
  · obtain ⟨n, rfl⟩ : ∃ n, f = n + 332 := ⟨Nat.sub f 332, (Nat.sub_add_cancel (Nat.le_of_not_lt hf)).symm⟩
    rw [beyond] at h; cases h
theorem hzz (f : FuncId) (h : f ≠ 6) : hints0 f = hints f := if_neg h
theorem clones (f : FuncId) (k : Nat × Nat) (h : (f = 317 ∧ k = (1, 4)) ∨ (f = 320 ∧ k = (1, 3))) : CallSound Tryz.prog fun f' args hp => if f' = f then primCall k args hp else none := by
  rcases h with ⟨rfl, rfl⟩ | ⟨rfl, rfl⟩
  · exact clone317
  · exact clone320
theorem prims0 : PrimSound Tryz.prog hints0 := ⟨fun f k h => by
    by_cases h6 : f = 6
    · subst h6; have e : (hints0 6).prim = none := rfl
      rw [e] at h; cases h
    · rw [hzz f h6] at h
      rcases primN f k h with h | h
      · exact absurd h.1 h6
      · exact clones f k h,
  fun f k h => by
    have e : (hints0 f).own = (hints f).own := by
      by_cases h6 : f = 6
      · subst h6; rfl
      · rw [hzz f h6]
    rw [e] at h
    obtain ⟨rfl, rfl⟩ := sortN f k h
    exact sortAt122⟩
theorem wf0 : WF Tryz.prog hints0 := ⟨wf.name, fun f fn body h1 h2 => by
    by_cases h6 : f = 6
    · subst h6
      have h : wfF Tryz.prog hints0 6 = true := by kernel_rfl
      simp only [wfF, h1, h2, Bool.and_eq_true, decide_eq_true_eq] at h
      exact h.2
    · rw [hzz f h6]; exact wf.code f fn body h1 h2, wf.mixed⟩
end Go.Proofs.YtknoiemnpllapaaGreat
end

section
namespace Go.Proofs.YtknoiemnpllapaaGreat
open Go Go.PS
theorem prims : PrimSound Tryz.prog hints := ⟨fun f k h => by
    rcases primN f k h with ⟨rfl, rfl⟩ | h
    · exact const_sound tabs wf0 prims0 e6 rfl
    · exact clones f k h,
  fun f k h => by
    obtain ⟨rfl, rfl⟩ := sortN f k h
    exact sortAt122⟩
end Go.Proofs.YtknoiemnpllapaaGreat
end
