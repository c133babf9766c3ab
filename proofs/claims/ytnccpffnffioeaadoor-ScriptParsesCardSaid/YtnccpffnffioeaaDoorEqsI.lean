/-
  What functions of this program compute, as equations about the evaluator. No condition but those stated.
-/
import Derived.Test.YtnccpffnffioeaaDoorFacts
import Derived.Test.YtnccpffnffioeaaDoorPsE
import Derived.Test.YtnccpffnffioeaaDoorPsD
import Derived.Shelf.Strings.Split
import Derived.Shelf.Strings.OnBuilder
import Derived.Shelf.Strconv.Itoa3
import Derived.Shelf.Small.Strs
import Derived.Shelf.LaysM

set_option linter.all false
section
/-
  Functions of Go's library that the evaluator knows by themselves: the kit's contracts laid at this program.
-/
namespace Go.Proofs.YtnccpffnffioeaaDoor
open Go Go.PS Go.Shelf
def Tryd.layA_ren : Go.Shelf.Ren := ⟨fun | 146 => 9 | 221 => 21 | 268 => 38 | 138 => 39 | 143 => 40 | 195 => 60 | 197 => 61 | 218 => 62 | 219 => 63 | 260 => 70 | 217 => 71 | 225 => 72 | 224 => 73 | 267 => 74 | 266 => 81 | 314 => 82 | n => n, fun | 9 => 9 | 31 => 23 | 3 => 3 | 4 => 4 | 0 => 0 | 105 => 98 | 21 => 21 | 5 => 5 | 46 => 72 | 119 => 111 | 139 => 114 | 138 => 113 | 146 => 116 | 51 => 115 | n => n, fun | 1 => 1 | 3 => 2 | 4 => 3 | n => n⟩
theorem Tryd.layA : Go.Proofs.Lays.n146 Tryd.prog Tryd.layA_ren := {
  mixed := by kernel_rfl
  f138 := Tryd.func39.trans (congrArg some (by kernel_rfl))
  f143 := Tryd.func40.trans (congrArg some (by kernel_rfl))
  f146 := Tryd.func9.trans (congrArg some (by kernel_rfl))
  f195 := Tryd.func60.trans (congrArg some (by kernel_rfl))
  f197 := Tryd.func61.trans (congrArg some (by kernel_rfl))
  f217 := Tryd.func71.trans (congrArg some (by kernel_rfl))
  f218 := Tryd.func62.trans (congrArg some (by kernel_rfl))
  f219 := Tryd.func63.trans (congrArg some (by kernel_rfl))
  f221 := Tryd.func21.trans (congrArg some (by kernel_rfl))
  f224 := Tryd.func73.trans (congrArg some (by kernel_rfl))
  f225 := Tryd.func72.trans (congrArg some (by kernel_rfl))
  f260 := Tryd.func70.trans (congrArg some (by kernel_rfl))
  f266 := Tryd.func81.trans (congrArg some (by kernel_rfl))
  f267 := Tryd.func74.trans (congrArg some (by kernel_rfl))
  f268 := Tryd.func38.trans (congrArg some (by kernel_rfl))
  f314 := Tryd.func82.trans (congrArg some (by kernel_rfl))
  t0 := Tryd.underlying0
  a0 := Tryd.isAgg0
  z0 := Tryd.sizeOf0
  v0 := Tryd.zeroValue0
  t3 := Tryd.underlying3
  a3 := Tryd.isAgg3
  z3 := Tryd.sizeOf3
  v3 := Tryd.zeroValue3
  t4 := Tryd.underlying4
  a4 := Tryd.isAgg4
  z4 := Tryd.sizeOf4
  v4 := Tryd.zeroValue4
  t5 := Tryd.underlying5
  a5 := Tryd.isAgg5
  z5 := Tryd.sizeOf5
  v5 := Tryd.zeroValue5
  t9 := Tryd.underlying9
  a9 := Tryd.isAgg9
  z9 := Tryd.sizeOf9
  v9 := Tryd.zeroValue9
  t21 := Tryd.underlying21
  a21 := Tryd.isAgg21
  z21 := Tryd.sizeOf21
  v21 := Tryd.zeroValue21
  t31 := Tryd.underlying23
  a31 := Tryd.isAgg23
  z31 := Tryd.sizeOf23
  v31 := Tryd.zeroValue23
  t46 := Tryd.underlying72
  a46 := Tryd.isAgg72
  z46 := Tryd.sizeOf72
  v46 := Tryd.zeroValue72
  t51 := Tryd.underlying115
  a51 := Tryd.isAgg115
  z51 := Tryd.sizeOf115
  v51 := Tryd.zeroValue115
  t105 := Tryd.underlying98
  a105 := Tryd.isAgg98
  z105 := Tryd.sizeOf98
  v105 := Tryd.zeroValue98
  t119 := Tryd.underlying111
  a119 := Tryd.isAgg111
  z119 := Tryd.sizeOf111
  t138 := Tryd.underlying113
  a138 := Tryd.isAgg113
  z138 := Tryd.sizeOf113
  v138 := Tryd.zeroValue113
  t139 := Tryd.underlying114
  a139 := Tryd.isAgg114
  z139 := Tryd.sizeOf114
  v139 := Tryd.zeroValue114
  t146 := Tryd.underlying116
  a146 := Tryd.isAgg116
  z146 := Tryd.sizeOf116
  v146 := Tryd.zeroValue116
  g1 := by kernel_rfl
  g3 := by kernel_rfl
  g4 := by kernel_rfl }
def Tryd.layX_ren : Go.Shelf.Ren := ⟨fun | 167 => 32 | 156 => 37 | 165 => 59 | 166 => 16 | 169 => 20 | 240 => 31 | 241 => 69 | 276 => 52 | 277 => 80 | n => n, fun | 31 => 23 | 9 => 9 | 3 => 3 | 4 => 4 | 0 => 0 | 20 => 20 | 72 => 55 | 76 => 58 | 70 => 52 | 37 => 53 | 75 => 57 | 127 => 78 | 164 => 89 | 5 => 5 | 80 => 63 | n => n, fun | n => n⟩
theorem Tryd.layX : Go.Proofs.Lays.n156 Tryd.prog Tryd.layX_ren := {
  mixed := by kernel_rfl
  f156 := Tryd.func37.trans (congrArg some (by kernel_rfl))
  f165 := Tryd.func59.trans (congrArg some (by kernel_rfl))
  f166 := Tryd.func16.trans (congrArg some (by kernel_rfl))
  f169 := Tryd.func20.trans (congrArg some (by kernel_rfl))
  f240 := Tryd.func31.trans (congrArg some (by kernel_rfl))
  f241 := Tryd.func69.trans (congrArg some (by kernel_rfl))
  f276 := Tryd.func52.trans (congrArg some (by kernel_rfl))
  f277 := Tryd.func80.trans (congrArg some (by kernel_rfl))
  t0 := Tryd.underlying0
  a0 := Tryd.isAgg0
  z0 := Tryd.sizeOf0
  v0 := Tryd.zeroValue0
  t3 := Tryd.underlying3
  a3 := Tryd.isAgg3
  z3 := Tryd.sizeOf3
  v3 := Tryd.zeroValue3
  t4 := Tryd.underlying4
  a4 := Tryd.isAgg4
  z4 := Tryd.sizeOf4
  v4 := Tryd.zeroValue4
  t9 := Tryd.underlying9
  a9 := Tryd.isAgg9
  z9 := Tryd.sizeOf9
  v9 := Tryd.zeroValue9
  t20 := Tryd.underlying20
  a20 := Tryd.isAgg20
  z20 := Tryd.sizeOf20
  v20 := Tryd.zeroValue20
  t31 := Tryd.underlying23
  a31 := Tryd.isAgg23
  z31 := Tryd.sizeOf23
  v31 := Tryd.zeroValue23
  t37 := Tryd.underlying53
  a37 := Tryd.isAgg53
  z37 := Tryd.sizeOf53
  v37 := Tryd.zeroValue53
  t70 := Tryd.underlying52
  a70 := Tryd.isAgg52
  z70 := Tryd.sizeOf52
  v70 := Tryd.zeroValue52
  t72 := Tryd.underlying55
  a72 := Tryd.isAgg55
  z72 := Tryd.sizeOf55
  v72 := Tryd.zeroValue55
  t75 := Tryd.underlying57
  a75 := Tryd.isAgg57
  z75 := Tryd.sizeOf57
  v75 := Tryd.zeroValue57
  t76 := Tryd.underlying58
  a76 := Tryd.isAgg58
  z76 := Tryd.sizeOf58
  v76 := Tryd.zeroValue58
  t127 := Tryd.underlying78
  a127 := Tryd.isAgg78
  z127 := Tryd.sizeOf78
  v127 := Tryd.zeroValue78
  t164 := Tryd.underlying89
  a164 := Tryd.isAgg89
  z164 := Tryd.sizeOf89
  v164 := Tryd.zeroValue89 }
def Tryd.layC_ren : Go.Shelf.Ren := ⟨fun | 171 => 35 | 243 => 56 | 246 => 68 | 283 => 76 | 284 => 77 | 285 => 78 | 286 => 79 | 129 => 84 | 317 => 83 | 318 => 85 | 319 => 86 | 320 => 87 | 337 => 88 | 338 => 89 | n => n, fun | 3 => 3 | 9 => 9 | 2 => 2 | 4 => 4 | 171 => 105 | 0 => 0 | 53 => 86 | 37 => 53 | 5 => 5 | 173 => 108 | 212 => 119 | 51 => 115 | 20 => 20 | 213 => 120 | 46 => 72 | 232 => 123 | 233 => 124 | n => n, fun | 17 => 4 | 18 => 5 | 19 => 6 | n => n⟩
theorem Tryd.layC : Go.Proofs.LaysM.n171 Tryd.prog Tryd.layC_ren := {
  mixed := by kernel_rfl
  f129 := Tryd.func84.trans (congrArg some (by kernel_rfl))
  f171 := Tryd.func35.trans (congrArg some (by kernel_rfl))
  f243 := Tryd.func56.trans (congrArg some (by kernel_rfl))
  f246 := Tryd.func68.trans (congrArg some (by kernel_rfl))
  f283 := Tryd.func76.trans (congrArg some (by kernel_rfl))
  f284 := Tryd.func77.trans (congrArg some (by kernel_rfl))
  f285 := Tryd.func78.trans (congrArg some (by kernel_rfl))
  f286 := Tryd.func79.trans (congrArg some (by kernel_rfl))
  f317 := Tryd.func83.trans (congrArg some (by kernel_rfl))
  f318 := Tryd.func85.trans (congrArg some (by kernel_rfl))
  f319 := Tryd.func86.trans (congrArg some (by kernel_rfl))
  f320 := Tryd.func87.trans (congrArg some (by kernel_rfl))
  f337 := Tryd.func88.trans (congrArg some (by kernel_rfl))
  f338 := Tryd.func89.trans (congrArg some (by kernel_rfl))
  t0 := Tryd.underlying0
  a0 := Tryd.isAgg0
  z0 := Tryd.sizeOf0
  v0 := Tryd.zeroValue0
  t2 := Tryd.underlying2
  a2 := Tryd.isAgg2
  z2 := Tryd.sizeOf2
  v2 := Tryd.zeroValue2
  t3 := Tryd.underlying3
  a3 := Tryd.isAgg3
  z3 := Tryd.sizeOf3
  v3 := Tryd.zeroValue3
  t4 := Tryd.underlying4
  a4 := Tryd.isAgg4
  z4 := Tryd.sizeOf4
  v4 := Tryd.zeroValue4
  t5 := Tryd.underlying5
  a5 := Tryd.isAgg5
  z5 := Tryd.sizeOf5
  v5 := Tryd.zeroValue5
  t9 := Tryd.underlying9
  a9 := Tryd.isAgg9
  z9 := Tryd.sizeOf9
  v9 := Tryd.zeroValue9
  t20 := Tryd.underlying20
  a20 := Tryd.isAgg20
  z20 := Tryd.sizeOf20
  v20 := Tryd.zeroValue20
  t37 := Tryd.underlying53
  a37 := Tryd.isAgg53
  z37 := Tryd.sizeOf53
  v37 := Tryd.zeroValue53
  t46 := Tryd.underlying72
  a46 := Tryd.isAgg72
  z46 := Tryd.sizeOf72
  v46 := Tryd.zeroValue72
  t51 := Tryd.underlying115
  a51 := Tryd.isAgg115
  z51 := Tryd.sizeOf115
  v51 := Tryd.zeroValue115
  t53 := Tryd.underlying86
  a53 := Tryd.isAgg86
  z53 := Tryd.sizeOf86
  v53 := Tryd.zeroValue86
  t171 := Tryd.underlying105
  a171 := Tryd.isAgg105
  z171 := Tryd.sizeOf105
  v171 := Tryd.zeroValue105
  t173 := Tryd.underlying108
  a173 := Tryd.isAgg108
  z173 := Tryd.sizeOf108
  v173 := Tryd.zeroValue108
  t212 := Tryd.underlying119
  a212 := Tryd.isAgg119
  z212 := Tryd.sizeOf119
  v212 := Tryd.zeroValue119
  t213 := Tryd.underlying120
  a213 := Tryd.isAgg120
  z213 := Tryd.sizeOf120
  t232 := Tryd.underlying123
  a232 := Tryd.isAgg123
  z232 := Tryd.sizeOf123
  v232 := Tryd.zeroValue123
  t233 := Tryd.underlying124
  a233 := Tryd.isAgg124
  z233 := Tryd.sizeOf124
  v233 := Tryd.zeroValue124
  g17 := by kernel_rfl
  g18 := by kernel_rfl
  g19 := by kernel_rfl
  i0 := by kernel_rfl
  i2 := by kernel_rfl
  i3 := by kernel_rfl
  i4 := by kernel_rfl
  i5 := by kernel_rfl
  i9 := by kernel_rfl
  i20 := by kernel_rfl
  i37 := by kernel_rfl
  i46 := by kernel_rfl
  i51 := by kernel_rfl
  i53 := by kernel_rfl
  i171 := by kernel_rfl
  i173 := by kernel_rfl
  i212 := by kernel_rfl
  i232 := by kernel_rfl
  i233 := by kernel_rfl
  m17 := by kernel_rfl
  m18 := by kernel_rfl
  m19 := by kernel_rfl }
def Tryd.layD_ren : Go.Shelf.Ren := ⟨fun | 137 => 64 | 217 => 71 | 266 => 81 | n => n, fun | 9 => 9 | 5 => 5 | 3 => 3 | n => n, fun | n => n⟩
theorem Tryd.layD : Go.Proofs.Lays.n137 Tryd.prog Tryd.layD_ren := {
  mixed := by kernel_rfl
  f137 := Tryd.func64.trans (congrArg some (by kernel_rfl))
  f217 := Tryd.func71.trans (congrArg some (by kernel_rfl))
  f266 := Tryd.func81.trans (congrArg some (by kernel_rfl))
  t3 := Tryd.underlying3
  a3 := Tryd.isAgg3
  z3 := Tryd.sizeOf3
  v3 := Tryd.zeroValue3
  t5 := Tryd.underlying5
  a5 := Tryd.isAgg5
  z5 := Tryd.sizeOf5
  v5 := Tryd.zeroValue5
  t9 := Tryd.underlying9
  a9 := Tryd.isAgg9
  z9 := Tryd.sizeOf9
  v9 := Tryd.zeroValue9 }

theorem Tryd.layX167 : Go.Proofs.Lays.n167 Tryd.prog Tryd.layX_ren := { Tryd.layX with f167 := Tryd.func32.trans (congrArg some (by kernel_rfl)), t5 := Tryd.underlying5, a5 := Tryd.isAgg5, z5 := Tryd.sizeOf5, v5 := Tryd.zeroValue5 }
theorem Tryd.layX166 : Go.Proofs.Lays.n166 Tryd.prog Tryd.layX_ren := { Tryd.layX with }
theorem Tryd.layX169 : Go.Proofs.Lays.n169 Tryd.prog Tryd.layX_ren := { Tryd.layX with }
theorem Tryd.extra : Go.Proofs.Builder.Extra Tryd.prog Tryd.layX_ren := {
  sizeBuilder := by kernel_rfl
  liesBuilder := by kernel_rfl
  t5 := Tryd.underlying5
  a5 := Tryd.isAgg5
  z5 := Tryd.sizeOf5
  v5 := Tryd.zeroValue5
  infoByte := by kernel_rfl
  cellsByte := by kernel_rfl
  sizeByte := by kernel_rfl
  neB5 := by decide }
theorem bld32 : BldAt Tryd.prog 32 (0, 55, 5) := ⟨enters_of Tryd.func32 (by kernel_rfl) rfl,
  fun _ w b p v bs hb hp hrow hne c h0 h1 hlen => writeByteW Tryd.layX167 Tryd.extra hb hp hrow hne c h0 h1 hlen, (fun h => by cases h), (fun h => by cases h)⟩
theorem bld16 : BldAt Tryd.prog 16 (1, 55, 5) := ⟨enters_of Tryd.func16 (by kernel_rfl) rfl, (fun h => by cases h),
  fun _ w b p v bs hb hp hrow hne s hlen => writeStringW Tryd.layX166 Tryd.extra hb hp hrow hne s hlen, (fun h => by cases h)⟩
theorem bld20 : BldAt Tryd.prog 20 (2, 55, 5) := ⟨enters_of Tryd.func20 (by kernel_rfl) rfl, (fun h => by cases h), (fun h => by cases h),
  fun _ w b p v bs hb hp hrow hne hl => stringW Tryd.layX169 Tryd.extra hb hp hrow hne hl⟩
theorem join37 : JoinAt Tryd.prog 37 := ⟨enters_of Tryd.func37 (by kernel_rfl) rfl, fun bk o c xs sep w h1 h2 h3 h4 h5 => Any.strings_Join Tryd.layX Tryd.extra bk o c xs sep w h1 h2 h3 h4 h5⟩
theorem idx64 : IndexAt Tryd.prog 64 := ⟨enters_of Tryd.func64 (by kernel_rfl) rfl, fun s c w => Any.strings_IndexByte Tryd.layD s c w⟩
theorem itoa35 : ItoaAt Tryd.prog 35 := ⟨enters_of Tryd.func35 (by kernel_rfl) rfl, ⟨(Tryd.prog.globalNamed "internal/strconv.uint64pow10").getD 0, by kernel_rfl⟩, fun n w h0 h1 ht => (Any.strconv_Itoa Tryd.layC n (by omega) h1 w ht).mono fun e w' ⟨he, k, os, hw⟩ => ⟨he, by
    subst hw
    refine ⟨rfl, rfl, rfl, ?_, fun b hb => ?_⟩
    · show w.heap.size ≤ (w.heap ++ os).size
      rw [Array.size_append]; omega
    · show (w.heap ++ os)[b]? = w.heap[b]?
      exact Array.getElem?_append_left hb⟩⟩
theorem maxlen : Tryd.prog.globalNamed "internal/bytealg.MaxLen" = some 1 := by kernel_rfl
theorem split9 : SplitAt Tryd.prog 9 := ⟨enters_of Tryd.func9 (by kernel_rfl) rfl, ⟨_, maxlen⟩, fun s c m b w hb hs hm => by
    rw [maxlen] at hb
    cases hb
    refine (Any.strings_Split Tryd.layA (by kernel_rfl) s ⟨#[c]⟩ m w (by omega) hm (Nat.le_refl _)).mono fun e w' ⟨he, hw⟩ => ?_
    have hc : Lib.countB s ⟨#[c]⟩ = s.data.toList.count c := Lib.count_one _ _
    rw [hc] at he hw
    exact ⟨_, he, hw⟩⟩
theorem ext46 : ExtAt Tryd.prog 46 0 := by
  intro us w
  have hf := Tryd.func46
  have hb : Tryd.f46.body = none := rfl
  have hx : Extern.findNext Tryd.f46 = none := by kernel_rfl
  have hx2 : Extern.find Tryd.f46 = some Extern.MathFloatBits.float64frombits := by kernel_rfl
  have hn : (Tryd.f46.name == "runtime.NumGoroutine") = false := by kernel_rfl
  have hn2 : ¬ Tryd.f46.name = "runtime.NumGoroutine" := by simpa using hn
  simp [callFunc, go_sem, hf, hb, hx, hx2, hn2, extSem]
theorem ext57 : ExtAt Tryd.prog 57 1 := by
  intro us w
  have hf := Tryd.func57
  have hb : Tryd.f57.body = none := rfl
  have hx : Extern.findNext Tryd.f57 = none := by kernel_rfl
  have hx2 : Extern.find Tryd.f57 = some Extern.MathFloatBits.float64bits := by kernel_rfl
  have hn : (Tryd.f57.name == "runtime.NumGoroutine") = false := by kernel_rfl
  have hn2 : ¬ Tryd.f57.name = "runtime.NumGoroutine" := by simpa using hn
  simp [callFunc, go_sem, hf, hb, hx, hx2, hn2, extSem]
theorem hzz (f : FuncId) (h : f ≠ 4) : hints0 f = hints f := if_neg h
theorem own0 (f : FuncId) : (hints0 f).own = (hints f).own := by
  by_cases h : f = 4
  · subst h; rfl
  · rw [hzz f h]
theorem primN (f : FuncId) (k : Nat × Nat) (h : (hints f).prim = some k) : (f = 4 ∧ k = (2, 1)) ∨ CallSound Tryd.prog fun f' args hp => if f' = f then primCall k args hp else none := by
  unfold hints at h
  split at h <;> first | (cases h; done) | (cases h; exact .inl ⟨rfl, rfl⟩) | (cases h; exact .inr (split_sound split9)) | (cases h; exact .inr (join_sound join37)) | (cases h; exact .inr (itoa_sound itoa35)) | (cases h; exact .inr (index_sound idx64))
theorem sortN (f : FuncId) (k : Nat × Nat × Nat) (h : sortsOf (hints f).own = some k) : SortAt Tryd.prog f k.1 k.2.1 k.2.2 := by
  unfold hints at h
  split at h <;> (cases h; done)
theorem extN (f e : Nat) (h : extsOf (hints f).own = some e) : ExtAt Tryd.prog f e := by
  unfold hints at h
  split at h <;> first | (cases h; done) | (cases h; exact ext46) | (cases h; exact ext57)
theorem bldN (f : Nat) (k : Nat × TypeId × TypeId) (h : bldOf (hints f).own = some k) : BldAt Tryd.prog f k := by
  unfold hints at h
  split at h <;> first | (cases h; done) | (cases h; exact bld32) | (cases h; exact bld16) | (cases h; exact bld20)
theorem prims0 : PrimSound Tryd.prog hints0 := ⟨fun f k h => by
    by_cases h4 : f = 4
    · subst h4
      have e : (hints0 4).prim = none := rfl
      rw [e] at h; cases h
    · rw [hzz f h4] at h
      rcases primN f k h with h | h
      · exact absurd h.1 h4
      · exact h,
  fun f k h => by rw [own0] at h; exact sortN f k h,
  fun f e h => by rw [own0] at h; exact extN f e h,
  fun f k h => by rw [own0] at h; exact bldN f k h⟩
theorem wf0 : WF Tryd.prog hints0 := ⟨wf.name, fun f fn body h1 h2 => by
    by_cases h4 : f = 4
    · subst h4
      have h : wfF Tryd.prog hints0 4 = true := by kernel_rfl
      simp only [wfF, h1, h2, Bool.and_eq_true, decide_eq_true_eq] at h
      exact h.2
    · rw [hzz f h4]; exact wf.code f fn body h1 h2, wf.mixed⟩
theorem live0 : fstR (evalCall Tryd.prog hints0 60 4 [] []) = some (.bool true) := by kernel_rfl
theorem prims : PrimSound Tryd.prog hints := ⟨fun f k h => by
    rcases primN f k h with ⟨rfl, rfl⟩ | h
    · obtain ⟨hp, d, h⟩ := of_map live0
      exact const_sound tabs wf0 prims0 h rfl
    · exact h,
  sortN, extN, bldN⟩
end Go.Proofs.YtnccpffnffioeaaDoor
end
