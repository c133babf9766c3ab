/-
  An evaluator of the model on pure values, and its soundness: what evalCall answers for a function and its arguments, the function returns in the model, and nothing older turns. Part 5.
-/
import Derived.Test.YtnccpffnffioeaaDoorPsD
import Derived.Lib.SplitLaws
import Derived.Below
import Derived.Deep.Upon
import Derived.Lib.FrozenHead2
import Derived.Shelf.Strings.Builder1

set_option linter.all false
section
/-
  Functions of the library that are known by themselves: a text split, rows of texts joined, a number's digits, a byte looked for.
-/
namespace Go.PS
open Go.RowKit
section
variable {g : G} {w w' : World} {hn : Nat} {P : Program}

/-- Where only new memory comes about, it is enough to tell what is answered. -/
theorem prim_grow {f : Nat} {k : Nat × Nat} (he : ∀ us w, (callFunc f us).run P w = .ok (.enter f us) w)
    (H : ∀ args hp r hp' d, primCall k args hp = some (r, hp', d) → hp' = hp ∧ d = false ∧ ∀ (g : G) (w : World) (us : Array Value), Rel g w #[] [] hp → Pin P g w → us.size = args.length → ArgsV g w hp.length us args →
      Calls P f us w fun e w' => ∃ v, e = .returned v ∧ Grow w w' ∧ ResV g w' hp.length v r) :
    CallSound P fun f' args hp => if f' = f then primCall k args hp else none := by
  intro f' args hp r hp' d h g w us R hpin hus hA
  by_cases hf : f' = f
  · subst hf
    simp only [if_true] at h
    obtain ⟨rfl, rfl, hc⟩ := H args hp r hp' d h
    exact ⟨he us w, (hc g w us R hpin hus hA).mono fun e w' ⟨v, h1, h2, h3⟩ => ⟨v, g, h1, R.grow h2, X.grow R h2, h3⟩⟩
  · simp only [if_neg hf] at h; cases h

theorem resV_V {v : Value} {y : PV} (h : ResV g w hn v y) (hy : ∀ tg n cs, y ≠ .sl (.mu tg) n cs) (hy2 : ∀ tg n cs, y ≠ .sl (.ow tg) n cs) (hy3 : ∀ ys, y ≠ .tup ys) : V g w hn v y := by
  cases h with
  | of h => exact h
  | tup => exact (hy3 _ rfl).elim
  | mu => exact (hy _ _ _ rfl).elim
  | ow => exact (hy2 _ _ _ rfl).elim
  | full => exact (hy2 _ _ _ rfl).elim

theorem ArgsV.at {us : Array Value} {args : List PV} (h : ArgsV g w hn us args) {j : Nat} {u : Value} {y : PV} (hu : us[j]? = some u) (hy : args[j]? = some y) : ResV g w hn u y := by
  obtain ⟨k, h1, h2⟩ := h
  by_cases e : j = k
  · subst e; exact h2 u y hu hy
  · exact .of (h1 j u y e hu hy)

theorem arg1 {us : Array Value} {a : PV} (hs : us.size = 1) (h : ArgsV g w hn us [a]) : ∃ u, us = #[u] ∧ ResV g w hn u a := by
  have h0 : us[0]? = some us[0] := Array.getElem?_eq_getElem (by omega)
  refine ⟨us[0], ?_, h.at h0 rfl⟩
  apply Array.ext
  · exact hs
  · intro j hj _
    have : j = 0 := by omega
    subst this; rfl
theorem arg2 {us : Array Value} {a b : PV} (hs : us.size = 2) (h : ArgsV g w hn us [a, b]) : ∃ u v, us = #[u, v] ∧ ResV g w hn u a ∧ ResV g w hn v b := by
  have h0 : us[0]? = some us[0] := Array.getElem?_eq_getElem (by omega)
  have h1 : us[1]? = some us[1] := Array.getElem?_eq_getElem (by omega)
  refine ⟨us[0], us[1], ?_, h.at h0 rfl, h.at h1 rfl⟩
  apply Array.ext
  · exact hs
  · intro j hj _
    match j, hj with
    | 0, _ => rfl
    | 1, _ => rfl
    | j + 2, hj => omega

theorem res_str {v : Value} {s : List UInt8} (h : ResV g w hn v (.str s)) : ∃ b : ByteArray, v = .string b ∧ b.data.toList = s := by
  have := resV_V h (fun _ _ _ => nofun) (fun _ _ _ => nofun) (fun _ => nofun)
  cases this with
  | str b => exact ⟨b, rfl, rfl⟩
theorem res_int {v : Value} {k : IntKind} {n : Int} (h : ResV g w hn v (.int k n)) : v = .int k n := by
  have := resV_V h (fun _ _ _ => nofun) (fun _ _ _ => nofun) (fun _ => nofun)
  cases this with
  | int k n => rfl
theorem V_str' (l : List UInt8) : V g w hn (.string ⟨l.toArray⟩) (.str l) := by
  have : V g w hn (.string ⟨l.toArray⟩) (.str (⟨l.toArray⟩ : ByteArray).data.toList) := .str _
  simpa using this

theorem Grow.below (h : Below w.heap.size w w') : Grow w w' := ⟨h.os, h.tape, h.output, h.size, h.block⟩

/-- A number's digits. -/
structure ItoaAt (P : Program) (f : Nat) : Prop where
  enters : ∀ us w, (callFunc f us).run P w = .ok (.enter f us) w
  there : ∃ b, P.globalNamed "internal/strconv.uint64pow10" = some b
  calls : ∀ (n : Int) (w : World), 0 ≤ n → n ≤ 9223372036854775807 → Lib.TabIs P w "internal/strconv.uint64pow10" .u64 Lib.pow10Tab →
    Calls P f #[.int .i64 n] w fun e w' => e = .returned (.string ⟨(Lib.itoa n).toArray⟩) ∧ Grow w w'
theorem itoa_sound {f s : Nat} (h : ItoaAt P f) : CallSound P fun f' args hp => if f' = f then primCall (5, s) args hp else none := by
  refine prim_grow h.enters fun args hp r hp' d hc => ?_
  obtain ⟨n, rfl⟩ : ∃ n, args = [.int .i64 n] := by
    unfold primCall at hc
    split at hc <;> first | exact ⟨_, rfl⟩ | (exfalso; rename_i e; cases e; done) | (exfalso; rename_i e _; cases e; done) | (exfalso; rename_i e _ _; cases e; done) | cases hc
  simp only [primCall] at hc
  split at hc
  rotate_left
  · cases hc
  rename_i hn
  cases hc
  refine ⟨rfl, rfl, fun g w us R hpin hs hA => ?_⟩
  obtain ⟨u, rfl, hu⟩ := arg1 hs hA
  have := res_int hu
  subst this
  obtain ⟨b, hb⟩ := h.there
  refine (h.calls n w hn.1 hn.2 (hpin.1 b hb).2).mono fun e w' ⟨he, hg⟩ => ⟨_, he, hg, .of ?_⟩
  · have : Lib.itoa n = Lib.decDigits n.toNat := by unfold Lib.itoa; rw [if_neg (by omega)]
    rw [this]; exact V_str' _

/-- A byte looked for. -/
structure IndexAt (P : Program) (f : Nat) : Prop where
  enters : ∀ us w, (callFunc f us).run P w = .ok (.enter f us) w
  calls : ∀ (s : ByteArray) (c : Int) (w : World), Calls P f #[.string s, .int .u8 c] w fun e w' => e = .returned (.int .i64 (Lib.indexByte s.data.toList c.toNat.toUInt8)) ∧ w' = w
theorem index_sound {f s : Nat} (h : IndexAt P f) : CallSound P fun f' args hp => if f' = f then primCall (6, s) args hp else none := by
  refine prim_grow h.enters fun args hp r hp' d hc => ?_
  obtain ⟨t, c, rfl⟩ : ∃ t c, args = [.str t, .int .u8 c] := by
    unfold primCall at hc
    split at hc <;> first | exact ⟨_, _, rfl⟩ | (exfalso; rename_i e; cases e; done) | (exfalso; rename_i e _; cases e; done) | (exfalso; rename_i e _ _; cases e; done) | cases hc
  simp only [primCall] at hc
  cases hc
  refine ⟨rfl, rfl, fun g w us R hpin hs hA => ?_⟩
  obtain ⟨u, v, rfl, hu, hv⟩ := arg2 hs hA
  have := res_int hv
  subst this
  obtain ⟨b, rfl, rfl⟩ := res_str hu
  refine (h.calls b c w).mono fun e w' ⟨he, hw⟩ => ⟨_, he, by subst hw; exact Grow.refl _, .of (.int _ _)⟩

/-- Texts joined. -/
structure JoinAt (P : Program) (f : Nat) : Prop where
  enters : ∀ us w, (callFunc f us).run P w = .ok (.enter f us) w
  calls : ∀ (bk o c : Nat) (xs : List ByteArray) (sep : ByteArray) (w : World), (∀ (j : Nat) x, xs[j]? = some x → w.cell? ⟨bk, o + j, none⟩ = some (.string x)) → bk < w.heap.size → xs.length ≤ 140737488355328 → xs.length ≤ c →
    (Lib.join (xs.map (·.data.toList)) sep.data.toList).length ≤ 140737488355328 →
    Calls P f #[.slice (some ⟨bk, o, none⟩) xs.length c, .string sep] w fun e w' => e = .returned (.string ⟨(Lib.join (xs.map (·.data.toList)) sep.data.toList).toArray⟩) ∧ Below w.heap.size w w'

theorem strsOf_get : ∀ {cs : List PV} {xs : List (List UInt8)}, strsOf cs = some xs → cs = xs.map .str
  | [], xs, h => by cases h; rfl
  | .str s :: r, xs, h => by
    simp only [strsOf] at h
    split at h
    · rename_i l hl
      cases h
      rw [strsOf_get hl]; rfl
    · cases h
  | .undef :: r, xs, h => by cases h
  | .int .. :: r, xs, h => by cases h
  | .bool _ :: r, xs, h => by cases h
  | .raw _ :: r, xs, h => by cases h
  | .agg _ :: r, xs, h => by cases h
  | .tup _ :: r, xs, h => by cases h
  | .sl .. :: r, xs, h => by cases h
  | .nilp :: r, xs, h => by cases h
  | .ptr .. :: r, xs, h => by cases h
  | .hd .. :: r, xs, h => by cases h
  | .vw .. :: r, xs, h => by cases h
  | .ep .. :: r, xs, h => by cases h
  | .box _ :: r, xs, h => by cases h
  | .fn .. :: r, xs, h => by cases h
  | .mp _ :: r, xs, h => by cases h
  | .bp _ :: r, xs, h => by cases h
  | .rf .. :: r, xs, h => by cases h

theorem join_sound {f s : Nat} (h : JoinAt P f) : CallSound P fun f' args hp => if f' = f then primCall (4, s) args hp else none := by
  refine prim_grow h.enters fun args hp r hp' d hc => ?_
  obtain ⟨n, cs, sep, rfl⟩ : ∃ n cs sep, args = [.sl .sh n cs, .str sep] := by
    unfold primCall at hc
    split at hc <;> first | exact ⟨_, _, _, rfl⟩ | (exfalso; rename_i e; cases e; done) | (exfalso; rename_i e _; cases e; done) | (exfalso; rename_i e _ _; cases e; done) | cases hc
  simp only [primCall] at hc
  split at hc
  rotate_left
  · cases hc
  rename_i xs hxs
  split at hc
  rotate_left
  · cases hc
  rename_i hcnd
  cases hc
  obtain ⟨rfl, h0, hN, hlen⟩ := hcnd
  have := strsOf_get hxs
  subst this
  refine ⟨rfl, rfl, fun g w us R hpin hs hA => ?_⟩
  obtain ⟨u, v, rfl, hu, hv⟩ := arg2 hs hA
  obtain ⟨b, rfl, rfl⟩ := res_str hv
  have hV := resV_V hu (fun _ _ _ => nofun) (fun _ _ _ => nofun) (fun _ => nofun)
  obtain ⟨bk, o, c, hle, rfl, hcell⟩ : ∃ bk o c, xs.length ≤ c ∧ u = .slice (some ⟨bk, o, none⟩) xs.length c ∧ ∀ (j : Nat) y, (xs.map PV.str)[j]? = some y → ∃ v, w.cell? ⟨bk, o + j, none⟩ = some v ∧ V g w hp.length v y := by
    generalize hcs : xs.map PV.str = cs at hV
    generalize hn : xs.length = n at hV h0
    cases hV with
    | sl0 a tg => omega
    | sh0 a cap => omega
    | sl tg bk o n cap cs f htg hle hc hv => exact ⟨bk, o, cap, hle, rfl, fun j y hj => ⟨f j, (hc j y hj).2, hv j y hj⟩⟩
  have hb : ∀ j (hj : j < xs.length), ∃ x : ByteArray, w.cell? ⟨bk, o + j, none⟩ = some (.string x) ∧ x.data.toList = xs[j] := fun j hj => by
    obtain ⟨v, h1, h2⟩ := hcell j (.str xs[j]) (by simp [hj])
    obtain ⟨x, rfl, hx⟩ := res_str (.of h2)
    exact ⟨x, h1, hx⟩
  let ys : List ByteArray := xs.map fun l => ⟨l.toArray⟩
  have hys : ys.map (·.data.toList) = xs := by simp [ys, Function.comp_def]
  have hyl : ys.length = xs.length := by simp [ys]
  have hlt : bk < w.heap.size := by
    obtain ⟨x, h1, _⟩ := hb 0 (by omega)
    exact lt_of_cell h1
  have := h.calls bk o c ys b w (fun j x hj => by
    have hj' : j < xs.length := by have := (List.getElem?_eq_some_iff.1 hj).1; omega
    obtain ⟨x', h1, h2⟩ := hb j hj'
    rw [h1]
    simp only [ys, List.getElem?_map, Option.map_eq_some_iff] at hj
    obtain ⟨l, h3, rfl⟩ := hj
    rw [List.getElem?_eq_getElem hj'] at h3
    cases h3
    rw [← h2]) hlt (by rw [hyl]; exact hN) (by rw [hyl]; exact hle) (by rw [hys]; exact hlen)
  rw [hyl, hys] at this
  exact this.mono fun e w' ⟨he, hB⟩ => ⟨_, he, Grow.below hB, .of (V_str' _)⟩

/-- A text split. -/
structure SplitAt (P : Program) (f : Nat) : Prop where
  enters : ∀ us w, (callFunc f us).run P w = .ok (.enter f us) w
  there : ∃ b, P.globalNamed "internal/bytealg.MaxLen" = some b
  calls : ∀ (s : ByteArray) (c : UInt8) (m : Int) (b : Nat) (w : World), P.globalNamed "internal/bytealg.MaxLen" = some b → s.size ≤ 4000000000 → w.cell? ⟨b, 0, none⟩ = some (.int .i64 m) →
    Calls P f #[.string s, .string ⟨#[c]⟩] w fun e w' => ∃ T, e = .returned (.slice (some ⟨w.heap.size, 0, none⟩) (s.data.toList.count c + 1) (s.data.toList.count c + 1)) ∧
      w' = w.alloc (.cells ((Lib.splitB ⟨#[c]⟩ 0 (s.data.toList.count c) s).map Value.string).toArray T)

theorem splitK_L (c : UInt8) : ∀ (l : List UInt8) (n : Nat), l.count c = n → Lib.splitK [c] 0 n l = splitL c l
  | [], n, h => by
    have : n = 0 := by simpa using h.symm
    subst this; rfl
  | b :: l, n, h => by
    unfold splitL
    by_cases e : b = c
    · subst e
      rw [List.count_cons_self] at h
      subst h
      have hi : Lib.index (b :: l) [b] = 0 := by simp [Lib.index]
      rw [if_pos (beq_self_eq_true b)]
      simp only [Lib.splitK, hi]
      rw [if_neg (by decide)]
      simp only [Int.toNat_zero, Nat.add_zero, List.take_zero, Nat.zero_add, List.length_singleton, List.drop_succ_cons, List.drop_zero]
      rw [splitK_L b l _ rfl]
    · rw [List.count_cons_of_ne (fun h => e h)] at h
      have ih := splitK_L c l n h
      rw [if_neg (by simpa using e)]
      have hi : Lib.index (b :: l) [c] = if Lib.index l [c] == -1 then -1 else Lib.index l [c] + 1 := by
        simp only [Lib.index, List.isPrefixOf, Bool.and_true]
        rw [if_neg (by simpa using fun h => e h.symm)]
      have hg := Lib.index_ge l [c]
      cases n with
      | zero =>
        simp only [Lib.splitK] at ih ⊢
        rw [← ih]
      | succ k =>
        simp only [Lib.splitK] at ih ⊢
        rw [hi]
        by_cases hm : Lib.index l [c] = -1
        · rw [hm] at ih ⊢
          simp only [beq_self_eq_true, if_true] at ih ⊢
          rw [← ih]
        · have h1 : (Lib.index l [c] == -1) = false := by simpa using hm
          rw [h1] at ih ⊢
          simp only [Bool.false_eq_true, if_false] at ih ⊢
          have h2 : (Lib.index l [c] + 1 == -1) = false := by simp; omega
          rw [h2]
          simp only [Bool.false_eq_true, if_false]
          rw [← ih]
          have h3 : (Lib.index l [c] + 1).toNat = (Lib.index l [c]).toNat + 1 := by omega
          rw [h3]
          simp only [Nat.add_zero, List.take_succ_cons, List.length_singleton]
          congr 2
theorem splitL_length (c : UInt8) : ∀ l : List UInt8, (splitL c l).length = l.count c + 1
  | [] => rfl
  | b :: l => by
    have ih := splitL_length c l
    unfold splitL
    by_cases e : b = c
    · subst e; simp [ih]
    · rw [if_neg (by simpa using e)]
      rw [List.count_cons_of_ne e]
      split
      · rename_i h; rw [h] at ih; simp at ih
      · rename_i w r h; rw [h] at ih; simpa using ih

theorem split_sound {f s : Nat} (h : SplitAt P f) : CallSound P fun f' args hp => if f' = f then primCall (3, s) args hp else none := by
  refine prim_grow h.enters fun args hp r hp' d hc => ?_
  obtain ⟨t, c, rfl⟩ : ∃ t c, args = [.str t, .str [c]] := by
    unfold primCall at hc
    split at hc <;> first | exact ⟨_, _, rfl⟩ | (exfalso; rename_i e; cases e; done) | (exfalso; rename_i e _; cases e; done) | (exfalso; rename_i e _ _; cases e; done) | cases hc
  simp only [primCall] at hc
  split at hc
  rotate_left
  · cases hc
  rename_i hlen
  cases hc
  refine ⟨rfl, rfl, fun g w us R hpin hs hA => ?_⟩
  obtain ⟨u, v, rfl, hu, hv⟩ := arg2 hs hA
  obtain ⟨b, rfl, rfl⟩ := res_str hu
  obtain ⟨b2, rfl, hb2⟩ := res_str hv
  have hb2 : b2 = ⟨#[c]⟩ := by
    cases b2 with | mk dt => simp at hb2; cases dt with | mk l => simp at hb2; subst hb2; rfl
  subst hb2
  obtain ⟨gb, hgb⟩ := h.there
  obtain ⟨_, m, hm⟩ := hpin.2 gb hgb
  refine (h.calls b c m gb w hgb (by rw [← Array.length_toList] at *; exact hlen) hm).mono fun e w' ⟨T, he, hw⟩ => ⟨_, he, ?_, ?_⟩
  · subst hw; exact Grow.alloc _ _
  · have hd := Lib.splitB_data ⟨#[c]⟩ 0 (b.data.toList.count c) b
    rw [show (⟨#[c]⟩ : ByteArray).data.toList = [c] from rfl, splitK_L c _ _ rfl] at hd
    have hl : (Lib.splitB ⟨#[c]⟩ 0 (b.data.toList.count c) b).length = b.data.toList.count c + 1 := by
      have := congrArg List.length hd
      rw [List.length_map, splitL_length] at this; exact this
    rw [splitL_length, ← hl, ← hd]
    generalize Lib.splitB ⟨#[c]⟩ 0 (b.data.toList.count c) b = ps at hw hl
    subst hw
    have hsz : ((ps.map Value.string).toArray).size = ps.length := by simp
    refine .mu (own_new R (Nat.le_refl _)) (by rw [size_alloc]; exact Nat.lt_succ_self _) (Nat.le_refl _) (by simp) (fun j hj => ?_) (fun j => notImm_new R (Nat.le_refl _) j) (fun j y hy => ?_) (.inr (by omega))
    · rw [Nat.mul_one] at hj
      rw [Nat.zero_add, cell_new]
      exact ⟨by rw [Array.getElem?_eq_getElem (by rw [hsz]; exact hj)]; rfl, frozen_new _ _ _ _⟩
    · rw [Nat.zero_add, cell_new]
      simp only [List.getElem?_map, Option.map_eq_some_iff] at hy
      obtain ⟨_, ⟨x, hx, rfl⟩, rfl⟩ := hy
      exact ⟨.string x, by simp [hx], .str x⟩
end
end Go.PS
end

section
/-
  The methods of a builder, from the kit's contracts of their parts: what they leave of all other memory.
-/
set_option linter.unusedVariables false
namespace Go.PS
open Go.Shelf Go.RowKit Go.Proofs
variable {P : Program} {ρ : Ren}

/-- Other blocks stay. -/
structure Still (b : Nat) (v : Value) (w w' : World) : Prop where
  kept : ∀ k o, w.heap[k]? = some o → k ≠ b → v.ownBlock ≠ some k → w'.heap[k]? = some o
  os : w'.os = w.os
  tape : w'.tape = w.tape
  out : w'.output = w.output
  size : w.heap.size ≤ w'.heap.size
theorem Still.refl (b : Nat) (v : Value) (w : World) : Still b v w w := ⟨fun _ _ h _ _ => h, rfl, rfl, rfl, Nat.le_refl _⟩
theorem Still.trans {b : Nat} {v : Value} {w w1 w2 : World} (h : Still b v w w1) (h' : Still b v w1 w2) : Still b v w w2 :=
  ⟨fun k o hk h1 h2 => h'.kept k o (h.kept k o hk h1 h2) h1 h2, h'.os.trans h.os, h'.tape.trans h.tape, h'.out.trans h.out, Nat.le_trans h.size h'.size⟩
theorem setCell_here {b j : Nat} {cs : Array Value} {T : TypeId} {fz : Nat × Nat} {u : Value} {w : World} (h : w.heap[b]? = some (.cells cs T fz)) : (w.setCell ⟨b, j, none⟩ u).heap[b]? = some (.cells (cs.setIfInBounds j u) T fz) := by
  simp [World.setCell, Array.getElem?_modify, h]
theorem setCell_still {b j : Nat} {v u : Value} {w : World} : Still b v w (w.setCell ⟨b, j, none⟩ u) :=
  ⟨fun k o h hk _ => by rw [Below.heap_setCell _ _ _ _ (fun e => hk e)]; exact h, rfl, rfl, rfl, by simp [World.setCell]⟩
theorem alloc_still {b : Nat} {v : Value} {w : World} (o : Obj) : Still b v w (w.alloc o) :=
  ⟨fun k q h _ _ => by
    have hlt : k < w.heap.size := by
      rcases Nat.lt_or_ge k w.heap.size with h' | h'
      · exact h'
      · rw [Array.getElem?_eq_none h'] at h; cases h
    rw [Lib.alloc_old w o k hlt]; exact h, rfl, rfl, rfl, by simp⟩
theorem grown_still {b : Nat} {v : Value} {w w' : World} (h : w.grownBy w' v.ownBlock) : Still b v w w' :=
  ⟨fun k o hk _ hv => by
    have hlt : k < w.heap.size := by
      rcases Nat.lt_or_ge k w.heap.size with h' | h'
      · exact h'
      · rw [Array.getElem?_eq_none h'] at hk; cases hk
    rw [h.block k hlt (fun e => hv e.symm)]; exact hk, h.os, h.tape, h.output, h.size⟩

/-- Where the longer row lies. -/
theorem own_after {w w' : World} {T U ty e : TypeId} {i : TypeInfo} (hT : P.underlying T = some (.slice e)) (hi : P.info? e = some i) (hz : i.zero = some (.int .u8 0)) (hsize : i.size = 1) (hby : i.bytes = 1)
    {v x v' : Value} {n k : Nat} {xs news : List Value} (hown : w.ownsRowF 0 e 1 v n xs) (hs : Src P 1 U x k news w) (hbytes : n + k ≤ 140737488355328)
    (hrun : (Builtin.append_ #[T, U] ty #[v, x]).run P w = .ok v' w') : v'.ownBlock = v.ownBlock ∨ ∀ q, v'.ownBlock = some q → w.heap.size ≤ q := by
  have hs1 : Src P i.size U x k news w := hsize ▸ hs
  have hnl : news.length = k := by simpa using hs.newsLen
  have fits : ∀ {cap}, cap < n + k → Builtin.nextslicecap (n + k) cap * i.bytes ≤ 281474976710656 := fun h => growslice_fits h (by rw [hby, Nat.mul_one]; exact hbytes)
  have hxl : xs.length = n := by simpa using hown.1
  rcases hown.2 with ⟨rfl, rfl⟩ | ⟨c, cap, cur, fz, rfl, _, hc, hfz, hnc, hcm, hcs, htake⟩
  · rcases Nat.eq_zero_or_pos k with rfl | hk
    · have h0 : news = [] := List.eq_nil_of_length_eq_zero hnl
      subst h0
      have := run_append_nothing (P := P) w T U ty e i hT hi none 0 0 (Nat.le_refl _) x hs1
      rw [hrun] at this
      cases this
      exact .inl rfl
    · have := run_append_grow_src (P := P) w T U ty e i _ hT hi hz none 0 0 [] (run_firstCells_none w.drew i.size 0 0 0) x k news hs1 (by omega) (by omega) (fits (by omega))
      rw [hrun] at this
      cases this
      exact .inr fun q hq => by simp [Value.ownBlock] at hq; omega
  · by_cases hroom : n + k ≤ cap
    · have hcell : ∀ j, j < news.length → (w.cell? ⟨c, 0 + n * i.size + j, none⟩).isSome = true ∧ w.frozen? ⟨c, 0 + n * i.size + j, none⟩ = false := fun j hj => by
        have h1 : n + j < cur.size := by omega
        rw [hsize, Nat.mul_one, Nat.zero_add]
        constructor
        · simp only [World.cell?, hc]
          rw [Array.getElem?_eq_getElem h1]; rfl
        · simp only [World.frozen?, hc]
          simp; omega
      have := run_append_room_src (P := P) w T U ty e i hT hi c 0 n cap x k news hs1 hroom (fun j hj => (hcell j hj).1) (fun j hj => (hcell j hj).2)
      rw [hrun] at this
      cases this
      exact .inl rfl
    · have hold : (Builtin.firstCells i.size n (.slice (some ⟨c, 0, none⟩) n cap)).run P w.drew = .ok xs.toArray w.drew :=
        run_firstCells_some w.drew i.size n ⟨c, 0, none⟩ n cap xs (by rw [hsize]; exact hown.1) (fun j u hu => hown.cells (g := c) rfl j u hu)
      have := run_append_grow_src (P := P) w T U ty e i _ hT hi hz _ n cap xs hold x k news hs1 (by omega) (by omega) (fits (by omega))
      rw [hrun] at this
      cases this
      exact .inr fun q hq => by simp [Value.ownBlock] at hq; omega

theorem wpList_append_run {ops : Array Oper} {rest : List Oper} {o : Oper} {a : Act} {Q : Exit → Act → World → Prop} {w : World} (hgd : o.guard = none) (s x : Operand) (t u : TypeId)
    (ho : o.op = .call { callee := .builtin .append, args := #[s, x], argTypes := #[t, u] }) {v vx v' : Value} {w' : World} (hs : a.eval s = v) (hx : a.eval x = vx)
    (hr : (Builtin.append_ #[t, u] o.type #[v, vx]).run P w = .ok v' w') (h : wpList P ops Q rest (a.put o.dst v') w') : wpList P ops Q (o :: rest) a w := by
  refine wpList_plain hgd fun K hK => ?_
  unfold Oper.wp execOp
  simp only [ho, resolve, invoke, builtin, Sem.run_bind, Sem.run_pure, Result.andThen_ok, List.map_toArray, List.map_cons, List.map_nil, hs, hx, hr]
  exact hK _ _ h

theorem copyCheckW (L : Lays.n240 P ρ) (X : Builder.X72 P ρ) {w : World} {b : Nat} {p v : Value} (hb : w.heap[b]? = some (.cells #[p, v] (ρ.t 72) (0, 0))) (hp : p = .pointer none ∨ p = .pointer (some ⟨b, 0, none⟩)) :
    Calls P (ρ.f 240) #[.pointer (some ⟨b, 0, none⟩)] w fun e w' => e = .returned (.tuple #[]) ∧ w'.heap[b]? = some (.cells #[.pointer (some ⟨b, 0, none⟩), v] (ρ.t 72) (0, 0)) ∧
      (∀ k, k ≠ b → w'.heap[k]? = w.heap[k]?) ∧ Still b v w w' := by
  rcases hp with rfl | rfl
  · refine (Any.Builder_copyCheck_fresh L X b w (by rw [Lib.cell_of_heap hb]; rfl) (by simp [World.shape?, hb]) (Lib.frozen_of_heap hb 0)).mono ?_
    rintro e w' ⟨rfl, rfl⟩
    exact ⟨rfl, by rw [setCell_here hb]; rfl, fun k hk => Below.heap_setCell _ _ _ _ (fun e => hk e), setCell_still⟩
  · refine (Any.Builder_copyCheck_used L X b w (by rw [Lib.cell_of_heap hb]; rfl)).mono ?_
    rintro e w' ⟨rfl, rfl⟩
    exact ⟨rfl, hb, fun _ _ => rfl, Still.refl _ _ _⟩

theorem ownsRowF_same {w w' : World} {e : TypeId} {v : Value} {n : Nat} {xs : List Value} (h : w.ownsRowF 0 e 1 v n xs) (hs : ∀ k, v.ownBlock = some k → w'.heap[k]? = w.heap[k]?) : w'.ownsRowF 0 e 1 v n xs := by
  refine ⟨h.1, ?_⟩
  rcases h.2 with h | ⟨c, cap, cur, fz, rfl, hb, hc, hr⟩
  · exact .inl h
  · exact .inr ⟨c, cap, cur, fz, rfl, hb, (hs c rfl).trans hc, hr⟩

/-- Behind the append, and the store. -/
theorem wrote_of {w w1 w2 : World} {b : Nat} {v v' : Value} {T e : TypeId} {bs bs' : List UInt8} {n : Nat} (hb1 : w1.heap[b]? = some (.cells #[.pointer (some ⟨b, 0, none⟩), v] T (0, 0))) (hTe : T ≠ e) (hne : v.ownBlock ≠ some b) (hsz : w.heap.size ≤ w1.heap.size)
    (s1 : Still b v w w1) (s2 : w1.grownBy w2 v.ownBlock) (hown : w2.ownsRowF 0 e 1 v' n (bs'.map fun c => .int .u8 c.toNat)) (hn : n = bs'.length) (hfresh : v'.ownBlock = v.ownBlock ∨ ∀ q, v'.ownBlock = some q → w1.heap.size ≤ q) :
    w2.heap[b]? = some (.cells #[.pointer (some ⟨b, 0, none⟩), v] T (0, 0)) ∧ Wrote w b v T e bs' (w2.setCell ⟨b, 1, none⟩ v') := by
  subst hn
  have hlt : b < w1.heap.size := by
    rcases Nat.lt_or_ge b w1.heap.size with h' | h'
    · exact h'
    · rw [Array.getElem?_eq_none h'] at hb1; cases hb1
  have hb2 : w2.heap[b]? = some (.cells #[.pointer (some ⟨b, 0, none⟩), v] T (0, 0)) := by
    rw [s2.block b hlt (fun e => hne e.symm)]; exact hb1
  have hne' : v'.ownBlock ≠ some b := Lib.ownBlock_neF hown hb2 hTe
  have st := (s1.trans (grown_still s2)).trans (setCell_still (b := b) (v := v) (w := w2) (j := 1) (u := v'))
  refine ⟨hb2, ⟨⟨.pointer (some ⟨b, 0, none⟩), v', by rw [setCell_here hb2]; rfl, .inr rfl, ?_, hne', ?_⟩, st.kept, st.os, st.tape, st.out, st.size⟩⟩
  · exact ownsRowF_same hown fun k hk => Below.heap_setCell _ _ _ _ (fun e => hne' (by rw [hk, e]))
  · rcases hfresh with h | h
    · exact .inl h
    · exact .inr fun k hk => Nat.le_trans hsz (h k hk)

theorem byteAppend {w w1 : World} {T0 T e ty : TypeId} {i0 : TypeInfo} {b : Nat} {v : Value} {bs : List UInt8} {c : Int} (hT : P.underlying T = some (.slice e)) (hi : P.info? e = some i0) (hz0 : i0.zero = some (.int .u8 0)) (hz1 : i0.size = 1) (hz2 : i0.bytes = 1)
    (hTe : T0 ≠ e) (hb1 : w1.heap[b]? = some (.cells #[.pointer (some ⟨b, 0, none⟩), v] T0 (0, 0))) (hne : v.ownBlock ≠ some b) (hsz : w.heap.size ≤ w1.heap.size) (s1 : Still b v w w1) (hown : w1.ownsRowF 0 e 1 v bs.length (bs.map fun c => .int .u8 c.toNat))
    (h0 : 0 ≤ c) (h1 : c < 256) (hlen : bs.length + 1 ≤ 140737488355328) :
    ∃ v' w2, (Builtin.append_ #[T, T] ty #[v, .slice (some ⟨w1.heap.size, 0, none⟩) 1 1]).run P (w1.alloc (.cells #[.int .u8 c] e)) = .ok v' w2 ∧ w2.heap[b]? = some (.cells #[.pointer (some ⟨b, 0, none⟩), v] T0 (0, 0)) ∧
      Wrote w b v T0 e (bs ++ [UInt8.ofNat c.toNat]) (w2.setCell ⟨b, 1, none⟩ v') ∧ ∃ c' cap, v' = .slice (some ⟨c', 0, none⟩) (bs.length + 1) cap := by
  have hcell : (.int .u8 c : Value) = .int .u8 ((UInt8.ofNat c.toNat).toNat) := by
    have : (UInt8.ofNat c.toNat).toNat = c.toNat := by simp; omega
    rw [this]
    congr 1; omega
  have hlt : b < w1.heap.size := by
    rcases Nat.lt_or_ge b w1.heap.size with h' | h'
    · exact h'
    · rw [Array.getElem?_eq_none h'] at hb1; cases hb1
  have hnews : ∀ j u, ([.int .u8 c] : List Value)[j]? = some u → (w1.alloc (.cells #[.int .u8 c] e)).cell? ((⟨w1.heap.size, 0, none⟩ : Addr).add j) = some u := fun j u hj => by
    cases j with
    | zero => simp at hj; subst hj; simp [Addr.add]
    | succ j => simp at hj
  have hone : ∀ u ∈ ([.int .u8 c] : List Value), u.oneCell' = true := fun u hu => by simp at hu; subst hu; rfl
  obtain ⟨v', w2, hr, hown', hgrow, _⟩ := run_append_ownF (P := P) (w1.alloc (.cells #[.int .u8 c] e)) 0 T ty e i0 (.int .u8 0) 1 1 hT hi hz0 hz1 hz2 rfl (by decide) v bs.length _ (hown.alloc _) ⟨w1.heap.size, 0, none⟩ 1 1 [.int .u8 c] rfl
    hnews hone (by unfold maxLen; omega) (by omega) (Nat.zero_le _)
  have hfr := own_after (ty := ty) hT hi hz0 hz1 hz2 (hown.alloc (.cells #[.int .u8 c] e)) (Src.ofSlice _ hT ⟨w1.heap.size, 0, none⟩ 1 1 [.int .u8 c] rfl hnews hone) hlen hr
  obtain ⟨hb2, hw⟩ := wrote_of (w := w) (w1 := w1.alloc (.cells #[.int .u8 c] e)) (bs := bs) (bs' := bs ++ [UInt8.ofNat c.toNat]) (by rw [Lib.alloc_old w1 _ b hlt]; exact hb1) hTe hne (by rw [size_alloc]; omega) (s1.trans (alloc_still _)) hgrow (by
    rw [List.map_append, List.map_cons, List.map_nil, ← hcell]; exact hown') (by rw [List.length_append]; rfl) hfr
  refine ⟨v', w2, hr, hb2, hw, ?_⟩
  rcases hown'.2 with ⟨_, h0⟩ | ⟨c', cap, cur, fz, hv, _⟩
  · omega
  · exact ⟨c', cap, hv⟩

set_option maxHeartbeats 2000000 in
set_option maxRecDepth 100000 in
/-- A byte comes to a builder. -/
theorem writeByteW (L : Lays.n167 P ρ) (X : Builder.Extra P ρ) {w : World} {b : Nat} {p v : Value} {bs : List UInt8} (hb : w.heap[b]? = some (.cells #[p, v] (ρ.t 72) (0, 0))) (hp : p = .pointer none ∨ p = .pointer (some ⟨b, 0, none⟩))
    (hrow : w.ownsRowF 0 (ρ.t 5) 1 v bs.length (bs.map fun c => .int .u8 c.toNat)) (hne : v.ownBlock ≠ some b) (c : Int) (h0 : 0 ≤ c) (h1 : c < 256) (hlen : bs.length + 1 ≤ 140737488355328) :
    Calls P (ρ.f 167) #[.pointer (some ⟨b, 0, none⟩), .int .u8 c] w fun e w' => e = .returned .nilIface ∧ Wrote w b v (ρ.t 72) (ρ.t 5) (bs ++ [UInt8.ofNat c.toNat]) w' := by
  obtain ⟨i0, hi, hz0, hz1, hz2⟩ := info_parts X.infoByte
  have mixed := L.mixed
  have t72 := L.t72; have a72 := L.a72; have z72 := L.z72; have v72 := L.v72; have u72 := run_underlying L.t72
  have t70 := L.t70; have a70 := L.a70; have z70 := L.z70; have v70 := L.v70; have u70 := run_underlying L.t70
  have t5 := L.t5; have a5 := L.a5; have z5 := L.z5; have v5 := L.v5; have u5 := run_underlying L.t5
  have t37 := L.t37; have a37 := L.a37; have z37 := L.z37; have v37 := L.v37; have u37 := run_underlying L.t37
  have t9 := L.t9; have a9 := L.a9; have z9 := L.z9; have v9 := L.v9; have u9 := run_underlying L.t9
  have t4 := L.t4; have a4 := L.a4; have z4 := L.z4; have v4 := L.v4; have u4 := run_underlying L.t4
  have t164 := L.t164; have a164 := L.a164; have z164 := L.z164; have v164 := L.v164; have u164 := run_underlying L.t164
  have e240 : ∀ args w, (callFunc (ρ.f 240) args).run P w = .ok (.enter (ρ.f 240) args) w := enters_of L.f240 (by kernel_rfl) rfl
  go_enter L.f167, Body.n167_ntmps ρ
  go_wp2_with (go_at_fn (ρ.f 240); refine (copyCheckW { L with } X.toX72 hb hp).mono ?_)
  rintro e w1 ⟨rfl, hb1, hk1, s1⟩
  have hlt : b < w1.heap.size := by
    rcases Nat.lt_or_ge b w1.heap.size with h' | h'
    · exact h'
    · rw [Array.getElem?_eq_none h'] at hb1; cases hb1
  have hown := ownsRowF_same hrow (w' := w1) fun k hk => hk1 k (fun e => hne (by rw [hk, e]))
  have c0 : w1.cell? ⟨b, 0, none⟩ = some (.pointer (some ⟨b, 0, none⟩)) := by rw [Lib.cell_of_heap hb1]; rfl
  have c1 : w1.cell? ⟨b, 1, none⟩ = some v := by rw [Lib.cell_of_heap hb1]; rfl
  obtain ⟨v', w2, hr, hb2, hw, c', cap, rfl⟩ := byteAppend (e := ρ.t 5) (ty := ρ.t 37) L.t37 hi hz0 hz1 hz2 X.neB5 hb1 hne s1.size s1 hown h0 h1 hlen
  have d0 : w2.cell? ⟨b, 0, none⟩ = some (.pointer (some ⟨b, 0, none⟩)) := by rw [Lib.cell_of_heap hb2]; rfl
  have d1 : w2.cell? ⟨b, 1, none⟩ = some v := by rw [Lib.cell_of_heap hb2]; rfl
  have f1 : w2.frozen? ⟨b, 1, none⟩ = false := Lib.frozen_of_heap hb2 1
  go_wp2_with (at_builtin; refine wpList_append_run (v := v) (vx := .slice (some ⟨w1.heap.size, 0, none⟩) 1 1) rfl _ _ (ρ.t 37) (ρ.t 37) rfl rfl rfl hr ?_)
  go_wp2
  go_ret
  exact ⟨rfl, hw⟩

set_option maxHeartbeats 2000000 in
set_option maxRecDepth 100000 in
/-- A text comes to a builder. -/
theorem writeStringW (L : Lays.n166 P ρ) (X : Builder.Extra P ρ) {w : World} {b : Nat} {p v : Value} {bs : List UInt8} (hb : w.heap[b]? = some (.cells #[p, v] (ρ.t 72) (0, 0))) (hp : p = .pointer none ∨ p = .pointer (some ⟨b, 0, none⟩))
    (hrow : w.ownsRowF 0 (ρ.t 5) 1 v bs.length (bs.map fun c => .int .u8 c.toNat)) (hne : v.ownBlock ≠ some b) (s : ByteArray) (hlen : bs.length + s.size ≤ 140737488355328) :
    Calls P (ρ.f 166) #[.pointer (some ⟨b, 0, none⟩), .string s] w fun e w' => e = .returned (.tuple #[.int .i64 s.size, .nilIface]) ∧ Wrote w b v (ρ.t 72) (ρ.t 5) (bs ++ s.data.toList) w' := by
  obtain ⟨i0, hi, hz0, hz1, hz2⟩ := info_parts X.infoByte
  have mixed := L.mixed
  have t72 := L.t72; have a72 := L.a72; have z72 := L.z72; have v72 := L.v72; have u72 := run_underlying L.t72
  have t70 := L.t70; have a70 := L.a70; have z70 := L.z70; have v70 := L.v70; have u70 := run_underlying L.t70
  have t37 := L.t37; have a37 := L.a37; have z37 := L.z37; have v37 := L.v37; have u37 := run_underlying L.t37
  have t3 := L.t3; have a3 := L.a3; have z3 := L.z3; have v3 := L.v3; have u3 := run_underlying L.t3
  have t9 := L.t9; have a9 := L.a9; have z9 := L.z9; have v9 := L.v9; have u9 := run_underlying L.t9
  have t4 := L.t4; have a4 := L.a4; have z4 := L.z4; have v4 := L.v4; have u4 := run_underlying L.t4
  have t164 := L.t164; have a164 := L.a164; have z164 := L.z164; have v164 := L.v164; have u164 := run_underlying L.t164
  have t5 := X.t5; have a5 := X.a5; have z5 := X.z5; have v5 := X.v5; have u5 := run_underlying X.t5
  have e240 : ∀ args w, (callFunc (ρ.f 240) args).run P w = .ok (.enter (ρ.f 240) args) w := enters_of L.f240 (by kernel_rfl) rfl
  go_enter L.f166, Body.n166_ntmps ρ
  go_wp2_with (go_at_fn (ρ.f 240); refine (copyCheckW { L with } X.toX72 hb hp).mono ?_)
  rintro e w1 ⟨rfl, hb1, hk1, s1⟩
  have hlt : b < w1.heap.size := by
    rcases Nat.lt_or_ge b w1.heap.size with h' | h'
    · exact h'
    · rw [Array.getElem?_eq_none h'] at hb1; cases hb1
  have hown := ownsRowF_same hrow (w' := w1) fun k hk => hk1 k (fun e => hne (by rw [hk, e]))
  have c0 : w1.cell? ⟨b, 0, none⟩ = some (.pointer (some ⟨b, 0, none⟩)) := by rw [Lib.cell_of_heap hb1]; rfl
  have c1 : w1.cell? ⟨b, 1, none⟩ = some v := by rw [Lib.cell_of_heap hb1]; rfl
  obtain ⟨v', w2, hr, hown', hgrow, _⟩ := Lib.run_append_own_stringF (P := P) w1 0 (ρ.t 37) (ρ.t 9) (ρ.t 37) (ρ.t 5) i0 L.t37 L.t9 hi hz0 hz1 hz2 v bs.length _ hown s (by unfold maxLen; omega) hlen (Nat.zero_le _)
  have hfr := own_after (ty := ρ.t 37) L.t37 hi hz0 hz1 hz2 hown (Src.ofString _ L.t9 s) hlen hr
  have hsl : s.data.toList.length = s.size := by rw [Array.length_toList]; rfl
  obtain ⟨hb2, hw⟩ := wrote_of (w := w) (w1 := w1) (bs := bs) (bs' := bs ++ s.data.toList) hb1 X.neB5 hne s1.size s1 hgrow (by
    rw [List.map_append]; exact hown') (by simp [hsl]) hfr
  have d0 : w2.cell? ⟨b, 0, none⟩ = some (.pointer (some ⟨b, 0, none⟩)) := by rw [Lib.cell_of_heap hb2]; rfl
  have d1 : w2.cell? ⟨b, 1, none⟩ = some v := by rw [Lib.cell_of_heap hb2]; rfl
  have f1 : w2.frozen? ⟨b, 1, none⟩ = false := Lib.frozen_of_heap hb2 1
  obtain ⟨ao, n', cap, rfl⟩ : ∃ ao n' cap, v' = .slice ao n' cap := by
    rcases hown'.2 with ⟨hv, _⟩ | ⟨c', cap, cur, fz, hv, _⟩
    · exact ⟨_, _, _, hv⟩
    · exact ⟨_, _, _, hv⟩
  go_wp2_with (at_builtin; refine wpList_append_run (v := v) (vx := .string s) rfl _ _ (ρ.t 37) (ρ.t 9) rfl rfl rfl hr ?_)
  go_wp2
  go_ret2
  exact ⟨rfl, hw⟩

theorem freeze_still {w : World} {b c n : Nat} {v : Value} (hv : v.ownBlock = some c) : Still b v w (w.freeze ⟨c, 0, none⟩ n) :=
  ⟨fun k o h _ hk => by
    have hne : c ≠ k := fun e => hk (by rw [hv, e])
    unfold World.freeze
    split
    · first | exact h | (show (w.heap.modify _ _)[k]? = _; rw [Array.getElem?_modify, if_neg hne]; exact h)
    · first | exact h | (show (w.heap.modify _ _)[k]? = _; rw [Array.getElem?_modify, if_neg hne]; exact h), by unfold World.freeze; split <;> rfl, by unfold World.freeze; split <;> rfl, by unfold World.freeze; split <;> rfl, by unfold World.freeze; split <;> simp⟩

set_option maxHeartbeats 2000000 in
set_option maxRecDepth 100000 in
/-- What a builder holds. -/
theorem stringW (L : Lays.n169 P ρ) (X : Builder.Extra P ρ) {w : World} {b : Nat} {p v : Value} {bs : List UInt8} (hb : w.heap[b]? = some (.cells #[p, v] (ρ.t 72) (0, 0))) (hp : p = .pointer none ∨ p = .pointer (some ⟨b, 0, none⟩))
    (hrow : w.ownsRowF 0 (ρ.t 5) 1 v bs.length (bs.map fun c => .int .u8 c.toNat)) (hne : v.ownBlock ≠ some b) (hl0 : 0 < bs.length) :
    Calls P (ρ.f 169) #[.pointer (some ⟨b, 0, none⟩)] w fun e w' => e = .returned (.string ⟨bs.toArray⟩) ∧ Wrote w b v (ρ.t 72) (ρ.t 5) bs w' := by
  obtain ⟨c, cap, cur, fz, rfl, hc, hnc, hcm, hcs⟩ : ∃ c cap cur fz, v = .slice (some ⟨c, 0, none⟩) bs.length cap ∧ w.heap[c]? = some (.cells cur (ρ.t 5) fz) ∧ bs.length ≤ cap ∧ cap ≤ maxLen ∧ cur.size = cap * 1 := by
    rcases hrow.2 with ⟨_, hz⟩ | ⟨c, cap, cur, fz, hv, _, h1, _, h2, h3, h4, _⟩
    · omega
    · exact ⟨c, cap, cur, fz, hv, h1, h2, h3, h4⟩
  have c1 : w.drew.cell? ⟨b, 1, none⟩ = some (.slice (some ⟨c, 0, none⟩) bs.length cap) := by
    have : w.drew.heap[b]? = some (.cells #[p, .slice (some ⟨c, 0, none⟩) bs.length cap] (ρ.t 72) (0, 0)) := hb
    rw [Lib.cell_of_heap this]; rfl
  have hSD : (Builtin.unsafeSliceData_ #[(ρ.t 37)] (ρ.t 127) #[.slice (some ⟨c, 0, none⟩) bs.length cap]).run P w.drew = .ok (.pointer (some ⟨c, 0, none⟩)) w.drew :=
    Lib.run_unsafeSliceData_row _ _ _ _ _ _ (by omega)
  have hUS : (Builtin.unsafeString_ #[(ρ.t 127), (ρ.t 3)] (ρ.t 9) #[.pointer (some ⟨c, 0, none⟩), .int .i64 bs.length]).run P w.drew = .ok (.string ⟨bs.toArray⟩) (w.drew.freeze ⟨c, 0, none⟩ bs.length) := by
    refine Lib.run_unsafeString_row w.drew (ρ.t 127) (ρ.t 3) (ρ.t 9) (ρ.t 5) L.t127 X.cellsByte c cur.size (by have hg' : w.drew.heap[c]? = some (.cells cur (ρ.t 5) fz) := hc; simp [World.shape?, hg']) bs (fun e => by rw [e] at hl0; exact absurd hl0 (by decide)) (by omega) (by unfold maxLen at hcm; omega) ?_
    intro j x hx
    exact hrow.cells (g := c) rfl j (.int .u8 x.toNat) (by simp [hx])
  have hW : Wrote w b (.slice (some ⟨c, 0, none⟩) bs.length cap) (ρ.t 72) (ρ.t 5) bs (w.drew.freeze ⟨c, 0, none⟩ bs.length) := by
    have hcb : c ≠ b := fun e => hne (by rw [← e]; rfl)
    have hA : Lib.BuilderAtF (ρ.t 72) (ρ.t 5) 0 b p (bs.map fun c => .int .u8 c.toNat) w.drew := ⟨Nat.zero_le _, _, hb, by rw [List.length_map]; exact hrow, hne⟩
    obtain ⟨_, v', hb', hown', hne'⟩ := hA.froze (g := c) (cap := cap) (by rw [List.length_map]; exact c1)
    rw [List.length_map] at hb' hown'
    have st : Still b (.slice (some ⟨c, 0, none⟩) bs.length cap) w (w.drew.freeze ⟨c, 0, none⟩ bs.length) :=
      Still.trans (w1 := w.drew) ⟨fun _ _ h _ _ => h, rfl, rfl, rfl, Nat.le_refl _⟩ (freeze_still rfl)
    have hb2 : (w.drew.freeze ⟨c, 0, none⟩ bs.length).heap[b]? = some (.cells #[p, .slice (some ⟨c, 0, none⟩) bs.length cap] (ρ.t 72) (0, 0)) := by
      have hcc : w.drew.heap[c]? = some (.cells cur (ρ.t 5) fz) := hc
      unfold World.freeze
      split
      · first | exact hb | (show (w.drew.heap.modify _ _)[b]? = _; rw [Array.getElem?_modify, if_neg hcb]; exact hb)
      · first | exact hb | (show (w.drew.heap.modify _ _)[b]? = _; rw [Array.getElem?_modify, if_neg hcb]; exact hb)
    rw [hb2] at hb'
    cases hb'
    exact ⟨⟨p, _, hb2, hp, hown', hne', .inl rfl⟩, st.kept, st.os, st.tape, st.out, st.size⟩
  have mixed := L.mixed
  have t72 := L.t72; have a72 := L.a72; have z72 := L.z72; have v72 := L.v72; have u72 := run_underlying L.t72
  have t70 := L.t70; have a70 := L.a70; have z70 := L.z70; have v70 := L.v70; have u70 := run_underlying L.t70
  have t37 := L.t37; have a37 := L.a37; have z37 := L.z37; have v37 := L.v37; have u37 := run_underlying L.t37
  have t127 := L.t127; have a127 := L.a127; have z127 := L.z127; have v127 := L.v127; have u127 := run_underlying L.t127
  have t3 := L.t3; have a3 := L.a3; have z3 := L.z3; have v3 := L.v3; have u3 := run_underlying L.t3
  have t9 := L.t9; have a9 := L.a9; have z9 := L.z9; have v9 := L.v9; have u9 := run_underlying L.t9
  have t5 := X.t5; have a5 := X.a5; have z5 := X.z5; have v5 := X.v5; have u5 := run_underlying X.t5
  clear hc hcs hrow
  go_enter L.f169, Body.n169_ntmps ρ
  go_wp2
  go_region_o
  all_goals (go_wp2; go_ret; exact ⟨rfl, hW⟩)

end Go.PS
end
