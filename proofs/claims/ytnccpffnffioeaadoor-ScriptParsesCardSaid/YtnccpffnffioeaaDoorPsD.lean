/-
  An evaluator of the model on pure values, and its soundness: what evalCall answers for a function and its arguments, the function returns in the model, and nothing older turns. Part 4.
-/
import Derived.Test.YtnccpffnffioeaaDoorPsC
import Derived.ChangeMade
import Derived.RowKit3
import Derived.ChangeSame
import Derived.ReadAgain
import Derived.ChangeArms
import Derived.DataReads
import Derived.DataElems

set_option linter.all false
section
/-
  Regions that ask for their order: what an operation does, and what it hangs on.
-/
namespace Go.PS
section
variable {g g' g1 g2 : G} {w w' w1 w2 : World} {hn hn' : Nat} {tm : Array Value} {fr fr' : Fr} {hp hp' hp1 hp2 : Heap} {P : Program} {t : Nat} {st s2 st1 s' : St} {H : Hint} {own : FuncId → Option Nat} {callF : CallF} {ops : Array Oper} {o : Oper}

def Live (st : St) : Prop := ∀ t t' pre, refOf (get st.fr t) = some (.slot t', pre) → rootOk pre (get st.fr t') = true
def Near (L : List Nat) (st s2 : St) : Prop := ∀ t ∈ L, get s2.fr t = get st.fr t ∧ ∀ s pre, refOf (get st.fr t) = some (.slot s, pre) → get s2.fr s = get st.fr s
def NearH (L : List Nat) (st s2 : St) : Prop := ∀ t ∈ L, ∀ i pre, refOf (get st.fr t) = some (.heap i, pre) → s2.hp[i]? = st.hp[i]?

structure Ef where
  v : PV
  K : PV → PV
  W : Option (Nat × PV)
  H : Heap → Heap
  D : Bool → Bool

def Ef.at (e : Ef) (u : Nat) (old : PV) : PV := match e.W with | some (s, c) => if u = s then c else e.K old | none => e.K old
structure Eff (e : Ef) (dst : Option Nat) (st s' : St) : Prop where
  get : ∀ u, PS.get s'.fr u = if dst = some u then e.v else e.at u (PS.get st.fr u)
  hp : s'.hp = e.H st.hp
  base : s'.base = st.base
  dirty : s'.dirty = e.D st.dirty

def hits (k : Wk) (v : PV) : Bool := match k with | .none => false | .heap => viewH v | .slot s => (rootS v).contains s
def lvl : Cl → Nat
  | .pure n _ => n
  | .heavy _ => 2

def Facts (e : Ef) (c : Cl) (L : List Nat) (dst : Option Nat) (st : St) : Prop := match c with
  | .pure n F => e.W = none ∧ (∀ v, e.K v = v) ∧ (∀ h, e.H h = h) ∧ (∀ d, e.D d = d) ∧ (n = 0 → viewH e.v = false ∧ ∀ t ∈ L, viewH (get st.fr t) = false) ∧
      (∀ s, F.contains s = false → s ∉ L ∧ (∀ t ∈ L, (rootS (get st.fr t)).contains s = false) ∧ (rootS e.v).contains s = false ∧ dst ≠ some s)
  | .heavy k => (∀ v, e.K v = v ∨ (e.K v = .undef ∧ hits k v = true)) ∧ (match k with
      | .slot s => (∃ c, e.W = some (s, c)) ∧ (∀ h, e.H h = h) ∧ dst ≠ some s ∧ rooty (get st.fr s) = true
      | _ => e.W = none)

theorem noRef (hl : Live st) {d : Nat} (hd : rooty (get st.fr d) = false) (u : Nat) (pre : Option Nat) : refOf (get st.fr u) ≠ some (.slot d, pre) := fun h => by
  have := rooty_of_rootOk (hl u d pre h)
  rw [hd] at this; cases this
theorem on_noRef {d : Nat} {v : PV} (h : ∀ pre, refOf v ≠ some (.slot d, pre)) : (Kill.slot d).on v = v := by
  rcases on_cases (.slot d) v with h' | ⟨_, r, pre, h1, h2⟩
  · exact h'
  · simp [Kill.hits] at h2; subst h2; exact (h pre h1).elim

def kdst (dst : Option Nat) (v : PV) : PV := match dst with | some d => (Kill.slot d).on v | none => v
theorem get_setSlot (hl : Live st) (hi : idle st o = true) (v : PV) (u : Nat) : get (setSlot st o.dst v).fr u = if o.dst = some u then kdst o.dst v else get st.fr u := by
  unfold idle at hi
  cases hd : o.dst with
  | none => simp [setSlot]
  | some d =>
    rw [hd] at hi
    have hr : rooty (get st.fr d) = false := by simpa using hi
    simp only [setSlot, Option.some.injEq, kdst]
    by_cases h : d = u
    · subst h; rw [if_pos rfl, get_setFr_same]
    · rw [if_neg h, get_setFr _ _ _ _ h (fun pre h' => (noRef hl hr u pre h').elim)]
      exact on_noRef fun pre => noRef hl hr u pre
theorem viewH_kdst {dst : Option Nat} {v : PV} (h : viewH v = false) : viewH (kdst dst v) = false := by
  cases dst with
  | none => exact h
  | some d => rcases on_cases (.slot d) v with h' | ⟨h', _⟩
              · simp only [kdst]; rw [h']; exact h
              · simp only [kdst]; rw [h']; rfl
theorem rootS_kdst {dst : Option Nat} {v : PV} {s : Nat} (h : (rootS v).contains s = false) : (rootS (kdst dst v)).contains s = false := by
  cases dst with
  | none => exact h
  | some d => rcases on_cases (.slot d) v with h' | ⟨h', _⟩
              · simp only [kdst]; rw [h']; exact h
              · simp only [kdst]; rw [h']; rfl

theorem tmp_looks {t : Nat} (h : Operand.tmp t ∈ o.op.operands.toList) : t ∈ o.looksAt ops := by
  unfold Oper.looksAt
  exact List.mem_append_left _ (List.mem_filterMap.2 ⟨_, h, rfl⟩)

/-- The facts of a pure step. -/
theorem pureFacts {n : Nat} {v : PV} (hn : n = 0 → viewH v = false ∧ ∀ t ∈ o.looksAt ops, viewH (get st.fr t) = false) :
    Facts ⟨kdst o.dst v, fun v => v, none, fun h => h, fun d => d⟩ (.pure n (foot ops st o v)) (o.looksAt ops) o.dst st := by
  refine ⟨rfl, fun _ => rfl, fun _ => rfl, fun _ => rfl, fun h => ⟨viewH_kdst (hn h).1, (hn h).2⟩, fun s hs => ?_⟩
  have hs : s ∉ foot ops st o v := by simpa using hs
  unfold foot at hs
  simp only [List.mem_append, List.mem_flatMap, List.mem_cons, not_or, not_exists, not_and] at hs
  obtain ⟨⟨h1, h2⟩, h3⟩ := hs
  refine ⟨fun h => (h1 s h).1 rfl, fun t ht => by simpa using (h1 t ht).2, rootS_kdst (by simpa using h2), fun h => h3 (by simp [h])⟩

theorem depth_zero {v : PV} (h : depth ops st o v = 0) : viewH v = false ∧ (∀ t ∈ o.looksAt ops, viewH (get st.fr t) = false) ∧ (plainOp o.op = false → ∀ t ∈ o.looksAt ops, refH (get st.fr t) = false) := by
  unfold depth at h
  split at h
  · cases h
  · rename_i hn
    simp only [Bool.or_eq_true, not_or, Bool.not_eq_true, List.any_eq_false] at hn
    obtain ⟨h1, h2⟩ := hn
    refine ⟨h1, fun t ht => ?_, fun hp t ht => ?_⟩
    · have := h2 t ht
      unfold touch at this
      split at this
      · simpa using this
      · have h3 : refH (get st.fr t) = false := by simpa using this
        unfold refH at h3
        unfold viewH
        split at h3
        · cases h3
        · rename_i hne
          split
          · rename_i i q hq; exact (hne i _ hq).elim
          · rfl
    · have := h2 t ht
      unfold touch at this
      rw [hp] at this
      simpa using this
theorem depth_same {v : PV} (hn : Near (o.looksAt ops) st s2) : depth ops s2 o v = depth ops st o v := by
  unfold depth
  have : (o.looksAt ops).any (fun t => touch o.op (get s2.fr t)) = (o.looksAt ops).any (fun t => touch o.op (get st.fr t)) := by
    rw [Bool.eq_iff_iff]
    simp only [List.any_eq_true]
    constructor
    · rintro ⟨t, ht, h⟩; rw [(hn t ht).1] at h; exact ⟨t, ht, h⟩
    · rintro ⟨t, ht, h⟩; rw [← (hn t ht).1] at h; exact ⟨t, ht, h⟩
  rw [this]
theorem foot_same {v : PV} (hn : Near (o.looksAt ops) st s2) : foot ops s2 o v = foot ops st o v := by
  unfold foot
  have : (o.looksAt ops).flatMap (fun t => t :: rootS (get s2.fr t)) = (o.looksAt ops).flatMap (fun t => t :: rootS (get st.fr t)) := by
    rw [List.flatMap_def, List.flatMap_def]
    congr 1
    exact List.map_congr_left fun t ht => by rw [(hn t ht).1]
  rw [this]
theorem known_same (hn : Near (o.looksAt ops) st s2) : ((o.looksAt ops).all fun t => known (get s2.fr t)) = ((o.looksAt ops).all fun t => known (get st.fr t)) := by
  rw [Bool.eq_iff_iff]
  simp only [List.all_eq_true]
  constructor
  · intro h t ht; rw [← (hn t ht).1]; exact h t ht
  · intro h t ht; rw [(hn t ht).1]; exact h t ht

theorem refH_of {v : PV} {i : Nat} {pre : Option Nat} (h : refOf v = some (.heap i, pre)) : refH v = true := by unfold refH; rw [h]
theorem sameRoot_near (hn : Near (o.looksAt ops) st s2) {t : Nat} (ht : t ∈ o.looksAt ops) (hh : refH (get st.fr t) = true → NearH (o.looksAt ops) st s2) : SameRoot st s2 (get st.fr t) := by
  intro r pre hr
  cases r with
  | slot s => exact (hn t ht).2 s pre hr
  | heap i => simp only [rootPV]; rw [hh (refH_of hr) t ht i pre hr]
theorem opv_near (hn : Near (o.looksAt ops) st s2) {x : Operand} (hx : x ∈ o.op.operands.toList) : opv s2.fr x = opv st.fr x :=
  opv_get fun t e => (hn t (tmp_looks (by rw [← e]; exact hx))).1
theorem sameRoot_opv (hn : Near (o.looksAt ops) st s2) {x : Operand} (hx : x ∈ o.op.operands.toList) (hh : ∀ t, x = .tmp t → refH (get st.fr t) = true → NearH (o.looksAt ops) st s2) : SameRoot st s2 (opv st.fr x) := by
  cases x with
  | tmp t =>
    have ht : t ∈ o.looksAt ops := tmp_looks hx
    intro r pre hr
    simp only [opv] at hr
    split at hr
    · rename_i cs hg
      simp only [refOf, Option.some.injEq, Prod.mk.injEq] at hr
      obtain ⟨rfl, rfl⟩ := hr
      exact (hn t ht).1
    · exact sameRoot_near hn ht (hh t rfl) r pre hr
  | const u => intro r pre hr; simp only [opv, refOf_const] at hr; cases hr
  | global n => intro r pre hr; cases hr
  | func f => intro r pre hr; cases hr
/-- In a step of depth 0 that is not plain nothing leads to the heap. -/
theorem nearH_of {v : PV} (hp : plainOp o.op = false) (hh : 1 ≤ depth ops st o v → NearH (o.looksAt ops) st s2) {t : Nat} (ht : t ∈ o.looksAt ops) (h : refH (get st.fr t) = true) : NearH (o.looksAt ops) st s2 := by
  rcases Nat.eq_zero_or_pos (depth ops st o v) with h0 | h0
  · have := (depth_zero h0).2.2 hp t ht
    rw [h] at this; cases this
  · exact hh h0
theorem stepA_near {v : PV} (hn : Near (o.looksAt ops) st s2) (hh : 1 ≤ depth ops st o v → NearH (o.looksAt ops) st s2) : stepA P s2 o = stepA P st o := by
  refine stepA_same (fun x hx => opv_near hn hx) (fun t ht => (hn t (tmp_looks ht)).1) ?_
  cases hp : plainOp o.op with
  | true => exact .inl rfl
  | false => exact .inr fun x hx => sameRoot_opv hn hx fun t e h => nearH_of hp hh (tmp_looks (by rw [← e]; exact hx)) h

theorem get_dropSlot (hl : Live st) {d : Nat} (hd : rooty (get st.fr d) = false) (c : PV) (u : Nat) : get ((d, c) :: drop d st.fr) u = if some d = some u then c else get st.fr u := by
  rw [get_cons]
  by_cases h : d = u
  · subst h; simp
  · rw [if_neg h, if_neg (by simpa using h), get_drop, if_neg h]
    exact on_noRef fun pre => noRef hl hd u pre

end
end Go.PS
end

section
/-
  Regions that ask for their order: the operations, one by one.
-/
namespace Go.PS
section
variable {g g' g1 g2 : G} {w w' w1 w2 : World} {hn hn' : Nat} {tm : Array Value} {fr fr' : Fr} {hp hp' hp1 hp2 : Heap} {P : Program} {t : Nat} {st s2 st1 s' : St} {H : Hint} {own : FuncId → Option Nat} {callF : CallF} {ops : Array Oper} {o : Oper} {c : Cl}

/-- The same, of a part of the step. -/
def Shape1 (F : St → Option (St × Cl)) (ops : Array Oper) (st s' : St) (o : Oper) (c : Cl) : Prop :=
  ∃ e, Eff e o.dst st s' ∧ Facts e c (o.looksAt ops) o.dst st ∧
    ∀ s2, s2.base = st.base → Near (o.looksAt ops) st s2 → (1 ≤ lvl c → NearH (o.looksAt ops) st s2) → (2 ≤ lvl c → s2.hp = st.hp) → idle s2 o = true → Live s2 →
      ∃ s2', F s2 = some (s2', c) ∧ Eff e o.dst s2 s2'

def pureEf (dst : Option Nat) (v : PV) : Ef := ⟨kdst dst v, fun v => v, none, fun h => h, fun d => d⟩
theorem eff_pure (hl : Live st) (hi : idle st o = true) (v : PV) : Eff (pureEf o.dst v) o.dst st (setSlot st o.dst v) :=
  ⟨fun u => get_setSlot hl hi v u, (setSlot_rest _ _ _).1, (setSlot_rest _ _ _).2.1, (setSlot_rest _ _ _).2.2⟩
theorem facts_depth (v : PV) : Facts (pureEf o.dst v) (.pure (depth ops st o v) (foot ops st o v)) (o.looksAt ops) o.dst st :=
  pureFacts fun h => ⟨(depth_zero h).1, (depth_zero h).2.1⟩
theorem dPure_same {v : PV} (hn : Near (o.looksAt ops) st s2) : dPure ops s2 o v = (setSlot s2 o.dst v, .pure (depth ops st o v) (foot ops st o v)) := by
  unfold dPure; rw [depth_same hn, foot_same hn]

theorem dA_shape (hl : Live st) (hi : idle st o = true) (h : dA P ops st o = some (s', c)) : Shape1 (fun s => dA P ops s o) ops st s' o c := by
  unfold dA at h
  split at h
  · rename_i v hv
    cases h
    refine ⟨_, eff_pure hl hi v, facts_depth v, fun s2 hb hn hh _ hi2 hl2 => ⟨_, ?_, eff_pure hl2 hi2 v⟩⟩
    show dA P ops s2 o = _
    unfold dA
    rw [(stepA_near hn hh).trans hv]
    simp only [dPure_same hn]
  · cases h

theorem dAssign_shape (hl : Live st) (hi : idle st o = true) {x : Operand} (hx : x ∈ o.op.operands.toList) (hpl : plainOp o.op = true) (h : dAssign P ops st o x = some (s', c)) : Shape1 (fun s => dAssign P ops s o x) ops st s' o c := by
  unfold dAssign at h
  split at h
  · rename_i hc
    split at h
    · rename_i st1 v ht
      split at h
      · cases h
      · rename_i hv
        cases h
        refine ⟨_, eff_pure hl hi _, facts_depth _, fun s2 hb hn hh _ hi2 hl2 => ⟨_, ?_, eff_pure hl2 hi2 _⟩⟩
        have hroot : RootIf st s2 (opv st.fr x) := fun hnp r pre hr => by
          cases x with
          | tmp t =>
            have htl : t ∈ o.looksAt ops := tmp_looks hx
            simp only [opv] at hr hnp
            split at hr
            · rename_i hg
              split at hnp
              · exact (hnp _ _ _ rfl).elim
              · rename_i hne; exact (hne _ hg).elim
            · rename_i hnb
              have hnp : ∀ r pre off, get st.fr t ≠ .ptr r pre off := by
                split at hnp
                · rename_i hg; exact (hnb _ hg).elim
                · exact hnp
              cases r with
              | slot s => exact (hn t htl).2 s pre hr
              | heap i =>
                have hview : viewH (get st.fr t) = true := by
                  have hok := hc.1
                  have hok : okV st (get st.fr t) = true := by
                    simp only [okOp, opv] at hok
                    exact hok
                  have noNav : ∀ s n cs, navS st (.heap i) none ≠ some (.ow s, n, cs) := fun s n cs hnv => by
                    unfold navS nav at hnv
                    simp only [rootPV] at hnv
                    cases hh' : st.hp[i]? with
                    | none => simp only [hh'] at hnv; cases hnv
                    | some cs' => cases cs' <;> (simp only [hh'] at hnv; cases hnv)
                  cases hg : get st.fr t with
                  | ptr r' p' o' => exact (hnp _ _ _ hg).elim
                  | hd r' p' =>
                    rw [hg] at hr hok
                    simp only [refOf, Option.some.injEq, Prod.mk.injEq] at hr
                    obtain ⟨rfl, rfl⟩ := hr
                    obtain ⟨s, n, cs, hnv⟩ := navS_ow hok
                    cases p' with
                    | some q => rfl
                    | none => exact (noNav _ _ _ hnv).elim
                  | vw r' p' a b n' =>
                    rw [hg] at hr hok
                    simp only [refOf, Option.some.injEq, Prod.mk.injEq] at hr
                    obtain ⟨rfl, rfl⟩ := hr
                    obtain ⟨s, n, cs, hnv⟩ := navS_ow hok
                    cases p' with
                    | some q => rfl
                    | none => exact (noNav _ _ _ hnv).elim
                  | _ => rw [hg] at hr; cases hr
                have hd : 1 ≤ depth ops st o (retag P o.type v) := by
                  rcases Nat.eq_zero_or_pos (depth ops st o (retag P o.type v)) with h0 | h0
                  · have := (depth_zero h0).2.1 t htl
                    rw [hview] at this; cases this
                  · exact h0
                simp only [rootPV]
                rw [hh hd t htl i pre hr]
          | const u => simp only [opv, refOf_const] at hr; cases hr
          | global n => cases hr
          | func f => cases hr
        obtain ⟨a1, a2⟩ := take_same hc.1 ht (opv_near hn hx) hroot
        show dAssign P ops s2 o x = _
        unfold dAssign
        rw [if_pos ⟨a2, hc.2⟩, a1]
        simp only [hv, dPure_same hn]
        rfl
    · cases h
  · cases h

theorem dAlloc_shape (hl : Live st) (hi : idle st o = true) {T : TypeId} (h : dAlloc P H ops st o T = some (s', c)) (hlook : o.op = .alloc T) (hnv : ∀ t ∈ o.looksAt ops, viewH (get st.fr t) = false) : Shape1 (fun s => dAlloc P H ops s o T) ops st s' o c := by
  unfold dAlloc at h
  split at h
  · rename_i t z hd hz
    split at h
    · rename_i hbox
      cases h
      have hr : ∀ s : St, idle s o = true → rooty (get s.fr t) = false := fun s hs => by
        unfold idle at hs; rw [hd] at hs; simpa using hs
      have heff : ∀ s : St, Live s → idle s o = true → Eff (pureEf o.dst (.box z)) o.dst s { s with fr := (t, .box z) :: drop t s.fr } := fun s hl hi =>
        ⟨fun u => by
          show get ((t, .box z) :: drop t s.fr) u = _
          rw [get_dropSlot hl (hr s hi), hd]; rfl, rfl, rfl, rfl⟩
      refine ⟨_, heff st hl hi, pureFacts fun _ => ⟨rfl, hnv⟩, fun s2 hb hn hh _ hi2 hl2 => ⟨_, ?_, heff s2 hl2 hi2⟩⟩
      show dAlloc P H ops s2 o T = _
      unfold dAlloc
      rw [hd, hz]
      simp only [hbox, if_true, foot_same hn]
    · cases h
  · cases h
end
end Go.PS
end

section
/-
  Regions that ask for their order: the operations, one by one, part 2.
-/
namespace Go.PS
section
variable {g g' g1 g2 : G} {w w' w1 w2 : World} {hn hn' : Nat} {tm : Array Value} {fr fr' : Fr} {hp hp' hp1 hp2 : Heap} {P : Program} {t : Nat} {st s2 st1 s' : St} {H : Hint} {own : FuncId → Option Nat} {callF : CallF} {ops : Array Oper} {o : Oper} {c : Cl}

theorem okV_same {v : PV} (h : okV st v = true) (hr : RootIf st s2 v) : okV s2 v = true := by
  cases v with
  | hd r pre => simp only [okV] at h ⊢; rw [navS_same (hr (by simp) r pre rfl)]; exact h
  | vw r pre off sz n => simp only [okV] at h ⊢; rw [navS_same (hr (by simp) r pre rfl)]; exact h
  | sl g n cs => cases g <;> first | rfl | cases h
  | agg cs => exact h
  | box cs => cases h
  | undef => cases h
  | _ => rfl
theorem okOp_same {x : Operand} (h : okOp st x = true) (hv : opv s2.fr x = opv st.fr x) (hr : RootIf st s2 (opv st.fr x)) : okOp s2 x = true := by
  cases x with
  | tmp t => simp only [okOp] at h ⊢; rw [hv]; exact okV_same h hr
  | const u => rfl
  | global n => cases h
  | func f => rfl

theorem near_drop {L : List Nat} (hn : Near L st s2) (d t : Nat) (ht : t ∈ L) : get (drop d s2.fr) t = get (drop d st.fr) t := by
  rw [get_drop, get_drop, (hn t ht).1]
theorem root_drop {t d : Nat} (hs : SameRoot st s2 (get st.fr t)) : SameRoot { st with fr := drop d st.fr } { s2 with fr := drop d s2.fr } (get (drop d st.fr) t) := by
  intro r pre hr
  rw [get_drop] at hr
  split at hr
  · cases hr
  · have h1 := hs r pre (on_refOf _ _ hr).1
    cases r with
    | heap i => exact h1
    | slot q =>
      simp only [rootPV] at h1 ⊢
      rw [get_drop, get_drop, h1]

theorem dBuild_shape (hl : Live st) (hi : idle st o = true) {T : TypeId} {parts : Array (Nat × Operand)} (ho : o.op = .build T parts) (h : dBuild P ops st o T parts = some (s', c)) : Shape1 (fun s => dBuild P ops s o T parts) ops st s' o c := by
  have hmem : ∀ p ∈ parts.toList, p.2 ∈ o.op.operands.toList := fun p hp => by rw [ho]; simp only [Op.operands, List.mem_map]; exact ⟨p, hp, rfl⟩
  have hpl : plainOp o.op = false := by rw [ho]; rfl
  unfold dBuild at h
  split at h
  · rename_i z pl d hz hp hd
    split at h
    · rename_i hok
      split at h
      · rename_i st1 cs hb
        cases h
        have hr : ∀ s : St, idle s o = true → rooty (get s.fr d) = false := fun s hs => by
          unfold idle at hs; rw [hd] at hs; simpa using hs
        have heff : ∀ s : St, Live s → idle s o = true → Eff (pureEf o.dst (.agg cs)) o.dst s { s with fr := (d, .agg cs) :: drop d s.fr } := fun s hl hi =>
          ⟨fun u => by
            show get ((d, .agg cs) :: drop d s.fr) u = _
            rw [get_dropSlot hl (hr s hi), hd]; rfl, rfl, rfl, rfl⟩
        refine ⟨_, heff st hl hi, facts_depth _, fun s2 hbase hn hh _ hi2 hl2 => ⟨_, ?_, heff s2 hl2 hi2⟩⟩
        have hsr : ∀ p ∈ parts.toList, ∀ t, p.2 = .tmp t → SameRoot st s2 (get st.fr t) := fun p hp t e => by
          have htl : t ∈ o.looksAt ops := tmp_looks (by rw [← e]; exact hmem p hp)
          exact sameRoot_near hn htl fun h => nearH_of hpl hh htl h
        have hv : ∀ p ∈ parts.toList, opv s2.fr p.2 = opv st.fr p.2 := fun p hp => opv_near hn (hmem p hp)
        have hr2 : ∀ p ∈ parts.toList, RootIf st s2 (opv st.fr p.2) := fun p hp => rootIf_get (hsr p hp)
        have hv0 : ∀ p ∈ parts.toList, opv ({ s2 with fr := drop d s2.fr } : St).fr p.2 = opv ({ st with fr := drop d st.fr } : St).fr p.2 := fun p hp =>
          opv_get (st := { st with fr := drop d st.fr }) (s2 := { s2 with fr := drop d s2.fr }) fun t e => near_drop hn d t (tmp_looks (by rw [← e]; exact hmem p hp))
        have hr0 : ∀ p ∈ parts.toList, RootIf { st with fr := drop d st.fr } { s2 with fr := drop d s2.fr } (opv ({ st with fr := drop d st.fr } : St).fr p.2) := fun p hp =>
          rootIf_get (st := { st with fr := drop d st.fr }) (s2 := { s2 with fr := drop d s2.fr }) fun t e => root_drop (hsr p hp t e)
        have b0 := buildL_same hok.2 hb hv0 hr0
        have hok2 : parts.toList.all (fun p => okOp s2 p.2) = true := List.all_eq_true.2 fun p hp => okOp_same (List.all_eq_true.1 hok.1 p hp) (hv p hp) (hr2 p hp)
        show dBuild P ops s2 o T parts = _
        unfold dBuild
        rw [hz, hp, hd]
        simp only
        rw [if_pos ⟨hok2, b0.2⟩, b0.1]
        simp only [depth_same hn, foot_same hn]
      · cases h
    · cases h
  · cases h

theorem dSlice_shape (hl : Live st) (hi : idle st o = true) {T : TypeId} {n : Nat} {parts : Array (Nat × Operand)} (ho : o.op = .buildSlice T n parts) (h : dSlice P ops st o T n parts = some (s', c)) : Shape1 (fun s => dSlice P ops s o T n parts) ops st s' o c := by
  have hmem : ∀ x ∈ parts.toList.map (·.2), x ∈ o.op.operands.toList := fun x hx => by rw [ho]; simpa only [Op.operands] using hx
  have hpl : plainOp o.op = false := by rw [ho]; rfl
  unfold dSlice at h
  split at h
  · rename_i hok
    split at h
    · rename_i st1 vs e ht he
      split at h
      · rename_i z hz
        split at h
        · rename_i hc
          split at h
          · rename_i cs hf
            cases h
            refine ⟨_, eff_pure hl hi _, facts_depth _, fun s2 hbase hn hh _ hi2 hl2 => ⟨_, ?_, eff_pure hl2 hi2 _⟩⟩
            have hsr : ∀ x ∈ parts.toList.map (·.2), ∀ t, x = .tmp t → SameRoot st s2 (get st.fr t) := fun x hx t e => by
              have htl : t ∈ o.looksAt ops := tmp_looks (by rw [← e]; exact hmem x hx)
              exact sameRoot_near hn htl fun h => nearH_of hpl hh htl h
            obtain ⟨a1, a2⟩ := takeL_same hok ht (fun x hx => opv_near hn (hmem x hx)) (fun x hx => rootIf_get (hsr x hx))
            show dSlice P ops s2 o T n parts = _
            unfold dSlice
            rw [if_pos a2, a1, he]
            simp only [hz, hc, hf, dPure_same hn, and_self, if_true]
          · cases h
        · cases h
      · cases h
    · cases h
  · cases h

theorem dLoad_shape (hl : Live st) (hi : idle st o = true) {T : TypeId} {a : Operand} (ho : o.op = .load T a) (h : dLoad P ops st o T a = some (s', c)) : Shape1 (fun s => dLoad P ops s o T a) ops st s' o c := by
  have hmem : a ∈ o.op.operands.toList := by rw [ho]; simp [Op.operands]
  unfold dLoad at h
  split at h
  · cases h
  · rename_i hs
    obtain ⟨e, h1, h2, h3⟩ := dA_shape hl hi h
    refine ⟨e, h1, h2, fun s2 hb hn hh hhp hi2 hl2 => ?_⟩
    obtain ⟨s2', h4, h5⟩ := h3 s2 hb hn hh hhp hi2 hl2
    refine ⟨s2', ?_, h5⟩
    have hsh : shares P s2 T a = shares P st T a := by
      unfold shares
      rw [opv_near hn hmem]
      split
      · rename_i r off hop
        have hA := h
        unfold dA at hA
        split at hA
        · rename_i v hv
          cases hA
          have hpl : plainOp o.op = false := by rw [ho]; rfl
          have sr := sameRoot_opv hn hmem (fun t _ hr => by
            subst_vars
            exact nearH_of (v := v) hpl hh (tmp_looks hmem) hr)
          rw [hop] at sr
          rw [sr r none rfl]
        · cases hA
      · rfl
    show dLoad P ops s2 o T a = _
    unfold dLoad
    rw [hsh, if_neg hs]
    exact h4

theorem live_kill (hl : Live st) (k : Kill) : Live { st with fr := killFr k st.fr } := fun t t' pre h => by
  have h : refOf (get (killFr k st.fr) t) = some (.slot t', pre) := h
  show rootOk pre (get (killFr k st.fr) t') = true
  rw [get_kill] at h ⊢
  rw [rootOk_on]
  exact hl t t' pre (on_refOf _ _ h).1
theorem idle_kill (hi : idle st o = true) (k : Kill) : idle { st with fr := killFr k st.fr } o = true := by
  unfold idle at hi ⊢
  split
  · rename_i d hd
    rw [hd] at hi
    simpa [get_kill, rooty_on] using hi
  · rfl

theorem dLookup_shape (hl : Live st) (hi : idle st o = true) {T : TypeId} {x ix : Operand} {ok : Bool} (ho : o.op = .lookup T x ix ok) (h : dLookup P ops st o T x ix ok = some (s', c)) :
    Shape1 (fun s => dLookup P ops s o T x ix ok) ops st s' o c := by
  unfold dLookup at h
  split at h
  · rename_i v hv
    cases h
    refine ⟨_, eff_pure hl hi v, pureFacts (fun h => by cases h), fun s2 hb hn hh hhp hi2 hl2 => ⟨_, ?_, eff_pure hl2 hi2 v⟩⟩
    have hhp := hhp (Nat.le_refl _)
    have e1 : opv s2.fr x = opv st.fr x := opv_near hn (by rw [ho]; simp [Op.operands])
    have e2 : opv s2.fr ix = opv st.fr ix := opv_near hn (by rw [ho]; simp [Op.operands])
    have e3 : ∀ y, mapAt s2 y = mapAt st y := fun y => by unfold mapAt; rw [hhp]
    have e4 : lookupOp P s2 T (opv s2.fr x) (opv s2.fr ix) ok = some v := by
      rw [e1, e2, ← hv]; unfold lookupOp; rw [e3]
    show dLookup P ops s2 o T x ix ok = _
    unfold dLookup
    rw [e4]
    simp only [foot_same hn]
  · cases h

theorem dCall_shape (hl : Live st) (hi : idle st o = true) {cl : Call} {fo : Operand} (ho : o.op = .call cl) (hcal : cl.callee = .value fo) {f : FuncId} {cap : List PV} (h : dCall own callF ops st o f cap cl.args.toList = some (s', c)) :
    Shape1 (fun s => dCall own callF ops s o f cap cl.args.toList) ops st s' o c := by
  have hmem : ∀ x ∈ cl.args.toList, x ∈ o.op.operands.toList := fun x hx => by
    rw [ho]; simp only [Op.operands, Call.operands, hcal]; simp at hx ⊢; exact .inr hx
  unfold dCall at h
  split at h
  · rename_i hc
    split at h
    · cases h
    · rename_i st1 vs ht
      split at h
      · cases h
      · rename_i r hp' d hcf
        have same : ∀ s2 : St, Near (o.looksAt ops) st s2 → s2.hp = st.hp → okArgs s2 cl.args.toList = true ∧ ∃ s3, takeL s2 cl.args.toList = some (s3, vs) := fun s2 hn hhp => by
          obtain ⟨_, ⟨s3, h1, _⟩, h2⟩ := okArgs_same hc.2 ht (fun t hx => (hn t (tmp_looks (hmem _ hx))).1) (fun t hx => sameRoot_near hn (tmp_looks (hmem _ hx)) fun _ t' _ i pre _ => by rw [hhp])
          exact ⟨h2, s3, h1⟩
        split at h
        · rename_i hp
          cases h
          refine ⟨_, eff_pure hl hi r, pureFacts (fun h => by cases h), fun s2 hb hn hh hhp hi2 hl2 => ⟨_, ?_, eff_pure hl2 hi2 r⟩⟩
          have hhp := hhp (Nat.le_refl _)
          obtain ⟨h1, s3, h2⟩ := same s2 hn hhp
          show dCall own callF ops s2 o f cap cl.args.toList = _
          unfold dCall
          rw [if_pos ⟨hc.1, h1⟩, h2]
          simp only [hhp, hcf]
          rw [if_pos hp, foot_same hn]
        · rename_i hp
          split at h
          · rename_i hall
            cases h
            let e : Ef := ⟨kdst o.dst r, fun v => if d then Kill.heaps.on v else v, none, fun _ => hp', fun b => b || d⟩
            have heff : ∀ s : St, Live s → idle s o = true → Eff e o.dst s (setSlot { s with hp := hp', dirty := s.dirty || d, fr := if d then killFr .heaps s.fr else s.fr } o.dst r) := fun s hl hi => by
              cases d with
              | false =>
                refine ⟨fun u => ?_, (setSlot_rest _ _ _).1, (setSlot_rest _ _ _).2.1, (setSlot_rest _ _ _).2.2⟩
                exact get_setSlot (st := { s with hp := hp', dirty := s.dirty || false, fr := s.fr }) hl hi r u
              | true =>
                refine ⟨fun u => ?_, (setSlot_rest _ _ _).1, (setSlot_rest _ _ _).2.1, (setSlot_rest _ _ _).2.2⟩
                have hl' : Live ({ s with hp := hp', dirty := s.dirty || true, fr := killFr .heaps s.fr } : St) := live_kill hl .heaps
                have hi' : idle ({ s with hp := hp', dirty := s.dirty || true, fr := killFr .heaps s.fr } : St) o = true := idle_kill hi .heaps
                have := get_setSlot hl' hi' r u
                simp only [if_true]
                rw [this]
                split
                · rfl
                · show get (killFr .heaps s.fr) u = _
                  rw [get_kill]; rfl
            refine ⟨e, heff st hl hi, ⟨fun v => ?_, ?_⟩, fun s2 hb hn hh hhp hi2 hl2 => ⟨_, ?_, heff s2 hl2 hi2⟩⟩
            · cases d with
              | false => exact .inl rfl
              | true =>
                rcases on_cases .heaps v with h1 | ⟨h1, r', pre, h2, h3⟩
                · exact .inl h1
                · refine .inr ⟨h1, ?_⟩
                  simp only [hits, if_true]
                  cases r' with
                  | slot q => simp [Kill.hits] at h3
                  | heap i => cases pre with
                    | none => simp [Kill.hits] at h3
                    | some q => unfold viewH; rw [h2]
            · cases d <;> rfl
            · have hhp := hhp (Nat.le_refl _)
              obtain ⟨h1, s3, h2⟩ := same s2 hn hhp
              have hall2 : cl.args.toList.all (okOp s2) = true := List.all_eq_true.2 fun x hx => okOp_same (List.all_eq_true.1 hall x hx) (opv_near hn (hmem x hx)) (rootIf_get fun t e => sameRoot_near hn (tmp_looks (by rw [← e]; exact hmem x hx)) fun _ t' _ i pre _ => by rw [hhp])
              show dCall own callF ops s2 o f cap cl.args.toList = _
              unfold dCall
              rw [if_pos ⟨hc.1, h1⟩, h2]
              simp only [hhp, hcf]
              rw [if_neg hp, if_pos hall2]
          · cases h
  · cases h
end
end Go.PS
end

section
/-
  Regions that ask for their order: stores and appends.
-/
namespace Go.PS
section
variable {g g' g1 g2 : G} {w w' w1 w2 : World} {hn hn' : Nat} {tm : Array Value} {fr fr' : Fr} {hp hp' hp1 hp2 : Heap} {P : Program} {t : Nat} {st s2 st1 s' : St} {H : Hint} {own : FuncId → Option Nat} {callF : CallF} {ops : Array Oper} {o : Oper} {c : Cl}

def wkOf : Root → Wk
  | .slot s => .slot s
  | .heap _ => .heap
/-- A root is put anew. -/
def putEf (r : Root) (K : PV → PV) (x : PV) (base : Nat) : Ef := match r with
  | .slot s => ⟨.undef, K, some (s, x), fun h => h, fun b => b⟩
  | .heap i => ⟨.undef, K, none, fun h => h.set i (.cells x.kids), fun b => b || decide (i < base)⟩

theorem putEf_mid {fr' : Fr} {K : PV → PV} (hK : ∀ u, get fr' u = K (get st.fr u)) (r : Root) (x : PV) :
    (∀ u, get (putRoot { st with fr := fr' } r x).fr u = (putEf r K x st.base).at u (get st.fr u)) ∧ (putRoot { st with fr := fr' } r x).hp = (putEf r K x st.base).H st.hp ∧ (putRoot { st with fr := fr' } r x).base = st.base ∧
      (putRoot { st with fr := fr' } r x).dirty = (putEf r K x st.base).D st.dirty := by
  cases r with
  | slot s =>
    refine ⟨fun u => ?_, rfl, rfl, rfl⟩
    show get ((s, x) :: fr') u = if u = s then x else K (get st.fr u)
    rw [get_cons, hK]
    by_cases h : s = u
    · subst h; simp
    · rw [if_neg h, if_neg (Ne.symm h)]
  | heap i => exact ⟨fun u => hK u, rfl, rfl, rfl⟩

theorem killHits {k : Kill} {r : Root} (hk : ∀ r' pre, k.hits r' pre = true → r' = r ∧ (∀ i, r = .heap i → pre.isSome = true)) (v : PV) : k.on v = v ∨ (k.on v = .undef ∧ hits (wkOf r) v = true) := by
  rcases on_cases k v with h | ⟨h, r', pre, h1, h2⟩
  · exact .inl h
  · refine .inr ⟨h, ?_⟩
    obtain ⟨rfl, h3⟩ := hk r' pre h2
    cases r' with
    | slot s => simp [wkOf, hits, rootS, h1]
    | heap i =>
      have := h3 i rfl
      cases pre with
      | none => cases this
      | some q => simp [wkOf, hits, viewH, h1]

theorem rooty_root {r : Root} {pre : Option Nat} {nd : PV} (h : nav st r pre = some nd) : rooty (rootPV st r) = true := by
  unfold nav at h
  split at h
  · rename_i e; rw [e]; rfl
  · rename_i e; rw [e]; rfl
  · rename_i e; rw [e]; rfl
  · rename_i e; rw [e]; rfl
  · cases h

theorem putFacts {r : Root} {K : PV → PV} {x : PV} {base : Nat} {L : List Nat} {dst : Option Nat} {v : PV} (hK : ∀ v, K v = v ∨ (K v = .undef ∧ hits (wkOf r) v = true)) (hr : rooty (rootPV st r) = true) (hd : ∀ s, r = .slot s → dst ≠ some s) :
    Facts { putEf r K x base with v := v } (.heavy (wkOf r)) L dst st := by
  cases r with
  | slot s => exact ⟨hK, ⟨_, rfl⟩, fun _ => rfl, hd s rfl, hr⟩
  | heap i => exact ⟨hK, rfl⟩

theorem wk_ptr {r : Root} {pre : Option Nat} {off : Nat} {v : PV} (h : v = .ptr r pre off) (st' : St) : (match v with
      | .ptr (.slot s) _ _ => some (st', Cl.heavy (.slot s))
      | _ => some (st', Cl.heavy .heap)) = some (st', .heavy (wkOf r)) := by
  subst h; cases r <;> rfl

theorem dStore_shape (hl : Live st) (hi : idle st o = true) {T : TypeId} {a x : Operand} (ho : o.op = .store T a x) (h : dStore P st o T a x = some (s', c)) : Shape1 (fun s => dStore P s o T a x) ops st s' o c := by
  have hma : a ∈ o.op.operands.toList := by rw [ho]; simp [Op.operands]
  have hmx : x ∈ o.op.operands.toList := by rw [ho]; simp [Op.operands]
  unfold dStore at h
  split at h
  · rename_i hc
    split at h
    · rename_i st' hst
      unfold store at hst
      split at hst
      · cases hst
      · rename_i st1 v ht
        have := take_ok hc.1 ht
        subst this
        split at hst
        · rename_i r pre off hop
          have h := (wk_ptr hop st').symm.trans h
          split at hst
          · rename_i nd hnav
            split at hst
            · rename_i hcond
              have sames : ∀ s2 : St, Near (o.looksAt ops) st1 s2 → s2.hp = st1.hp → okOp s2 x = true ∧ take s2 x = some (s2, v) ∧ opv s2.fr a = .ptr r pre off ∧ rootPV s2 r = rootPV st1 r := fun s2 hn hhp => by
                have hH : NearH (o.looksAt ops) st1 s2 := fun _ _ i _ _ => by rw [hhp]
                obtain ⟨h1, h2⟩ := take_same hc.1 ht (opv_near hn hmx) (rootIf_get fun t e => sameRoot_near hn (tmp_looks (by rw [← e]; exact hmx)) fun _ => hH)
                have h3 : opv s2.fr a = .ptr r pre off := (opv_near hn hma).trans hop
                have h4 := sameRoot_opv hn hma (fun _ _ _ => hH)
                rw [hop] at h4
                exact ⟨h2, h1, h3, h4 r pre rfl⟩
              have hdst : ∀ s, r = .slot s → o.dst ≠ some s := fun s _ => by rw [hc.2]; simp
              have fin : ∀ {K : PV → PV} {y : PV} {fr' : St → Fr}, (∀ s : St, ∀ u, get (fr' s) u = K (get s.fr u)) → (∀ v, K v = v ∨ (K v = .undef ∧ hits (wkOf r) v = true)) → s' = putRoot { st1 with fr := fr' st1 } r y → c = .heavy (wkOf r) →
                  (∀ s2 : St, Near (o.looksAt ops) st1 s2 → s2.hp = st1.hp → store P s2 T a x = some (putRoot { s2 with fr := fr' s2 } r y)) → Shape1 (fun s => dStore P s o T a x) ops st1 s' o c := by
                intro K y fr' hK hKh hs' hc' hst2
                subst hs' hc'
                have heff : ∀ s : St, Eff (putEf r K y s.base) o.dst s (putRoot { s with fr := fr' s } r y) := fun s => by
                  obtain ⟨h1, h2, h3, h4⟩ := putEf_mid (hK s) r y
                  refine ⟨fun u => ?_, h2, h3, h4⟩
                  rw [hc.2, if_neg (by simp)]; exact h1 u
                refine ⟨_, heff st1, putFacts (v := (putEf r K y st1.base).v) hKh (rooty_root hnav) hdst, fun s2 hb hn _ hhp hi2 hl2 => ⟨_, ?_, by rw [← hb]; exact heff s2⟩⟩
                have hhp := hhp (Nat.le_refl _)
                obtain ⟨h1, h2, h3, h4⟩ := sames s2 hn hhp
                show dStore P s2 o T a x = _
                unfold dStore
                rw [if_pos ⟨h1, hc.2⟩, hst2 s2 hn hhp]
                exact wk_ptr h3 _
              split at hst
              · rename_i cs
                cases hst
                cases h
                obtain ⟨hpre, hroot⟩ := nav_box hnav
                have hk : ∀ r' pre', (killOf r off v).hits r' pre' = true → r' = r ∧ (∀ i, r = .heap i → pre'.isSome = true) := fun r' pre' hk => by
                  unfold killOf at hk
                  split at hk
                  · simp [Kill.hits] at hk; exact ⟨hk.1, fun _ _ => hk.2⟩
                  · simp [Kill.hits] at hk; exact ⟨hk.1, fun _ _ => by rw [hk.2]; rfl⟩
                refine fin (K := (killOf r off v).on) (y := .box (splice cs off (cellsOf (retag P T v)))) (fr' := fun s => killFr (killOf r off v) s.fr) (fun s u => get_kill _ _ _) (killHits hk) rfl rfl fun s2 hn hhp => ?_
                obtain ⟨h1, h2, h3, h4⟩ := sames s2 hn hhp
                unfold store
                rw [h2]
                simp only [h3]
                rw [nav_same h4, hnav]
                simp only
                rw [if_pos hcond]
              · rename_i s n cs
                cases hst
                cases h
                let y : PV := match pre with
                  | none => .sl (.mu s) n (splice cs off ((cellsOf v).map outCell))
                  | some q => (rootPV st1 r).withKids ((rootPV st1 r).kids.set q (.sl (.mu s) n (splice cs off ((cellsOf v).map outCell))))
                have hput : ∀ s2 : St, rootPV s2 r = rootPV st1 r → put s2 r pre (.sl (.mu s) n (splice cs off ((cellsOf v).map outCell))) = putRoot { s2 with fr := s2.fr } r y := fun s2 h4 => by
                  cases pre with
                  | none => rfl
                  | some q => simp only [put, h4, y]
                refine fin (K := fun v => v) (y := y) (fr' := fun s => s.fr) (fun s u => rfl) (fun v => .inl rfl) (hput st1 rfl) rfl fun s2 hn hhp => ?_
                obtain ⟨h1, h2, h3, h4⟩ := sames s2 hn hhp
                unfold store
                rw [h2]
                simp only [h3]
                rw [nav_same h4, hnav]
                simp only
                rw [if_pos hcond, hput s2 h4]
              · cases hst
            · cases hst
          · cases hst
        · cases hst
    · cases h
  · cases h

theorem eff_mid (hl : Live st) (hi : idle st o = true) {e : Ef} {st' : St} (hmid : ∀ u, get st'.fr u = e.at u (get st.fr u)) (hhp : st'.hp = e.H st.hp) (hb : st'.base = st.base) (hdy : st'.dirty = e.D st.dirty)
    (hK : ∀ v, e.K v = v ∨ e.K v = .undef) (hW : ∀ s c, e.W = some (s, c) → refOf c = none ∧ o.dst ≠ some s) (v : PV) : Eff { e with v := kdst o.dst v } o.dst st (setSlot st' o.dst v) := by
  obtain ⟨r1, r2, r3⟩ := setSlot_rest st' o.dst v
  refine ⟨fun u => ?_, r1.trans hhp, r2.trans hb, r3.trans hdy⟩
  cases hd : o.dst with
  | none => simp only [setSlot]; rw [if_neg (by simp)]; exact hmid u
  | some d =>
    have hr : rooty (get st.fr d) = false := by unfold idle at hi; rw [hd] at hi; simpa using hi
    have at_cases : ∀ u old, (∃ s c, e.W = some (s, c) ∧ u = s ∧ e.at u old = c) ∨ e.at u old = e.K old := fun u old => by
      unfold Ef.at
      cases hw : e.W with
      | none => exact .inr rfl
      | some p =>
        obtain ⟨s, c⟩ := p
        by_cases h : u = s
        · exact .inl ⟨s, c, rfl, h, by simp [h]⟩
        · exact .inr (by simp [h])
    have hrd : rooty (get st'.fr d) = false := by
      rw [hmid]
      rcases at_cases d (get st.fr d) with ⟨s, c, hw, hs, _⟩ | h
      · exact ((hW s c hw).2 (by rw [hd, hs])).elim
      · rw [h]
        rcases hK (get st.fr d) with h1 | h1
        · rw [h1]; exact hr
        · rw [h1]; rfl
    have hno : ∀ u pre, refOf (get st'.fr u) ≠ some (.slot d, pre) := fun u pre hrf => by
      rw [hmid] at hrf
      rcases at_cases u (get st.fr u) with ⟨s, c, hw, hs, hat⟩ | h
      · rw [hat, (hW s c hw).1] at hrf; cases hrf
      · rw [h] at hrf
        rcases hK (get st.fr u) with h1 | h1
        · rw [h1] at hrf; exact noRef hl hr u pre hrf
        · rw [h1] at hrf; cases hrf
    simp only [setSlot, Option.some.injEq, kdst]
    by_cases h : d = u
    · subst h; rw [if_pos rfl, get_setFr_same]
    · rw [if_neg h, get_setFr _ _ _ _ h (fun pre h' => (hno u pre h').elim)]
      have : (Kill.slot d).on (get st'.fr u) = get st'.fr u := on_noRef fun pre => hno u pre
      rw [this]; exact hmid u

theorem wk_at {r : Root} {pre : Option Nat} {v : Option (Root × Option Nat)} (h : v = some (r, pre)) (st' : St) : (match v with
      | some (.slot s, _) => some (st', Cl.heavy (.slot s))
      | some (.heap _, _) => some (st', Cl.heavy .heap)
      | none => none) = some (st', .heavy (wkOf r)) := by
  subst h; cases r <;> rfl
theorem appAt_cases {st : St} {x : Operand} {r : Root} {pre : Option Nat} (h : appAt st x = some (r, pre)) : opv st.fr x = .hd r pre ∨ ∃ t g n cs, x = .tmp t ∧ r = .slot t ∧ pre = none ∧ opv st.fr x = .sl g n cs ∧ ((∃ s, g = .mu s) ∨ ∃ s, g = .ow s) := by
  unfold appAt at h
  split at h
  · rename_i e; cases h; exact .inl e
  · rename_i s n cs e
    split at h
    · rename_i t; cases h; exact .inr ⟨t, _, _, _, rfl, rfl, rfl, e, .inl ⟨_, rfl⟩⟩
    · cases h
  · rename_i s n cs e
    split at h
    · rename_i t; cases h; exact .inr ⟨t, _, _, _, rfl, rfl, rfl, e, .inr ⟨_, rfl⟩⟩
    · cases h
  · cases h
theorem appendOp_at {P : Program} {st : St} {T : TypeId} {x : Operand} {y : PV} {e : TypeId} {k : Nat} {ys : List PV} {r : Root} {pre : Option Nat} (he : elemT P T = some e) (hy : content st y = some (k, ys)) (hc : ys.length = k * sizeT P e ∧ ys.all storable = true) (ha : appAt st x = some (r, pre)) : appendOp P st T x y = appendGo P st e k ys r pre := by
  unfold appendOp
  rw [he, hy]
  simp only
  rw [if_pos hc]
  rcases appAt_cases ha with h | ⟨t, g, n, cs, rfl, rfl, rfl, h, ⟨s, rfl⟩ | ⟨s, rfl⟩⟩
  · rw [h]
  · rw [h]
  · rw [h]

/-- What stands where a row has been moved away. -/
def outEf (st : St) (r : Root) (pre : Option Nat) : Ef := match r, pre with
  | .slot t, none => ⟨.undef, (Kill.slot t).on, some (t, .undef), fun h => h, fun b => b⟩
  | r, some q => putEf r (Kill.at r q).on ((rootPV st r).withKids ((rootPV st r).kids.set q .undef)) st.base
  | _, none => ⟨.undef, fun v => v, none, fun h => h, fun b => b⟩

theorem kids_on {k : Kill} {v : PV} (h : rooty v = true) : k.on v = v := by cases v <;> first | rfl | cases h

theorem out_mid {r : Root} {pre : Option Nat} {x : Tag × Nat × List PV} (h : navS st r pre = some x) :
    (∀ u, get (moveOut st r pre).fr u = (outEf st r pre).at u (get st.fr u)) ∧ (moveOut st r pre).hp = (outEf st r pre).H st.hp ∧ (moveOut st r pre).base = st.base ∧ (moveOut st r pre).dirty = (outEf st r pre).D st.dirty := by
  have hroot : rooty (rootPV st r) = true := by
    unfold navS at h
    split at h
    · exact rooty_root (by assumption)
    · cases h
  cases pre with
  | none =>
    cases r with
    | slot t =>
      refine ⟨fun u => ?_, rfl, rfl, rfl⟩
      show get (drop t st.fr) u = if u = t then .undef else (Kill.slot t).on (get st.fr u)
      rw [get_drop]
      by_cases h : t = u
      · subst h; simp
      · rw [if_neg h, if_neg (Ne.symm h)]
    | heap i => exact ⟨fun u => rfl, rfl, rfl, rfl⟩
  | some q =>
    have hr' : rootPV { st with fr := killFr (.at r q) st.fr } r = rootPV st r := by
      cases r with
      | slot t => simp only [rootPV] at hroot ⊢; rw [get_kill, kids_on hroot]
      | heap i => rfl
    have e : moveOut st r (some q) = putRoot { st with fr := killFr (.at r q) st.fr } r ((rootPV st r).withKids ((rootPV st r).kids.set q .undef)) := by
      unfold moveOut
      simp only [put, hr']
    rw [e]
    have e2 : outEf st r (some q) = putEf r (Kill.at r q).on ((rootPV st r).withKids ((rootPV st r).kids.set q .undef)) st.base := by cases r <;> rfl
    rw [e2]
    exact putEf_mid (fun u => get_kill _ _ _) r _

theorem dAppend_shape (hl : Live st) (hi : idle st o = true) {cl : Call} (ho : o.op = .call cl) (hcal : cl.callee = .builtin .append) {T U : TypeId} {x y : Operand} (hargs : cl.args.toList = [x, y]) (h : dAppend P st o T U x y = some (s', c)) :
    Shape1 (fun s => dAppend P s o T U x y) ops st s' o c := by
  have hmem : ∀ z ∈ cl.args.toList, z ∈ o.op.operands.toList := fun z hz => by
    rw [ho]; simp only [Op.operands, Call.operands, hcal]; simpa using hz
  have hmx := hmem x (by rw [hargs]; simp)
  have hmy := hmem y (by rw [hargs]; simp)
  unfold dAppend at h
  split at h
  · rename_i hU
    split at h
    · rename_i st' v hop
      have hhd : ∃ r pre, appAt st x = some (r, pre) := by
        split at h
        · rename_i s p e; exact ⟨_, _, e⟩
        · rename_i i p e; exact ⟨_, _, e⟩
        · cases h
      obtain ⟨r, pre, hx⟩ := hhd
      have h := (wk_at hx (setSlot st' o.dst v)).symm.trans h
      cases h
      have hop1 := hop
      unfold appendOp at hop1
      split at hop1
      · rename_i e k ys he hy
        split at hop1
        · rename_i hcond
          have hop := (appendOp_at he hy hcond hx).symm.trans hop
          have hop0 := hop
          unfold appendGo at hop
          split at hop
          · rename_i tg n cs hn0
            have hroot : rooty (rootPV st r) = true := by
              have := hn0
              unfold navS at this
              split at this
              · exact rooty_root (by assumption)
              · cases this
            have hdst : ∀ s, r = .slot s → o.dst ≠ some s := fun s e hd => by
              subst e
              have hr : rooty (get st.fr s) = false := by unfold idle at hi; rw [hd] at hi; simpa using hi
              simp only [rootPV] at hroot
              rw [hr] at hroot; cases hroot
            have hst' : st' = moveOut st r pre := by
              split at hop
              · split at hop
                · split at hop
                  · cases hop; rfl
                  · cases hop
                · split at hop
                  · cases hop; rfl
                  · cases hop
                · cases hop
              · cases hop
            subst hst'
            have hKe : ∀ v, (outEf st r pre).K v = v ∨ ((outEf st r pre).K v = .undef ∧ hits (wkOf r) v = true) := by
              cases pre with
              | none =>
                cases r with
                | slot t =>
                  refine killHits (k := .slot t) (r := .slot t) fun r' pre' hk => ?_
                  simp [Kill.hits] at hk
                  exact ⟨hk, fun i e => (by cases e)⟩
                | heap i => exact fun v => .inl rfl
              | some q =>
                have e2 : outEf st r (some q) = putEf r (Kill.at r q).on ((rootPV st r).withKids ((rootPV st r).kids.set q .undef)) st.base := by cases r <;> rfl
                rw [e2]
                have := killHits (k := .at r q) (r := r) (fun r' pre' hk => (by
                  simp [Kill.hits] at hk
                  exact ⟨hk.1, fun _ _ => (by rw [hk.2]; rfl)⟩))
                cases r <;> exact this
            have hWe : ∀ s c, (outEf st r pre).W = some (s, c) → refOf c = none ∧ r = .slot s := by
              intro s c hw
              cases pre with
              | none =>
                cases r with
                | slot t => cases hw; exact ⟨rfl, rfl⟩
                | heap i => cases hw
              | some q =>
                cases r with
                | slot t =>
                  have : some (t, (rootPV st (.slot t)).withKids ((rootPV st (.slot t)).kids.set q .undef)) = some (s, c) := hw
                  cases this
                  refine ⟨?_, rfl⟩
                  cases hg : rootPV st (.slot s) <;> rw [hg] at hroot <;> first | rfl | cases hroot
                | heap i => cases hw
            have heff : ∀ s : St, Live s → idle s o = true → navS s r pre = some (tg, n, cs) → outEf s r pre = outEf st r pre → Eff { outEf st r pre with v := kdst o.dst v } o.dst s (setSlot (moveOut s r pre) o.dst v) := fun s hl hi hnv he => by
              obtain ⟨h1, h2, h3, h4⟩ := out_mid hnv
              rw [he] at h1 h2 h4
              exact eff_mid hl hi h1 h2 h3 h4 (fun v => (hKe v).imp id And.left) (fun s c hw => ⟨(hWe s c hw).1, hdst s (hWe s c hw).2⟩) v
            have hfacts : Facts { outEf st r pre with v := kdst o.dst v } (.heavy (wkOf r)) (o.looksAt ops) o.dst st := by
              refine ⟨hKe, ?_⟩
              cases r with
              | slot t =>
                cases pre with
                | none => exact ⟨⟨_, rfl⟩, fun _ => rfl, hdst t rfl, hroot⟩
                | some q => exact ⟨⟨_, rfl⟩, fun _ => rfl, hdst t rfl, hroot⟩
              | heap i => cases pre <;> rfl
            refine ⟨_, heff st hl hi hn0 rfl, hfacts, fun s2 hb hnr _ hhp hi2 hl2 => ?_⟩
            have hhp := hhp (Nat.le_refl _)
            have hH : NearH (o.looksAt ops) st s2 := fun _ _ i _ _ => by rw [hhp]
            have hx2 : appAt s2 x = some (r, pre) := by
              unfold appAt at hx ⊢
              rw [opv_near hnr hmx]; exact hx
            have hr2 : rootPV s2 r = rootPV st r := by
              rcases appAt_cases hx with hx | ⟨t, g, n, cs, rfl, rfl, rfl, hx, _⟩
              · have h4 := sameRoot_opv hnr hmx (fun _ _ _ => hH)
                rw [hx] at h4
                exact h4 r pre rfl
              · have hg : ∀ fr : Fr, opv fr (.tmp t) = .sl g n cs → get fr t = .sl g n cs := fun fr h => by
                  simp only [opv] at h
                  split at h
                  · cases h
                  · exact h
                show get s2.fr t = get st.fr t
                rw [hg _ hx, hg _ ((opv_near hnr hmx).trans hx)]
            have hn2 : navS s2 r pre = some (tg, n, cs) := (navS_same hr2).trans hn0
            have he2 : outEf s2 r pre = outEf st r pre := by
              cases pre with
              | none => cases r <;> rfl
              | some q => cases r <;> simp only [outEf, hr2, hb]
            refine ⟨_, ?_, heff s2 hl2 hi2 hn2 he2⟩
            have hgo : appendGo P s2 e k ys r pre = some (moveOut s2 r pre, v) := by
              unfold appendGo
              rw [hn2]
              simp only
              split at hop
              · rename_i hc2
                rw [if_pos hc2]
                split at hop
                · split at hop
                  · rename_i hs; cases hop; simp only [hs, if_true]
                  · cases hop
                · split at hop
                  · rename_i hs; cases hop; simp only [hs, if_true]
                  · cases hop
                · cases hop
              · cases hop
            have hap : appendOp P s2 T x (opv s2.fr y) = some (moveOut s2 r pre, v) := by
              rw [appendOp_at he (by rw [opv_near hnr hmy, content_same (sameRoot_opv hnr hmy (fun _ _ _ => hH)), hy]) hcond hx2]
              exact hgo
            show dAppend P s2 o T U x y = _
            unfold dAppend
            rw [if_pos hU, hap]
            exact wk_at hx2 _
          · cases hop
        · cases hop1
      · cases hop1
    · cases h
  · cases h
theorem appendNest_at {T : TypeId} {x y v : PV} {st' : St} (h : appendNest P st T x y = some (st', v)) :
    ∃ node b, ∀ s y', s.base = st.base → s.hp = st.hp → content s y' = content st y → appendNest P s T x y' = some ({ s with hp := s.hp ++ [node], dirty := s.dirty || b }, v) := by
  unfold appendNest at h
  split at h
  · rename_i e k ys he hy
    split at h
    · rename_i hcond
      split at h
      · rename_i i n cs
        split at h
        · rename_i s m p hrow
          split at h
          · rename_i hcd
            cases h
            refine ⟨.row s (n + k) (some i), decide (i < st.base), fun s2 y' hb hh hc => ?_⟩
            unfold appendNest
            rw [he, hc, hy]
            simp only
            rw [if_pos hcond, hh, hrow]
            simp only
            rw [if_pos hcd, hb]
          · cases h
        · cases h
      · split at h
        · rename_i hf
          cases h
          refine ⟨.row (sizeT P e) k none, false, fun s2 y' hb hh hc => ?_⟩
          unfold appendNest
          rw [he, hc, hy]
          simp only
          rw [if_pos hcond, if_pos hf, hh, Bool.or_false]
        · cases h
      · cases h
    · cases h
  · cases h
theorem dNest_shape (hl : Live st) (hi : idle st o = true) {cl : Call} (ho : o.op = .call cl) (hcal : cl.callee = .builtin .append) {T U : TypeId} {x y : Operand} (hargs : cl.args.toList = [x, y]) (h : dNest P st o T U x y = some (s', c)) :
    Shape1 (fun s => dNest P s o T U x y) ops st s' o c := by
  have hmem : ∀ z ∈ cl.args.toList, z ∈ o.op.operands.toList := fun z hz => by
    rw [ho]; simp only [Op.operands, Call.operands, hcal]; simpa using hz
  have hmx := hmem x (by rw [hargs]; simp)
  have hmy := hmem y (by rw [hargs]; simp)
  unfold dNest at h
  split at h
  · rename_i hU
    split at h
    · rename_i st' v hop
      cases h
      obtain ⟨node, b, hat⟩ := appendNest_at hop
      have hst' : st' = { st with hp := st.hp ++ [node], dirty := st.dirty || b } := by
        have := hat st (opv st.fr y) rfl rfl rfl
        rw [hop] at this
        exact (Prod.mk.inj (Option.some.inj this)).1
      subst hst'
      let e : Ef := ⟨kdst o.dst v, fun v => v, none, fun h => h ++ [node], fun d => d || b⟩
      have heff : ∀ s : St, Live s → idle s o = true → Eff e o.dst s (setSlot { s with hp := s.hp ++ [node], dirty := s.dirty || b } o.dst v) := fun s hl hi =>
        ⟨fun u => get_setSlot (st := { s with hp := s.hp ++ [node], dirty := s.dirty || b }) hl hi _ u, (setSlot_rest _ _ _).1, (setSlot_rest _ _ _).2.1, (setSlot_rest _ _ _).2.2⟩
      refine ⟨e, heff st hl hi, ⟨fun _ => .inl rfl, rfl⟩, fun s2 hb hn hh hhp hi2 hl2 => ⟨_, ?_, heff s2 hl2 hi2⟩⟩
      have hhp := hhp (Nat.le_refl _)
      have hH : NearH (o.looksAt ops) st s2 := fun t _ i pre _ => by rw [hhp]
      show dNest P s2 o T U x y = _
      unfold dNest
      rw [if_pos hU, opv_near hn hmx, hat s2 (opv s2.fr y) hb hhp (by rw [opv_near hn hmy]; exact content_same (sameRoot_opv hn hmy (fun _ _ _ => hH)))]
    · cases h
  · cases h
theorem dSlice1_shape (hl : Live st) (hi : idle st o = true) {T : TypeId} {n : Nat} {parts : Array (Nat × Operand)} (ho : o.op = .buildSlice T n parts) (h : dSlice1 P st o T n parts = some (s', c)) :
    Shape1 (fun s => dSlice1 P s o T n parts) ops st s' o c := by
  unfold dSlice1 at h
  split at h
  · rename_i j t hp
    have hmt : Operand.tmp t ∈ o.op.operands.toList := by
      rw [ho]; simp only [Op.operands]
      have : (j, Operand.tmp t) ∈ parts.toList := by rw [hp]; simp
      simp only [Array.toList_map, List.mem_map]
      exact ⟨_, this, rfl⟩
    have hL : t ∈ o.looksAt ops := tmp_looks hmt
    split at h
    · rename_i q m cs e hg he
      have hroot : rooty (rootPV st (.slot t)) = true := by simp only [rootPV]; rw [hg]; rfl
      have hdst : ∀ s, Root.slot t = .slot s → o.dst ≠ some s := fun s e hd => by
        cases e
        have hr : rooty (get st.fr t) = false := by unfold idle at hi; rw [hd] at hi; simpa using hi
        rw [hg] at hr; cases hr
      have hnav : ∀ s : St, get s.fr t = .sl (.mu q) m cs → navS s (.slot t) none = some (.mu q, m, cs) := fun s hs => by
        unfold navS nav; simp only [rootPV]; rw [hs]
      split at h
      · rename_i z hz
        split at h
        · rename_i hc
          split at h
          · rename_i ds hf
            cases h
            have hKe : ∀ v, (outEf st (.slot t) none).K v = v ∨ ((outEf st (.slot t) none).K v = .undef ∧ hits (wkOf (.slot t)) v = true) :=
              killHits (k := .slot t) (r := .slot t) fun r' pre' hk => by
                simp [Kill.hits] at hk
                exact ⟨hk, fun i e => (by cases e)⟩
            have heff : ∀ s : St, Live s → idle s o = true → get s.fr t = .sl (.mu q) m cs → Eff { outEf st (.slot t) none with v := kdst o.dst (.sl (.mu (sizeT P e)) n ds) } o.dst s (setSlot { s with fr := drop t s.fr } o.dst (.sl (.mu (sizeT P e)) n ds)) := fun s hl hi hs => by
              obtain ⟨h1, h2, h3, h4⟩ := out_mid (hnav s hs)
              exact eff_mid hl hi h1 h2 h3 h4 (fun v => (hKe v).imp id And.left) (fun s c hw => by cases hw; exact ⟨rfl, hdst t rfl⟩) _
            have hfacts : Facts { outEf st (.slot t) none with v := kdst o.dst (.sl (.mu (sizeT P e)) n ds) } (.heavy (.slot t)) (o.looksAt ops) o.dst st :=
              ⟨hKe, ⟨_, rfl⟩, fun _ => rfl, hdst t rfl, by rw [hg]; rfl⟩
            refine ⟨_, heff st hl hi hg, hfacts, fun s2 hb hnr _ _ hi2 hl2 => ?_⟩
            have hg2 : get s2.fr t = .sl (.mu q) m cs := (hnr t hL).1.trans hg
            refine ⟨_, ?_, heff s2 hl2 hi2 hg2⟩
            show dSlice1 P s2 o T n parts = _
            unfold dSlice1
            rw [hp]
            simp only [hg2, he, hz]
            rw [if_pos hc, hf]
          · cases h
        · cases h
      · cases h
    · cases h
  · cases h
theorem dCallO_shape (hl : Live st) (hi : idle st o = true) {cl : Call} {fo : Operand} (ho : o.op = .call cl) (hcal : cl.callee = .value fo) {f : FuncId} {cap : List PV} (h : dCallO callF ops st o f cap cl.args.toList = some (s', c)) :
    Shape1 (fun s => dCallO callF ops s o f cap cl.args.toList) ops st s' o c := by
  have hmem : ∀ x ∈ cl.args.toList, x ∈ o.op.operands.toList := fun x hx => by
    rw [ho]; simp only [Op.operands, Call.operands, hcal]; simp at hx ⊢; exact .inr hx
  have same : ∀ (xs : List Operand) (vs : List PV) (st1 : St), (∀ x ∈ xs, x ∈ cl.args.toList) → xs.all (okOp st) = true → takeL st xs = some (st1, vs) → ∀ s2 : St, Near (o.looksAt ops) st s2 → s2.hp = st.hp →
      xs.all (okOp s2) = true ∧ ∃ s3, takeL s2 xs = some (s3, vs) := fun xs vs st1 hsub hok ht s2 hn hhp => by
    obtain ⟨h1, h2⟩ := takeL_same (s2 := s2) hok ht (fun x hx => opv_near hn (hmem x (hsub x hx))) (fun x hx => rootIf_get fun t e => sameRoot_near hn (tmp_looks (by rw [← e]; exact hmem x (hsub x hx))) fun _ t' _ i pre _ => by rw [hhp])
    exact ⟨h2, s2, h1⟩
  unfold dCallO at h
  split at h
  · rename_i t xs hargs
    have hL : t ∈ o.looksAt ops := tmp_looks (hmem _ (by rw [hargs]; simp))
    have hsub : ∀ x ∈ xs, x ∈ cl.args.toList := fun x hx => by rw [hargs]; simp [hx]
    split at h
    · rename_i q m cs hg
      split at h
      · rename_i hok
        split at h
        · cases h
        · rename_i st1 vs ht
          split at h
          · rename_i r hp' hcf
            split at h
            · rename_i hpl
              cases h
              have hdst : ∀ s, Root.slot t = .slot s → o.dst ≠ some s := fun s e hd => by
                cases e
                have hr : rooty (get st.fr t) = false := by unfold idle at hi; rw [hd] at hi; simpa using hi
                rw [hg] at hr; cases hr
              have hnav : ∀ s : St, get s.fr t = .sl (.mu q) m cs → navS s (.slot t) none = some (.mu q, m, cs) := fun s hs => by
                unfold navS nav; simp only [rootPV]; rw [hs]
              have hKe : ∀ v, (outEf st (.slot t) none).K v = v ∨ ((outEf st (.slot t) none).K v = .undef ∧ hits (wkOf (.slot t)) v = true) :=
                killHits (k := .slot t) (r := .slot t) fun r' pre' hk => by
                  simp [Kill.hits] at hk
                  exact ⟨hk, fun i e => (by cases e)⟩
              have heff : ∀ s : St, Live s → idle s o = true → get s.fr t = .sl (.mu q) m cs → Eff { outEf st (.slot t) none with v := kdst o.dst r } o.dst s (setSlot { s with fr := drop t s.fr } o.dst r) := fun s hl hi hs => by
                obtain ⟨h1, h2, h3, h4⟩ := out_mid (hnav s hs)
                exact eff_mid hl hi h1 h2 h3 h4 (fun v => (hKe v).imp id And.left) (fun s c hw => by cases hw; exact ⟨rfl, hdst t rfl⟩) _
              have hfacts : Facts { outEf st (.slot t) none with v := kdst o.dst r } (.heavy (.slot t)) (o.looksAt ops) o.dst st :=
                ⟨hKe, ⟨_, rfl⟩, fun _ => rfl, hdst t rfl, by rw [hg]; rfl⟩
              refine ⟨_, heff st hl hi hg, hfacts, fun s2 hb hnr _ hhp hi2 hl2 => ?_⟩
              have hg2 : get s2.fr t = .sl (.mu q) m cs := (hnr t hL).1.trans hg
              have hhp := hhp (Nat.le_refl _)
              obtain ⟨h1, s3, h2⟩ := same xs vs st1 hsub hok ht s2 hnr hhp
              refine ⟨_, ?_, heff s2 hl2 hi2 hg2⟩
              show dCallO callF ops s2 o f cap cl.args.toList = _
              unfold dCallO
              rw [hargs]
              simp only [hg2, h2, hhp, hcf]
              rw [if_pos h1, if_pos hpl]
            · cases h
          · cases h
      · cases h
    · cases h
  · rename_i u xs hargs
    have hsub : ∀ x ∈ xs, x ∈ cl.args.toList := fun x hx => by rw [hargs]; simp [hx]
    split at h
    · rename_i hu
      split at h
      · rename_i hok
        split at h
        · cases h
        · rename_i st1 vs ht
          split at h
          · rename_i r hp' hcf
            split at h
            · rename_i hpl
              cases h
              refine ⟨_, eff_pure hl hi r, pureFacts (fun h => by cases h), fun s2 hb hn hh hhp hi2 hl2 => ⟨_, ?_, eff_pure hl2 hi2 r⟩⟩
              have hhp := hhp (Nat.le_refl _)
              obtain ⟨h1, s3, h2⟩ := same xs vs st1 hsub hok ht s2 hn hhp
              show dCallO callF ops s2 o f cap cl.args.toList = _
              unfold dCallO
              rw [hargs]
              simp only [hu, h2, hhp, hcf]
              rw [if_pos h1, if_pos hpl, foot_same hn]
            · cases h
          · cases h
      · cases h
    · cases h
  · cases h
theorem dCallX_shape (hl : Live st) (hi : idle st o = true) {cl : Call} {fo : Operand} (ho : o.op = .call cl) (hcal : cl.callee = .value fo) {f : FuncId} {cap : List PV} (h : dCallX own callF ops st o f cap cl.args.toList = some (s', c)) :
    Shape1 (fun s => dCallX own callF ops s o f cap cl.args.toList) ops st s' o c := by
  unfold dCallX at h ⊢
  by_cases hw : own f = some 0
  · simp only [hw, if_true] at h ⊢
    exact dCallO_shape hl hi ho hcal h
  · simp only [hw, if_false] at h ⊢
    exact dCall_shape hl hi ho hcal h
theorem ownPart_same {T : TypeId} {n : Nat} {parts : Array (Nat × Operand)} (ho : o.op = .buildSlice T n parts) {s2 : St} (hn : Near (o.looksAt ops) st s2) : ownPart s2 parts = ownPart st parts := by
  unfold ownPart
  split
  · rename_i j t hp
    have hmt : Operand.tmp t ∈ o.op.operands.toList := by
      rw [ho]; simp only [Op.operands]
      have : (j, Operand.tmp t) ∈ parts.toList := by rw [hp]; simp
      simp only [Array.toList_map, List.mem_map]
      exact ⟨_, this, rfl⟩
    rw [(hn t (tmp_looks hmt)).1]
  · rfl
theorem ownOp_same {x : Operand} (hx : x ∈ o.op.operands.toList) {s2 : St} (hn : Near (o.looksAt ops) st s2) : ownOp s2 x = ownOp st x := by
  unfold ownOp
  split
  · rename_i t; rw [(hn t (tmp_looks hx)).1]
  · rfl
theorem dMoveOwn_shape (hl : Live st) (hi : idle st o = true) {x : Operand} (hx : x ∈ o.op.operands.toList) (h : dMoveOwn P st o x = some (s', c)) : Shape1 (fun s => dMoveOwn P s o x) ops st s' o c := by
  unfold dMoveOwn at h
  split at h
  · rename_i t
    have hL : t ∈ o.looksAt ops := tmp_looks hx
    split at h
    · rename_i q m cs hg
      have hdst : ∀ s, Root.slot t = .slot s → o.dst ≠ some s := fun s e hd => by
        cases e
        have hr : rooty (get st.fr t) = false := by unfold idle at hi; rw [hd] at hi; simpa using hi
        rw [hg] at hr; cases hr
      have hnav : ∀ s : St, get s.fr t = .sl (.mu q) m cs → navS s (.slot t) none = some (.mu q, m, cs) := fun s hs => by
        unfold navS nav; simp only [rootPV]; rw [hs]
      split at h
      · rename_i hc
        cases h
        have hKe : ∀ v, (outEf st (.slot t) none).K v = v ∨ ((outEf st (.slot t) none).K v = .undef ∧ hits (wkOf (.slot t)) v = true) :=
          killHits (k := .slot t) (r := .slot t) fun r' pre' hk => by
            simp [Kill.hits] at hk
            exact ⟨hk, fun i e => (by cases e)⟩
        have heff : ∀ s : St, Live s → idle s o = true → get s.fr t = .sl (.mu q) m cs → Eff { outEf st (.slot t) none with v := kdst o.dst (retag P o.type (.sl (.mu q) m cs)) } o.dst s (setSlot { s with fr := drop t s.fr } o.dst (retag P o.type (.sl (.mu q) m cs))) := fun s hl hi hs => by
          obtain ⟨h1, h2, h3, h4⟩ := out_mid (hnav s hs)
          exact eff_mid hl hi h1 h2 h3 h4 (fun v => (hKe v).imp id And.left) (fun s c hw => by cases hw; exact ⟨rfl, hdst t rfl⟩) _
        have hfacts : Facts { outEf st (.slot t) none with v := kdst o.dst (retag P o.type (.sl (.mu q) m cs)) } (.heavy (.slot t)) (o.looksAt ops) o.dst st :=
          ⟨hKe, ⟨_, rfl⟩, fun _ => rfl, hdst t rfl, by rw [hg]; rfl⟩
        refine ⟨_, heff st hl hi hg, hfacts, fun s2 hb hnr _ _ hi2 hl2 => ?_⟩
        have hg2 : get s2.fr t = .sl (.mu q) m cs := (hnr t hL).1.trans hg
        refine ⟨_, ?_, heff s2 hl2 hi2 hg2⟩
        show dMoveOwn P s2 o (.tmp t) = _
        unfold dMoveOwn
        simp only [hg2]
        rw [if_pos hc]
      · cases h
    · cases h
  · cases h
theorem dBox_shape (hl : Live st) (hi : idle st o = true) {T : TypeId} {x : Operand} (ho : o.op = .box T x) (h : dBox P H st o T x = some (s', c)) : Shape1 (fun s => dBox P H s o T x) ops st s' o c := by
  have hmem : x ∈ o.op.operands.toList := by rw [ho]; simp [Op.operands]
  unfold dBox at h
  split at h
  · rename_i d hd
    split at h
    · rename_i hc
      split at h
      · rename_i st1 v ht
        split at h
        · rename_i hst
          cases h
          let node := Node.cells (cellsOf (retag P T v))
          let e : Ef := ⟨kdst o.dst (.ptr (.heap st.hp.length) none 0), fun v => v, none, fun h => h ++ [node], fun b => b⟩
          have heff : ∀ s : St, Live s → idle s o = true → Eff e o.dst s (setSlot { s with hp := s.hp ++ [node] } o.dst (.ptr (.heap st.hp.length) none 0)) := fun s hl hi =>
            ⟨fun u => get_setSlot (st := { s with hp := s.hp ++ [node] }) hl hi _ u, (setSlot_rest _ _ _).1, (setSlot_rest _ _ _).2.1, (setSlot_rest _ _ _).2.2⟩
          refine ⟨e, heff st hl hi, ⟨fun _ => .inl rfl, rfl⟩, fun s2 hb hn hh hhp hi2 hl2 => ⟨_, ?_, heff s2 hl2 hi2⟩⟩
          have hhp := hhp (Nat.le_refl _)
          have hr : RootIf st s2 (opv st.fr x) := rootIf_get fun t e => sameRoot_near hn (tmp_looks (by rw [← e]; exact hmem)) fun _ t' _ i pre _ => by rw [hhp]
          obtain ⟨a1, a2⟩ := take_same hc.2 ht (opv_near hn hmem) hr
          show dBox P H s2 o T x = _
          unfold dBox
          simp only [hd]
          rw [if_pos ⟨hc.1, a2⟩, a1]
          simp only
          rw [if_pos hst, hhp]
        · cases h
      · cases h
    · cases h
  · cases h
end
end Go.PS
end

section
/-
  Regions that ask for their order: a step, whatever it is.
-/
namespace Go.PS
section
variable {g g' g1 g2 : G} {w w' w1 w2 : World} {hn hn' : Nat} {tm : Array Value} {fr fr' : Fr} {hp hp' hp1 hp2 : Heap} {P : Program} {t : Nat} {st s2 st1 s' : St} {H : Hint} {own : FuncId → Option Nat} {callF : CallF} {ops : Array Oper} {o : Oper} {c : Cl}

theorem Shape1.congr {F F' : St → Option (St × Cl)} (h : Shape1 F ops st s' o c) (hF : ∀ s2, Near (o.looksAt ops) st s2 → F' s2 = F s2) : Shape1 F' ops st s' o c := by
  obtain ⟨e, h1, h2, h3⟩ := h
  refine ⟨e, h1, h2, fun s2 hb hn hh hhp hi hl => ?_⟩
  obtain ⟨s2', h4, h5⟩ := h3 s2 hb hn hh hhp hi hl
  exact ⟨s2', by rw [hF s2 hn]; exact h4, h5⟩

theorem stepD1_shape (hl : Live st) (hi : idle st o = true) (hg : ∀ t ∈ o.looksAt ops, (∀ x, Operand.tmp t ≠ x ∨ x ∉ o.op.operands.toList) → viewH (get st.fr t) = false) (h : stepD1 P H own callF ops st o = some (s', c)) :
    Shape1 (fun s => stepD1 P H own callF ops s o) ops st s' o c := by
  have h0 := h
  unfold stepD1 at h
  cases ho : o.op with
  | store T a x =>
    rw [ho] at h
    exact (dStore_shape hl hi ho h).congr fun s2 _ => by unfold stepD1; rw [ho]
  | assign x =>
    rw [ho] at h
    have hx : x ∈ o.op.operands.toList := by rw [ho]; simp [Op.operands]
    simp only at h
    split at h
    · rename_i hw
      exact (dMoveOwn_shape hl hi hx h).congr fun s2 hn => by unfold stepD1; rw [ho]; simp only; rw [if_pos ((ownOp_same hx hn).trans hw)]
    · rename_i hw
      exact (dAssign_shape hl hi hx (by rw [ho]; rfl) h).congr fun s2 hn => by unfold stepD1; rw [ho]; simp only; rw [if_neg (by rw [ownOp_same hx hn]; exact hw)]
  | alloc T =>
    rw [ho] at h
    refine (dAlloc_shape hl hi h ho fun t ht => hg t ht fun x => .inr (by rw [ho]; simp [Op.operands])).congr fun s2 _ => by unfold stepD1; rw [ho]
  | build T parts =>
    rw [ho] at h
    exact (dBuild_shape hl hi ho h).congr fun s2 _ => by unfold stepD1; rw [ho]
  | buildSlice T n parts =>
    rw [ho] at h
    simp only at h
    split at h
    · rename_i hw
      exact (dSlice1_shape hl hi ho h).congr fun s2 hn => by unfold stepD1; rw [ho]; simp only; rw [if_pos ((ownPart_same ho hn).trans hw)]
    · rename_i hw
      exact (dSlice_shape hl hi ho h).congr fun s2 hn => by unfold stepD1; rw [ho]; simp only; rw [if_neg (by rw [ownPart_same ho hn]; exact hw)]
  | load T a =>
    rw [ho] at h
    exact (dLoad_shape hl hi ho h).congr fun s2 _ => by unfold stepD1; rw [ho]
  | call cl =>
    rw [ho] at h
    simp only at h
    split at h
    · rename_i f hcal
      split at h
      · rename_i fid cap hf
        refine (dCallX_shape hl hi ho hcal h).congr fun s2 hn => ?_
        have hmf : f ∈ o.op.operands.toList := by rw [ho]; simp [Op.operands, Call.operands, hcal]
        have hf2 : opv s2.fr f = .fn fid cap := (opv_near hn hmf).trans hf
        unfold stepD1; rw [ho]; simp only [hcal, hf2]
      · cases h
    · rename_i hcal
      split at h
      · rename_i x y T U hargs hT
        split at h
        · rename_i hne
          exact (dNest_shape hl hi ho hcal hargs h).congr fun s2 hn => by unfold stepD1; rw [ho]; simp only [hcal, hargs, hT]; rw [if_pos hne]
        · rename_i hne
          exact (dAppend_shape hl hi ho hcal hargs h).congr fun s2 hn => by unfold stepD1; rw [ho]; simp only [hcal, hargs, hT]; rw [if_neg hne]
      · cases h
    · cases h
    · cases h
    · rename_i b h1 h2 h3 hcal
      exact (dA_shape hl hi h).congr fun s2 hn => by
        unfold stepD1; rw [ho]; simp only [hcal]
        first | done | (split <;> first | rfl | (rename_i e; cases e; exact (h1 rfl).elim) | (rename_i e; cases e; exact (h2 rfl).elim) | (rename_i e; cases e; exact (h3 rfl).elim) | (exfalso; simp_all))
    · cases h
  | box T x =>
    rw [ho] at h
    exact (dBox_shape hl hi ho h).congr fun s2 _ => by unfold stepD1; rw [ho]
  | makeFunc f a b => rw [ho] at h; cases h
  | lookup T x ix ok =>
    rw [ho] at h
    exact (dLookup_shape hl hi ho h).congr fun s2 _ => by unfold stepD1; rw [ho]
  | makeSlice T a b =>
    rw [ho] at h
    simp only at h
    unfold dMake at h
    split at h
    · rename_i hd
      exact (dA_shape hl hi h).congr fun s2 _ => by unfold stepD1; rw [ho]; simp only; unfold dMake; rw [if_pos hd]
    · cases h
  | slice T x lo up mx =>
    rw [ho] at h
    cases lo <;> cases up <;> cases mx <;> simp only at h <;> first
      | exact (dA_shape hl hi h).congr fun s2 _ => by unfold stepD1; rw [ho]
      | (split at h
         · cases h
         · rename_i hne; exact (dA_shape hl hi h).congr fun s2 _ => by unfold stepD1; rw [ho]; simp only; rw [if_neg hne])
  | _ =>
    rw [ho] at h
    exact (dA_shape hl hi h).congr fun s2 _ => by unfold stepD1; rw [ho]

theorem shareRange_id {r : Root} {off : Nat} : ∀ (k : Nat), (∀ j, j < k → ∀ s n cs, navS st r (some (off + j)) ≠ some (.mu s, n, cs)) → shareRange st r off k = st
  | 0, _ => rfl
  | k + 1, h => by
    unfold shareRange
    rw [shareRange_id k fun j hj => h j (by omega)]
    unfold shareAt
    split
    · rename_i e
      split at e
      · rename_i s n cs hn; exact (h k (by omega) _ _ _ hn).elim
      · cases e; rfl
      · cases e
    · rfl

theorem not_shares {T : TypeId} {a : Operand} (h : shares P st T a = false) {r : Root} {off : Nat} (ha : opv st.fr a = .ptr r none off) (hT : isAggT P T = true) : shareRange st r off (sizeT P T) = st := by
  refine shareRange_id _ fun j hj s n cs hn => ?_
  unfold shares at h
  rw [ha] at h
  simp only [hT, Bool.true_and, List.any_eq_false] at h
  unfold navS at hn
  split at hn
  · rename_i hnav
    cases hn
    obtain ⟨c0, hr, hc⟩ := nav_root hnav
    rw [hr] at h
    have := h (.sl (.mu s) n cs) (by
      rw [List.mem_iff_getElem?]
      exact ⟨j, by rw [List.getElem?_take, if_pos hj, List.getElem?_drop]; exact hc⟩)
    simp [isMu] at this
  · cases hn

theorem dCallO_callOp {f : FuncId} {cap : List PV} {args : List Operand} (hw : own f = some 0) (h : dCallO callF ops st o f cap args = some (s', c)) : callOp callF (own f) st f cap args o.dst = some s' := by
  have fin : ∀ (x : Operand) (xs : List Operand) (vs : List PV) (st1 st2 : St) (q m : Nat) (cs : List PV) (r : PV) (hp' : Heap), args = x :: xs → takeL st xs = some (st1, vs) → xs.all (okOp st) = true → take st x = some (st2, .sl (.mu q) m cs) →
      st2.hp = st.hp → callF f ((.sl (.mu q) m cs :: vs) ++ cap) st.hp = some (r, hp', false) → plain r = true → callOp callF (own f) st f cap args o.dst = some (setSlot st2 o.dst r) := fun x xs vs st1 st2 q m cs r hp' ha ht hok htk hhp hcf hpl => by
    have := takeL_ok hok ht
    subst this
    unfold callOp takeArgs
    rw [hw, ha]
    simp only [List.getElem?_cons_zero, List.eraseIdx_zero, List.tail_cons, ht, htk, List.insertIdx_zero, hhp, hcf]
    rw [if_neg (by simp), if_pos ⟨trivial, hpl⟩]
  unfold dCallO at h
  split at h
  · rename_i t xs
    split at h
    · rename_i q m cs hg
      split at h
      · rename_i hok
        split at h
        · cases h
        · rename_i st1 vs ht
          split at h
          · rename_i r hp' hcf
            split at h
            · rename_i hpl
              cases h
              exact fin (.tmp t) xs vs st1 { st with fr := drop t st.fr } q m cs r hp' rfl ht hok (by simp [take, opv, hg]) rfl hcf hpl
            · cases h
          · cases h
      · cases h
    · cases h
  · rename_i u xs
    split at h
    · rename_i hu
      split at h
      · rename_i hok
        split at h
        · cases h
        · rename_i st1 vs ht
          split at h
          · rename_i r hp' hcf
            split at h
            · rename_i hpl
              cases h
              exact fin (.const u) xs vs st1 st 0 0 [] r hp' rfl ht hok (by simp [take, opv, hu, takeV]) rfl hcf hpl
            · cases h
          · cases h
      · cases h
    · cases h
  · cases h
theorem stepD_stepOp (h : stepD P H own callF ops st o = some (s', c)) : stepOp P H own callF st o = some s' := by
  unfold stepD at h
  split at h
  rotate_left
  · cases h
  unfold stepD1 at h
  unfold stepOp
  have dA' : dA P ops st o = some (s', c) → (stepA P st o).map (fun v => setSlot st o.dst v) = some s' := fun h => by
    unfold dA at h
    split at h
    · rename_i v hv; cases h; rw [hv]; rfl
    · cases h
  cases ho : o.op with
  | store T a x =>
    rw [ho] at h
    simp only at h ⊢
    unfold dStore at h
    split at h
    · rename_i hc
      rw [preShare_ok hc.1]
      split at h
      · rename_i st2 hst
        rw [hst, hc.2]
        split at h
        · cases h; rfl
        · cases h; rfl
      · cases h
    · cases h
  | assign x =>
    rw [ho] at h
    simp only at h ⊢
    split at h
    · unfold dMoveOwn at h
      split at h
      · rename_i t _
        split at h
        · rename_i q m cs hg
          split at h
          · rename_i hc
            obtain ⟨d, hd⟩ := Option.isSome_iff_exists.1 hc
            cases h
            have hp : preShare H.dies st (.tmp t) = st := by
              unfold preShare
              simp [opv, hg]
            rw [hd, hp]
            simp [assign, take, opv, hg, setSlot]
          · cases h
        · cases h
      · cases h
    unfold dAssign at h
    split at h
    · rename_i hc
      obtain ⟨d, hd⟩ := Option.isSome_iff_exists.1 hc.2
      rw [hd, preShare_ok hc.1]
      split at h
      · rename_i st2 v ht
        have := take_ok hc.1 ht
        subst this
        split at h
        · cases h
        · rename_i hv
          cases h
          simp only
          unfold assign
          rw [ht]
          simp only [hd, setSlot]
          cases v <;> first | rfl | exact (hv rfl).elim
      · cases h
    · cases h
  | alloc T =>
    rw [ho] at h
    simp only at h ⊢
    unfold dAlloc at h
    split at h
    · rename_i t z hd hz
      try rw [hd, hz]
      try simp only
      split at h
      · rename_i hb; cases h; rw [if_pos hb]
      · cases h
    · cases h
  | build T parts =>
    rw [ho] at h
    simp only at h ⊢
    unfold dBuild at h
    split at h
    · rename_i z pl d hz hp hd
      split at h
      · rename_i hok
        split at h
        · rename_i st2 cs hb
          have := buildL_ok hok.2 hb
          subst this
          cases h
          rw [preShares_ok parts.toList fun p hp => List.all_eq_true.1 hok.1 p hp]
          unfold buildOp
          rw [hz, hp, hd]
          simp only [hb]
        · cases h
      · cases h
    · cases h
  | buildSlice T n parts =>
    rw [ho] at h
    simp only at h ⊢
    split at h
    · unfold dSlice1 at h
      split at h
      · rename_i j t hp
        split at h
        · rename_i q m cs e hg he
          split at h
          · rename_i z hz
            split at h
            · rename_i hc
              split at h
              · rename_i ds hf
                cases h
                have ht : takeL st (parts.toList.map (·.2)) = some ({ st with fr := drop t st.fr }, [.sl .sh m cs]) := by
                  rw [hp]
                  simp [takeL, takeOut, opv, hg, take, cellsOf, storable, out, outCell, outC]
                rw [ht, he]
                simp only [hz]
                rw [if_pos ⟨hc.1, hc.2.1⟩, show parts.toList.map (·.1) = [j] by rw [hp]; rfl, hf]
              · cases h
            · cases h
          · cases h
        · cases h
      · cases h
    unfold dSlice at h
    split at h
    · rename_i hok
      split at h
      · rename_i st2 vs e ht he
        have := takeL_ok hok ht
        subst this
        try rw [ht, he]
        try simp only
        split at h
        · rename_i z hz
          split at h
          · rename_i hc
            split at h
            · rename_i cs hf
              cases h
              first | (simp only [hz, hc, hf, and_self, if_true]; done) | (rw [if_pos hc]) | (simp only [hf, if_pos hc])
            · cases h
          · cases h
        · cases h
      · cases h
    · cases h
  | load T a =>
    rw [ho] at h
    simp only at h ⊢
    unfold dLoad at h
    split at h
    · cases h
    · rename_i hs
      have hs : shares P st T a = false := by simpa using hs
      split
      · rename_i t off hop
        split
        · rename_i hT
          rw [not_shares hs hop hT]
          exact dA' h
        · exact dA' h
      · rw [hs]
        exact dA' h
      · exact dA' h
  | call cl =>
    rw [ho] at h
    simp only at h ⊢
    split at h
    · rename_i f hcal
      try rw [hcal]
      try simp only
      split at h
      · rename_i fid cap hf
        try rw [hf]
        try simp only
        unfold dCallX at h
        split at h
        · rename_i hw0
          have hs2 : bldOf (own fid) = none := by rw [hw0]; rfl
          have hs0 : sortsOf (own fid) = none := by rw [hw0]; rfl
          have hs1 : extsOf (own fid) = none := by rw [hw0]; rfl
          rw [hs2, hs0, hs1]
          exact dCallO_callOp hw0 h
        unfold dCall at h
        split at h
        · rename_i hc
          have hs2 : bldOf (own fid) = none := by rw [hc.1]; rfl
          have hs0 : sortsOf (own fid) = none := by rw [hc.1]; rfl
          have hs1 : extsOf (own fid) = none := by rw [hc.1]; rfl
          rw [hs2, hs0, hs1]
          simp only
          split at h
          · cases h
          · rename_i st2 vs ht
            obtain ⟨hhp, _, _⟩ := okArgs_same (s2 := st) hc.2 ht (fun _ _ => rfl) (fun _ _ _ _ _ => rfl)
            unfold callOp takeArgs
            rw [hc.1]
            simp only [ht]
            rw [hhp]
            split at h
            · cases h
            · rename_i r hp' d hcf
              try rw [hcf]
              try simp only
              split at h
              · rename_i hp
                cases h
                rw [if_pos ⟨trivial, hp.1, hp.2⟩]
              · rename_i hp
                split at h
                · rename_i hall
                  have := takeL_ok hall ht
                  subst this
                  cases h
                  rw [if_neg (fun hh => hp ⟨hh.2.1, hh.2.2⟩), if_neg hp]
                · cases h
        · cases h
      · cases h
    · rename_i hcal
      try rw [hcal]
      try simp only
      split at h
      · rename_i x y T U hargs hT
        try simp only [hargs, hT]
        split at h
        · rename_i hne
          simp only [hne, if_true]
          unfold dNest at h
          split at h
          · rename_i hU
            try rw [if_pos hU]
            split at h
            · rename_i st2 v hop
              cases h
              first | rfl | rw [hop]
            · cases h
          · cases h
        rename_i hne
        rw [Bool.not_eq_true] at hne
        simp only [hne]
        unfold dAppend at h
        split at h
        · rename_i hU
          try rw [if_pos hU]
          split at h
          · rename_i st2 v hop
            try rw [hop]
            try simp only
            split at h
            · cases h; rfl
            · cases h; rfl
            · cases h
          · cases h
        · cases h
      · cases h
    · cases h
    · cases h
    · rename_i b h1 h2 h3 hcal
      rw [hcal]
      have hb1 : b ≠ .append := fun e => by subst e; exact h1 rfl
      have hb2 : b ≠ .copy := fun e => by subst e; exact h2 rfl
      have hb3 : b ≠ .clear := fun e => by subst e; exact h3 rfl
      cases b <;> first | exact dA' h | exact (hb1 rfl).elim | exact (hb2 rfl).elim | exact (hb3 rfl).elim
    · cases h
  | box T x =>
    rw [ho] at h
    simp only at h ⊢
    unfold dBox at h
    split at h
    · rename_i d hd
      split at h
      · rename_i hc
        rw [preShare_ok hc.2]
        split at h
        · rename_i st2 v ht
          have := take_ok hc.2 ht
          subst this
          split at h
          · rename_i hst
            cases h
            unfold boxOp
            simp only [hd, hc.1, ht, hst, setSlot]
            simp
          · cases h
        · cases h
      · cases h
    · cases h
  | makeFunc f a b => rw [ho] at h; cases h
  | lookup T x ix ok =>
    rw [ho] at h
    simp only at h ⊢
    unfold dLookup at h
    split at h
    · cases h; rfl
    · cases h
  | makeMap T r => rw [ho] at h; have h' := dA' h; simp [stepA, ho] at h'
  | mapUpdate T m k x => rw [ho] at h; have h' := dA' h; simp [stepA, ho] at h'
  | insert T m k x => rw [ho] at h; have h' := dA' h; simp [stepA, ho] at h'
  | makeSlice T a b =>
    rw [ho] at h
    simp only at h ⊢
    unfold dMake at h
    split at h
    · rename_i hd
      obtain ⟨d, hd⟩ := Option.isSome_iff_exists.1 hd
      rw [hd]
      have := dA' h
      rw [hd] at this
      exact this
    · cases h
  | slice T x lo up mx =>
    rw [ho] at h
    cases lo <;> cases up <;> cases mx <;> simp only at h ⊢ <;> first
      | exact dA' h
      | (split at h
         · cases h
         · rename_i hne; rw [if_neg hne]; exact dA' h)
  | _ =>
    rw [ho] at h
    exact dA' h
end
end Go.PS
end

section
/-
  Regions that ask for their order: two steps change places.
-/
namespace Go.PS
section
variable {g g' g1 g2 : G} {w w' w1 w2 : World} {hn hn' : Nat} {tm : Array Value} {fr fr' : Fr} {hp hp' hp1 hp2 : Heap} {P : Program} {t : Nat} {st s2 st1 s1 s' : St} {H : Hint} {own : FuncId → Option Nat} {callF : CallF} {ops : Array Oper} {o x y : Oper} {c cx cy : Cl}

def guardL (ops : Array Oper) (o : Oper) : List Nat := match o.guard with
  | some (g, _) => ((ops[g]?).bind (·.dst)).toList
  | none => []
theorem guard_looks {t : Nat} (h : t ∈ guardL ops o) : t ∈ o.looksAt ops := by
  unfold Oper.looksAt guardL at *
  exact List.mem_append_right _ h
theorem looks_cases {t : Nat} (h : t ∈ o.looksAt ops) : Operand.tmp t ∈ o.op.operands.toList ∨ t ∈ guardL ops o := by
  unfold Oper.looksAt at h
  rcases List.mem_append.1 h with h | h
  · obtain ⟨x, hx, he⟩ := List.mem_filterMap.1 h
    cases x <;> simp at he
    subst he; exact .inl hx
  · exact .inr h
theorem wanted_guard {b : Bool} (h : wantedP ops fr o = some b) {t : Nat} (ht : t ∈ guardL ops o) : (∃ q, get fr t = .bool q) ∨ ∃ q, get fr t = .raw (.tuple q) := by
  unfold wantedP at h
  unfold guardL at ht
  split at h
  · rename_i hg; rw [hg] at ht; cases ht
  · rename_i j want hg
    rw [hg] at ht
    simp only at ht
    split at h
    · rename_i t' hj
      rw [hj] at ht
      have : t = t' := by simpa using ht
      subst this
      split at h
      · rename_i q hq; exact .inl ⟨q, hq⟩
      · rename_i q hq; exact .inr ⟨q, hq⟩
      · cases h
    · cases h
theorem wanted_near (h : ∀ t ∈ guardL ops o, get s2.fr t = get st.fr t) : wantedP ops s2.fr o = wantedP ops st.fr o := by
  unfold wantedP
  unfold guardL at h
  split
  · rfl
  · rename_i j want hg
    rw [hg] at h
    simp only at h
    split
    · rename_i t hj
      rw [hj] at h
      rw [h t (by simp)]
    · rfl

/-- What is known of a step with its guard. -/
structure GS (P : Program) (H : Hint) (own : FuncId → Option Nat) (callF : CallF) (ops : Array Oper) (st s' : St) (o : Oper) (c : Cl) (L : List Nat) (e : Ef) : Prop where
  idle : idle st o = true
  sub : ∀ t ∈ L, t ∈ o.looksAt ops
  known : ∀ t ∈ L, get st.fr t ≠ .undef
  eff : Eff e o.dst st s'
  facts : Facts e c L o.dst st
  loc : ∀ s2, s2.base = st.base → Near L st s2 → (1 ≤ lvl c → NearH L st s2) → (2 ≤ lvl c → s2.hp = st.hp) → PS.idle s2 o = true → Live s2 → ∃ s2', gD P H own callF ops s2 o = some (s2', c) ∧ Eff e o.dst s2 s2'

theorem gD_shape (hl : Live st) (h : gD P H own callF ops st o = some (s', c)) : ∃ L e, GS P H own callF ops st s' o c L e := by
  unfold gD at h
  split at h
  · rename_i hw
    unfold stepD at h
    split at h
    rotate_left
    · cases h
    rename_i hc
    have hgv : ∀ t ∈ guardL ops o, viewH (get st.fr t) = false := fun t ht => by
      rcases wanted_guard hw ht with ⟨q, hq⟩ | ⟨q, hq⟩ <;> rw [hq] <;> rfl
    obtain ⟨e, h1, h2, h3⟩ := stepD1_shape hl hc.1 (fun t ht hx => by
      rcases looks_cases ht with h4 | h4
      · rcases hx _ with h5 | h5
        · exact (h5 rfl).elim
        · exact (h5 h4).elim
      · exact hgv t h4) h
    refine ⟨o.looksAt ops, e, hc.1, fun t ht => ht, fun t ht hu => ?_, h1, h2, fun s2 hb hn hh hhp hi hl2 => ?_⟩
    · have := List.all_eq_true.1 hc.2 t ht
      rw [hu] at this; cases this
    · obtain ⟨s2', h4, h5⟩ := h3 s2 hb hn hh hhp hi hl2
      refine ⟨s2', ?_, h5⟩
      unfold gD stepD
      rw [wanted_near fun t ht => (hn t (guard_looks ht)).1, hw]
      simp only
      rw [if_pos ⟨hi, by rw [known_same hn]; exact hc.2⟩]
      exact h4
  · rename_i hw
    split at h
    · rename_i hi
      cases h
      refine ⟨guardL ops o, _, hi, fun t ht => guard_looks ht, fun t ht hu => ?_, eff_pure hl hi _, ⟨rfl, fun _ => rfl, fun _ => rfl, fun _ => rfl, fun _ => ⟨?_, fun t ht => ?_⟩, fun s hs => ⟨fun hh => ?_, fun t ht => ?_, ?_, fun hd => ?_⟩⟩, fun s2 hb hn hh hhp hi2 hl2 => ⟨_, ?_, eff_pure hl2 hi2 _⟩⟩
      · rcases wanted_guard hw ht with ⟨q, hq⟩ | ⟨q, hq⟩ <;> rw [hq] at hu <;> cases hu
      · exact viewH_kdst rfl
      · rcases wanted_guard hw ht with ⟨q, hq⟩ | ⟨q, hq⟩ <;> rw [hq] <;> rfl
      · have hs : s ∉ o.looksAt ops ++ o.dst.toList := by simpa using hs
        exact hs (List.mem_append_left _ (guard_looks hh))
      · rcases wanted_guard hw ht with ⟨q, hq⟩ | ⟨q, hq⟩ <;> rw [hq] <;> rfl
      · exact rootS_kdst rfl
      · have hs : s ∉ o.looksAt ops ++ o.dst.toList := by simpa using hs
        exact hs (List.mem_append_right _ (by simp [hd]))
      · unfold gD
        rw [wanted_near fun t ht => (hn t ht).1, hw]
        simp only [hi2, if_true]
    · cases h
  · cases h

/-- States that are the same. -/
structure Same (st s2 : St) : Prop where
  get : ∀ u, PS.get s2.fr u = PS.get st.fr u
  hp : s2.hp = st.hp
  base : s2.base = st.base
  dirty : s2.dirty = st.dirty
theorem Same.refl (st : St) : Same st st := ⟨fun _ => rfl, rfl, rfl, rfl⟩
theorem Same.symm (h : Same st s2) : Same s2 st := ⟨fun u => (h.get u).symm, h.hp.symm, h.base.symm, h.dirty.symm⟩
theorem Same.trans {s3 : St} (h : Same st s2) (h' : Same s2 s3) : Same st s3 := ⟨fun u => (h'.get u).trans (h.get u), h'.hp.trans h.hp, h'.base.trans h.base, h'.dirty.trans h.dirty⟩
theorem Same.live (h : Same st s2) (hl : Live st) : Live s2 := fun t t' pre hr => by
  rw [h.get] at hr ⊢; exact hl t t' pre hr
theorem Same.idle (h : Same st s2) (hi : idle st o = true) : PS.idle s2 o = true := by
  unfold PS.idle at hi ⊢
  split
  · rename_i d hd; rw [hd] at hi; rw [h.get]; exact hi
  · rfl

theorem gD_congr (hl : Live st) (h : gD P H own callF ops st o = some (s', c)) (hs : Same st s2) : ∃ s2', gD P H own callF ops s2 o = some (s2', c) ∧ Same s' s2' := by
  obtain ⟨L, e, G⟩ := gD_shape hl h
  obtain ⟨s2', h1, h2⟩ := G.loc s2 hs.base (fun t _ => ⟨hs.get t, fun q _ _ => hs.get q⟩) (fun _ _ _ i _ _ => by rw [hs.hp]) (fun _ => hs.hp) (hs.idle G.idle) (hs.live hl)
  refine ⟨s2', h1, fun u => ?_, ?_, ?_, ?_⟩
  · rw [h2.get, G.eff.get, hs.get]
  · rw [h2.hp, G.eff.hp, hs.hp]
  · rw [h2.base, G.eff.base, hs.base]
  · rw [h2.dirty, G.eff.dirty, hs.dirty]

theorem hits_rooty {k : Wk} {v : PV} (h : rooty v = true) : hits k v = false := by
  cases k <;> cases v <;> first | rfl | cases h
theorem K_rooty {e : Ef} {k : Wk} (hK : ∀ v, e.K v = v ∨ (e.K v = .undef ∧ hits k v = true)) (v : PV) : rooty (e.K v) = rooty v := by
  rcases hK v with h | ⟨h, hh⟩
  · rw [h]
  · rw [h]
    cases hr : rooty v with
    | false => rfl
    | true => rw [hits_rooty hr] at hh; cases hh

/-- What a heavy step leaves as it was, where the pure step looks. -/
structure Calm (e : Ef) (k : Wk) (L : List Nat) (dst : Option Nat) (st : St) : Prop where
  at' : ∀ t ∈ L, hits k (get st.fr t) = false → e.at t (get st.fr t) = get st.fr t

theorem at_calm {e : Ef} {k : Wk} {L : List Nat} {dst : Option Nat} (hf : Facts e (.heavy k) L dst st) (u : Nat) (v : PV) (hk : hits k v = false) (hu : ∀ s, k = .slot s → u ≠ s) : e.at u v = v := by
  obtain ⟨hK, hW⟩ := hf
  have hKv : e.K v = v := by
    rcases hK v with h | ⟨_, h⟩
    · exact h
    · rw [hk] at h; cases h
  unfold Ef.at
  cases k with
  | none => rw [hW]; exact hKv
  | heap => rw [hW]; exact hKv
  | slot s =>
    obtain ⟨⟨c, hw⟩, _⟩ := hW
    rw [hw]
    simp only
    rw [if_neg (hu s rfl)]; exact hKv
theorem at_cases {e : Ef} {k : Wk} {L : List Nat} {dst : Option Nat} (hf : Facts e (.heavy k) L dst st) (u : Nat) (v : PV) (hu : ∀ s, k = .slot s → u ≠ s) : e.at u v = v ∨ e.at u v = .undef := by
  obtain ⟨hK, hW⟩ := hf
  have hKv : e.K v = v ∨ e.K v = .undef := (hK v).imp id And.left
  unfold Ef.at
  cases k with
  | none => rw [hW]; exact hKv
  | heap => rw [hW]; exact hKv
  | slot s =>
    obtain ⟨⟨c, hw⟩, _⟩ := hW
    rw [hw]
    simp only
    rw [if_neg (hu s rfl)]; exact hKv
theorem at_pure {e : Ef} {n : Nat} {F L : List Nat} {dst : Option Nat} (hf : Facts e (.pure n F) L dst st) (u : Nat) (v : PV) : e.at u v = v := by
  obtain ⟨hW, hK, _⟩ := hf
  unfold Ef.at
  rw [hW]; exact hK v
theorem at_rooty {e : Ef} {k : Wk} {L : List Nat} {dst : Option Nat} (hf : Facts e (.heavy k) L dst st) (u : Nat) (v : PV) (hu : ∀ s, k = .slot s → u ≠ s) : rooty (e.at u v) = rooty v := by
  obtain ⟨hK, hW⟩ := hf
  unfold Ef.at
  cases k with
  | none => rw [hW]; exact K_rooty hK v
  | heap => rw [hW]; exact K_rooty hK v
  | slot s =>
    obtain ⟨⟨c, hw⟩, _⟩ := hW
    rw [hw]
    simp only
    rw [if_neg (hu s rfl)]; exact K_rooty hK v

theorem not_hits_of_clash {n : Nat} {F L : List Nat} {k : Wk} {e : Ef} {dst : Option Nat} (hc : clash (.pure n F) (.heavy k) = false) (hf : Facts e (.pure n F) L dst st) :
    (∀ t ∈ L, hits k (get st.fr t) = false) ∧ hits k e.v = false ∧ (∀ s, k = .slot s → s ∉ L ∧ dst ≠ some s ∧ ∀ t ∈ L, (rootS (get st.fr t)).contains s = false) := by
  obtain ⟨_, _, _, _, hn, hF⟩ := hf
  cases k with
  | none => exact ⟨fun _ _ => rfl, rfl, fun s e => by cases e⟩
  | heap =>
    have h0 : n = 0 := by simpa [clash] using hc
    exact ⟨fun t ht => (hn h0).2 t ht, (hn h0).1, fun s e => by cases e⟩
  | slot s =>
    have hs : F.contains s = false := hc
    obtain ⟨h1, h2, h3, h4⟩ := hF s hs
    exact ⟨fun t ht => h2 t ht, h3, fun q e => by cases e; exact ⟨h1, h4, h2⟩⟩
end
end Go.PS
end

section
/-
  Regions that ask for their order: two steps change places, part 2.
-/
namespace Go.PS
section
variable {P : Program} {st s2 st1 s1 s' : St} {H : Hint} {own : FuncId → Option Nat} {callF : CallF} {ops : Array Oper} {o x y : Oper} {c cx cy : Cl}

def RefLt (st : St) : Prop := ∀ t i pre, refOf (get st.fr t) = some (.heap i, pre) → i < st.hp.length
def Clean (st s' : St) (c : Cl) : Prop := c = .heavy .none → ∀ i, i < st.hp.length → s'.hp[i]? = st.hp[i]?

theorem idle_get {d : Nat} (hi : idle st o = true) (hd : o.dst = some d) : rooty (get st.fr d) = false := by
  unfold idle at hi; rw [hd] at hi; simpa using hi
theorem idle_of (h : ∀ d, o.dst = some d → rooty (get st.fr d) = false) : idle st o = true := by
  unfold idle
  split
  · rename_i d hd; simp [h d hd]
  · rfl

theorem swap (hl : Live st) (hl1 : Live s1) (hrl : RefLt st) (hy : gD P H own callF ops st y = some (s1, cy)) (hx : gD P H own callF ops s1 x = some (s2, cx)) (hap : Oper.apart ops y x = true) (hcl : clash cy cx = false)
    (hcy : Clean st s1 cy) (hokx : ∀ sx c, gD P H own callF ops st x = some (sx, c) → Live sx ∧ Clean st sx c) :
    ∃ sx s2', gD P H own callF ops st x = some (sx, cx) ∧ gD P H own callF ops sx y = some (s2', cy) ∧ Same s2 s2' := by
  obtain ⟨a1, a2, a3⟩ := Oper.apart_spec hap
  obtain ⟨Ly, ey, Gy⟩ := gD_shape hl hy
  obtain ⟨Lx, ex, Gx⟩ := gD_shape hl1 hx
  -- the slots of the one that the other one looks at
  have dyL : ∀ t ∈ Lx, y.dst ≠ some t := fun t ht hd => a1 t hd (Gx.sub t ht)
  have dxL : ∀ t ∈ Ly, x.dst ≠ some t := fun t ht hd => a3 t hd (Gy.sub t ht)
  have dxy : ∀ d, y.dst = some d → x.dst ≠ some d := a2
  have g1 : ∀ u, y.dst ≠ some u → get s1.fr u = ey.at u (get st.fr u) := fun u hu => by rw [Gy.eff.get, if_neg hu]
  -- y leaves alone what x looks at
  have hA : ∀ t ∈ Lx, get s1.fr t = get st.fr t := fun t ht => by
    rw [g1 t (dyL t ht)]
    cases cy with
    | pure n F => exact at_pure Gy.facts t _
    | heavy k =>
      cases cx with
      | heavy k' => cases hcl
      | pure n F =>
        have hcl' : clash (.pure n F) (.heavy k) = false := by simpa [clash] using hcl
        obtain ⟨_, _, hs⟩ := not_hits_of_clash hcl' Gx.facts
        rcases at_cases Gy.facts t (get st.fr t) (fun s e h => (hs s e).1 (h ▸ ht)) with h | h
        · exact h
        · have := Gx.known t ht
          rw [g1 t (dyL t ht), h] at this
          exact (this rfl).elim
  have rootA : ∀ q, rooty (get st.fr q) = true → (∀ s, cy = .heavy (.slot s) → q ≠ s) → get s1.fr q = get st.fr q := fun q hq hs => by
    have hd : y.dst ≠ some q := fun hd => by rw [idle_get Gy.idle hd] at hq; cases hq
    rw [g1 q hd]
    cases cy with
    | pure n F => exact at_pure Gy.facts q _
    | heavy k => exact at_calm Gy.facts q _ (hits_rooty hq) fun s e => hs s (by rw [e])
  have nearA : Near Lx s1 st := fun t ht => ⟨(hA t ht).symm, fun q pre hr => by
    rw [hA t ht] at hr
    refine (rootA q (rooty_of_rootOk (hl t q pre hr)) fun s e => ?_).symm
    subst e
    cases cx with
    | heavy k' => cases hcl
    | pure n F =>
      have hcl' : clash (.pure n F) (.heavy (.slot s)) = false := by simpa [clash] using hcl
      obtain ⟨_, _, hs⟩ := not_hits_of_clash hcl' Gx.facts
      have := (hs s rfl).2.2 t ht
      rw [hA t ht] at this
      unfold rootS at this
      rw [hr] at this
      intro e2; subst e2; simp at this⟩
  have hpA : ∀ (hk : ∀ k, cy = .heavy k → ∃ s, k = .slot s), s1.hp = st.hp := fun hk => by
    rw [Gy.eff.hp]
    cases cy with
    | pure n F => exact Gy.facts.2.2.1 _
    | heavy k =>
      obtain ⟨s, rfl⟩ := hk k rfl
      exact Gy.facts.2.2.1 _
  have lvlA : ∀ k, cy = .heavy k → (k = .none → lvl cx ≤ 1) ∧ (k = .heap → lvl cx = 0) := fun k e => by
    subst e
    cases cx with
    | heavy k' => cases hcl
    | pure n F =>
      constructor
      · rintro rfl; have : ¬ 2 ≤ n := by simpa [clash] using hcl
        simp only [lvl]; omega
      · rintro rfl; have : ¬ 1 ≤ n := by simpa [clash] using hcl
        simp only [lvl]; omega
  have nearHA : 1 ≤ lvl cx → NearH Lx s1 st := fun h1 t ht i pre hr => by
    rw [hA t ht] at hr
    have hlt := hrl t i pre hr
    cases hcy' : cy with
    | pure n F => rw [hpA fun k e => by rw [hcy'] at e; cases e]
    | heavy k =>
      cases k with
      | none => exact (hcy (by rw [hcy']) i hlt).symm
      | heap => have := (lvlA _ hcy').2 rfl; omega
      | slot s => rw [hpA fun k e => ⟨s, by rw [hcy'] at e; cases e; rfl⟩]
  have hpA2 : 2 ≤ lvl cx → st.hp = s1.hp := fun h2 => by
    cases hcy' : cy with
    | pure n F => rw [hpA fun k e => by rw [hcy'] at e; cases e]
    | heavy k =>
      cases k with
      | none => have := (lvlA _ hcy').1 rfl; omega
      | heap => have := (lvlA _ hcy').2 rfl; omega
      | slot s => rw [hpA fun k e => ⟨s, by rw [hcy'] at e; cases e; rfl⟩]
  have idleA : idle st x = true := idle_of fun d hd => by
    have h1 := idle_get Gx.idle hd
    have hne : y.dst ≠ some d := fun e => dxy d e hd
    rw [g1 d hne] at h1
    cases hcy' : cy with
    | pure n F => have hf := Gy.facts; rw [hcy'] at hf; rwa [at_pure hf] at h1
    | heavy k =>
      have hf := Gy.facts; rw [hcy'] at hf
      rwa [at_rooty hf d _ fun s e => ?_] at h1
      cases hcx' : cx with
      | heavy k' => rw [hcy', hcx'] at hcl; cases hcl
      | pure n F =>
        rw [hcy', hcx', e] at hcl
        have hcl' : clash (.pure n F) (.heavy (.slot s)) = false := by simpa [clash] using hcl
        have hfx := Gx.facts; rw [hcx'] at hfx
        obtain ⟨_, _, hs⟩ := not_hits_of_clash hcl' hfx
        intro e2; subst e2
        exact (hs d rfl).2.1 hd
  obtain ⟨sx, hsx, Ex⟩ := Gx.loc st Gy.eff.base.symm nearA nearHA hpA2 idleA hl
  obtain ⟨hlx, hcx⟩ := hokx sx cx hsx
  have g2 : ∀ u, x.dst ≠ some u → get sx.fr u = ex.at u (get st.fr u) := fun u hu => by rw [Ex.get, if_neg hu]
  -- x leaves alone what y looks at
  have calmB : ∀ u, hits (match cx with | .heavy k => k | _ => .none) (get st.fr u) = false → (∀ s, cx = .heavy (.slot s) → u ≠ s) → ex.at u (get st.fr u) = get st.fr u := fun u hh hs => by
    cases cx with
    | pure n F => exact at_pure Gx.facts u _
    | heavy k => exact at_calm Gx.facts u _ hh fun s e => hs s (by rw [e])
  have factsY : ∀ k, cx = .heavy k → (∀ t ∈ Ly, hits k (get st.fr t) = false) ∧ hits k ey.v = false ∧ (∀ s, k = .slot s → s ∉ Ly ∧ y.dst ≠ some s ∧ ∀ t ∈ Ly, (rootS (get st.fr t)).contains s = false) := fun k e => by
    subst e
    cases cy with
    | heavy k' => cases hcl
    | pure n F => exact not_hits_of_clash hcl Gy.facts
  have hB : ∀ t ∈ Ly, get sx.fr t = get st.fr t := fun t ht => by
    rw [g2 t (dxL t ht)]
    refine calmB t ?_ fun s e => ?_
    · cases hcx' : cx with
      | pure n F => rfl
      | heavy k => exact (factsY k hcx').1 t ht
    · intro e2; subst e2
      exact ((factsY _ e).2.2 t rfl).1 ht
  have nearB : Near Ly st sx := fun t ht => ⟨hB t ht, fun q pre hr => by
    have hq := rooty_of_rootOk (hl t q pre hr)
    have hd : x.dst ≠ some q := fun hd => by rw [idle_get idleA hd] at hq; cases hq
    rw [g2 q hd]
    refine calmB q (hits_rooty hq) fun s e => ?_
    have := ((factsY _ e).2.2 s rfl).2.2 t ht
    unfold rootS at this
    rw [hr] at this
    intro e2; subst e2; simp at this⟩
  have hpB : ∀ (hk : ∀ k, cx = .heavy k → ∃ s, k = .slot s), sx.hp = st.hp := fun hk => by
    rw [Ex.hp]
    cases cx with
    | pure n F => exact Gx.facts.2.2.1 _
    | heavy k =>
      obtain ⟨s, rfl⟩ := hk k rfl
      exact Gx.facts.2.2.1 _
  have lvlB : ∀ k, cx = .heavy k → (k = .none → lvl cy ≤ 1) ∧ (k = .heap → lvl cy = 0) := fun k e => by
    subst e
    cases cy with
    | heavy k' => cases hcl
    | pure n F =>
      constructor
      · rintro rfl; have : ¬ 2 ≤ n := by simpa [clash] using hcl
        simp only [lvl]; omega
      · rintro rfl; have : ¬ 1 ≤ n := by simpa [clash] using hcl
        simp only [lvl]; omega
  have nearHB : 1 ≤ lvl cy → NearH Ly st sx := fun h1 t ht i pre hr => by
    have hlt := hrl t i pre hr
    cases hcx' : cx with
    | pure n F => rw [hpB fun k e => by rw [hcx'] at e; cases e]
    | heavy k =>
      cases k with
      | none => exact hcx (by rw [hcx']) i hlt
      | heap => have := (lvlB _ hcx').2 rfl; omega
      | slot s => rw [hpB fun k e => ⟨s, by rw [hcx'] at e; cases e; rfl⟩]
  have hpB2 : 2 ≤ lvl cy → sx.hp = st.hp := fun h2 => by
    cases hcx' : cx with
    | pure n F => rw [hpB fun k e => by rw [hcx'] at e; cases e]
    | heavy k =>
      cases k with
      | none => have := (lvlB _ hcx').1 rfl; omega
      | heap => have := (lvlB _ hcx').2 rfl; omega
      | slot s => rw [hpB fun k e => ⟨s, by rw [hcx'] at e; cases e; rfl⟩]
  have idleB : idle sx y = true := idle_of fun d hd => by
    have h1 := idle_get Gy.idle hd
    rw [g2 d (dxy d hd)]
    cases hcx' : cx with
    | pure n F => have hf := Gx.facts; rw [hcx'] at hf; rwa [at_pure hf]
    | heavy k =>
      have hf := Gx.facts; rw [hcx'] at hf
      rw [at_rooty hf d _ fun s e => ?_]
      · exact h1
      · intro e2; subst e2; subst e
        exact ((factsY _ hcx').2.2 d rfl).2.1 hd
  obtain ⟨s2', hs2, Ey⟩ := Gy.loc sx Ex.base nearB nearHB hpB2 idleB hlx
  refine ⟨sx, s2', hsx, hs2, ⟨fun u => ?_, ?_, ?_, ?_⟩⟩
  · rw [Ey.get, Gx.eff.get]
    by_cases hdx : x.dst = some u
    · have hdy : y.dst ≠ some u := fun e => dxy u e hdx
      rw [if_pos hdx, if_neg hdy, Ex.get, if_pos hdx]
      cases hcy' : cy with
      | pure n F => have hf := Gy.facts; rw [hcy'] at hf; exact at_pure hf u _
      | heavy k =>
        have hf := Gy.facts; rw [hcy'] at hf
        cases hcx' : cx with
        | heavy k' => rw [hcy', hcx'] at hcl; cases hcl
        | pure n F =>
          have hfx := Gx.facts; rw [hcx'] at hfx
          have hcl' : clash (.pure n F) (.heavy k) = false := by rw [hcy', hcx'] at hcl; simpa [clash] using hcl
          obtain ⟨_, hv, hs⟩ := not_hits_of_clash hcl' hfx
          exact at_calm hf u _ hv fun s e e2 => (hs s e).2.1 (e2 ▸ hdx)
    · rw [if_neg hdx, Gy.eff.get]
      by_cases hdy : y.dst = some u
      · rw [if_pos hdy, if_pos hdy]
        cases hcx' : cx with
        | pure n F => have hf := Gx.facts; rw [hcx'] at hf; exact (at_pure hf u _).symm
        | heavy k =>
          have hf := Gx.facts; rw [hcx'] at hf
          obtain ⟨_, hv, hs⟩ := factsY k hcx'
          exact (at_calm hf u _ hv fun s e e2 => (hs s e).2.1 (e2 ▸ hdy)).symm
      · rw [if_neg hdy, if_neg hdy, Ex.get, if_neg hdx]
        cases hcy' : cy with
        | pure n F => have hf := Gy.facts; rw [hcy'] at hf; rw [at_pure hf, at_pure hf]
        | heavy k =>
          cases hcx' : cx with
          | heavy k' => rw [hcy', hcx'] at hcl; cases hcl
          | pure n F => have hfx := Gx.facts; rw [hcx'] at hfx; rw [at_pure hfx, at_pure hfx]
  · rw [Ey.hp, Ex.hp, Gx.eff.hp, Gy.eff.hp]
    cases hcy' : cy with
    | pure n F => have hf := Gy.facts; rw [hcy'] at hf; rw [hf.2.2.1, hf.2.2.1]
    | heavy k =>
      cases hcx' : cx with
      | heavy k' => rw [hcy', hcx'] at hcl; cases hcl
      | pure n F => have hfx := Gx.facts; rw [hcx'] at hfx; rw [hfx.2.2.1, hfx.2.2.1]
  · rw [Ey.base, Ex.base, Gx.eff.base, Gy.eff.base]
  · rw [Ey.dirty, Ex.dirty, Gx.eff.dirty, Gy.eff.dirty]
    cases hcy' : cy with
    | pure n F => have hf := Gy.facts; rw [hcy'] at hf; rw [hf.2.2.2.1, hf.2.2.2.1]
    | heavy k =>
      cases hcx' : cx with
      | heavy k' => rw [hcy', hcx'] at hcl; cases hcl
      | pure n F => have hfx := Gx.facts; rw [hcx'] at hfx; rw [hfx.2.2.2.1, hfx.2.2.2.1]
end
end Go.PS
end

section
/-
  Regions that ask for their order: states that stand for the model's.
-/
namespace Go.PS
section
variable {P : Program} {st s2 st1 s1 s' : St} {H : Hint} {own : FuncId → Option Nat} {callF : CallF} {ops : Array Oper} {o x y : Oper} {c cx cy : Cl} {nt : Nat} {w : World} {g : G}

/-- A state that stands for a state of the model. -/
def Ok (P : Program) (nt : Nat) (st : St) : Prop := ∃ (g : G) (w : World) (a : Act), Rel g w a.tmps st.fr st.hp ∧ Bok P st g w ∧ a.tmps.size = nt
theorem Ok.live (h : Ok P nt st) : Live st := by obtain ⟨g, w, a, R, _⟩ := h; exact R.live
theorem Ok.refLt (h : Ok P nt st) : RefLt st := by obtain ⟨g, w, a, R, _⟩ := h; exact fun t i pre hr => R.ref_lt hr
theorem Ok.same (h : Ok P nt st) (hs : Same st s2) : Ok P nt s2 := by
  obtain ⟨g, w, a, R, hb, hn⟩ := h
  refine ⟨g, w, a, ?_, ⟨by rw [hs.base, hs.hp]; exact hb.1, hb.2⟩, hn⟩
  rw [hs.hp]
  exact R.congr hs.get

theorem put_size (a : Act) (dst : Option Nat) (v : Value) : (a.put dst v).tmps.size = a.tmps.size := by cases dst <;> simp [Act.put]

/-- What an operation brings about is there. -/
theorem Runs.exists {a : Act} {K : Value → World → Prop} (h : Runs P a o w K) : ∃ v w', K v w' := by
  unfold Runs at h
  split at h
  · exact ⟨_, _, h⟩
  · exact ⟨_, _, h⟩
  · obtain ⟨e, w', fr, ⟨v, _, hv⟩, _⟩ := h []
    exact ⟨v, w', hv⟩
  · exact h.elim

theorem Ok.step (Tb : Tabs P) (hcall : CallS P own callF) (h : Ok P nt st) (hd : ∀ d, o.dst = some d → d < nt) (hs : gS P H own callF ops st o = some s') : Ok P nt s' := by
  obtain ⟨g, w, a, R, hb, hn⟩ := h
  unfold gS at hs
  split at hs
  · obtain ⟨v, w', g', R', S'⟩ := Runs.exists (stepOp_sound Tb R hb hcall (fun d e => by rw [hn]; exact hd d e) hs)
    exact ⟨g', w', _, R', S'.bok hb, (put_size a o.dst v).trans hn⟩
  · cases hs
    have hV : V g w st.hp.length Go.undef (.raw (.tuple #[])) := .raw _ rfl
    have R1 := R.putFlat (dst := o.dst) (fun d e => by rw [hn]; exact hd d e) (fun t => hV.slot t) hV.lv
    obtain ⟨h1, h2, h3⟩ := setSlot_rest st o.dst (.raw (.tuple #[]))
    exact ⟨g, w, _, R1, ⟨by rw [h1, h2]; exact hb.1, hb.2⟩, (put_size a o.dst _).trans hn⟩
  · cases hs
theorem gD_gS (h : gD P H own callF ops st o = some (s', c)) : gS P H own callF ops st o = some s' := by
  unfold gD at h
  unfold gS
  split at h
  · rename_i hw; exact stepD_stepOp h
  · rename_i hw
    split at h
    · cases h; rfl
    · cases h
  · cases h

/-- A heavy step that turns nobody's memory is a call. -/
theorem heavy_call (h : gD P H own callF ops st o = some (s', .heavy .none)) : (∃ cl fo f cap, o.op = .call cl ∧ cl.callee = .value fo ∧ opv st.fr fo = .fn f cap ∧ dCall own callF ops st o f cap cl.args.toList = some (s', .heavy .none)) ∨ (∃ T x, dBox P H st o T x = some (s', .heavy .none)) ∨ ∃ T U x y, dNest P st o T U x y = some (s', .heavy .none) := by
  have noA : dA P ops st o ≠ some (s', .heavy .none) := fun h => by
    unfold dA at h; split at h <;> cases h
  unfold gD at h
  split at h
  · unfold stepD at h
    split at h
    rotate_left
    · cases h
    unfold stepD1 at h
    cases ho : o.op with
    | store T a x =>
      rw [ho] at h; simp only at h
      unfold dStore at h
      split at h
      · split at h
        · split at h <;> cases h
        · cases h
      · cases h
    | assign x =>
      rw [ho] at h; simp only at h
      split at h
      · unfold dMoveOwn at h
        split at h
        · split at h
          · split at h <;> cases h
          · cases h
        · cases h
      unfold dAssign at h
      split at h
      · split at h
        · split at h <;> cases h
        · cases h
      · cases h
    | alloc T =>
      rw [ho] at h; simp only at h
      unfold dAlloc at h
      split at h
      · split at h <;> cases h
      · cases h
    | build T parts =>
      rw [ho] at h; simp only at h
      unfold dBuild at h
      split at h
      · split at h
        · split at h <;> cases h
        · cases h
      · cases h
    | buildSlice T n parts =>
      rw [ho] at h; simp only at h
      split at h
      · unfold dSlice1 at h
        split at h
        · split at h
          · split at h
            · split at h
              · split at h <;> cases h
              · cases h
            · cases h
          · cases h
        · cases h
      unfold dSlice at h
      split at h
      · split at h
        · split at h
          · split at h
            · split at h <;> cases h
            · cases h
          · cases h
        · cases h
      · cases h
    | load T a =>
      rw [ho] at h; simp only at h
      unfold dLoad at h
      split at h
      · cases h
      · exact (noA h).elim
    | call cl =>
      rw [ho] at h; simp only at h
      split at h
      · rename_i f hcal
        split at h
        · rename_i fid cap hf
          unfold dCallX at h
          split at h
          · exfalso
            unfold dCallO at h
            split at h
            · split at h
              · split at h
                · split at h
                  · cases h
                  · split at h
                    · split at h <;> cases h
                    · cases h
                · cases h
              · cases h
            · split at h
              · split at h
                · split at h
                  · cases h
                  · split at h
                    · split at h <;> cases h
                    · cases h
                · cases h
              · cases h
            · cases h
          · exact .inl ⟨cl, f, fid, cap, rfl, hcal, hf, h⟩
        · cases h
      · split at h
        · split at h
          · exact .inr (.inr ⟨_, _, _, _, h⟩)
          unfold dAppend at h
          split at h
          · split at h
            · split at h <;> cases h
            · cases h
          · cases h
        · cases h
      · cases h
      · cases h
      · exact (noA h).elim
      · cases h
    | box T x => rw [ho] at h; exact .inr (.inl ⟨T, x, h⟩)
    | makeFunc f a b => rw [ho] at h; cases h
    | lookup T x ix ok =>
      rw [ho] at h; simp only at h
      unfold dLookup at h
      split at h <;> cases h
    | makeSlice T a b =>
      rw [ho] at h; simp only at h
      unfold dMake at h
      split at h
      · exact (noA h).elim
      · cases h
    | slice T x lo up mx =>
      rw [ho] at h
      cases lo <;> cases up <;> cases mx <;> simp only at h <;> first
        | exact (noA h).elim
        | (split at h
           · cases h
           · exact (noA h).elim)
    | _ => rw [ho] at h; exact (noA h).elim
  · split at h <;> cases h
  · cases h

theorem Ok.clean (hcall : CallS P own callF) (h : Ok P nt st) (hs : gD P H own callF ops st o = some (s', c)) : Clean st s' c := by
  intro hc i hi
  subst hc
  rcases heavy_call hs with ⟨cl, fo, f, cap, ho, hcal, hf, hd⟩ | ⟨T, x, hd⟩ | ⟨T, U, x, y, hd⟩
  rotate_left
  rotate_left
  · unfold dNest at hd
    split at hd
    · split at hd
      · rename_i st' v hop
        cases hd
        obtain ⟨node, b, hat⟩ := appendNest_at hop
        have := hat st (opv st.fr y) rfl rfl rfl
        rw [hop] at this
        rw [(setSlot_rest _ _ _).1, (Prod.mk.inj (Option.some.inj this)).1]
        exact List.getElem?_append_left hi
      · cases hd
    · cases hd
  rotate_left
  · unfold dBox at hd
    split at hd
    · split at hd
      · split at hd
        · split at hd
          · cases hd
            rw [(setSlot_rest _ _ _).1]
            exact List.getElem?_append_left hi
          · cases hd
        · cases hd
      · cases hd
    · cases hd
  obtain ⟨g, w, a, R, hb, hn⟩ := h
  unfold dCall at hd
  split at hd
  · rename_i hcnd
    split at hd
    · cases hd
    · rename_i st1 vs ht
      split at hd
      · cases hd
      · rename_i r hp' d hcf
        split at hd
        · cases hd
        · split at hd
          · rename_i hall
            have := takeL_ok hall ht
            subst this
            obtain ⟨g1, R1, S1, hlen, hV, e1, o1⟩ := takeL_sound rfl _ R ht
            obtain ⟨⟨tf, hsl⟩, _⟩ := opv_sound R a rfl fo
            rw [hf] at hsl
            obtain ⟨cv, hfv, hcs, hcv⟩ := hsl.fn_inv
            cases d with
            | true => cases hd
            | false =>
              cases hd
              let us : Array Value := cl.args.map a.eval ++ cv
              have hus : us.size = (vs ++ cap).length := by simp [us, hcs]; simpa using hlen.symm
              have hl : vs.length = cl.args.size := by simpa using hlen
              have hArgs : ArgsV g1.hide w st1.hp.length us (vs ++ cap) := by
                have key : ∀ (j : Nat) (u : Value) (y : PV), us[j]? = some u → (vs ++ cap)[j]? = some y → V g1.hide w st1.hp.length u y := by
                  intro j u y hu hy
                  simp only [us, Array.getElem?_append, Array.size_map] at hu
                  rw [List.getElem?_append] at hy
                  by_cases hj : j < cl.args.size
                  · rw [if_pos hj] at hu
                    rw [if_pos (by omega)] at hy
                    simp only [Array.getElem?_map, Option.map_eq_some_iff] at hu
                    obtain ⟨x, hx, rfl⟩ := hu
                    exact (hV j x y (by simpa using hx) hy).hide
                  · rw [if_neg hj] at hu
                    rw [if_neg (by omega), hl] at hy
                    exact ((hcv _ u y hu hy).mono S1.x.e0).hide
                exact ⟨0, fun j u y _ h1 h2 => key j u y h1 h2, fun u y h1 h2 => .of (key 0 u y h1 h2)⟩
              obtain ⟨_, hcalls⟩ := hcall.call f (vs ++ cap) st1.hp r hp' false hcf g1.hide w us R1.hide (hb.2.mono S1.x).hide hus hArgs
              obtain ⟨e, w', fr, ⟨v, g', _, _, x, _⟩, _⟩ := hcalls []
              rw [(setSlot_rest _ _ _).1]
              exact (x.clean rfl i hi).1
          · cases hd
  · cases hd

/-- Two steps change places, where the state stands for one of the model's. -/
theorem Ok.swap (Tb : Tabs P) (hcall : CallS P own callF) (h : Ok P nt st) (hdy : ∀ d, y.dst = some d → d < nt) (hdx : ∀ d, x.dst = some d → d < nt)
    (hy : gD P H own callF ops st y = some (s1, cy)) (hx : gD P H own callF ops s1 x = some (s2, cx)) (hap : Oper.apart ops y x = true) (hcl : clash cy cx = false) :
    ∃ sx s2', gD P H own callF ops st x = some (sx, cx) ∧ gD P H own callF ops sx y = some (s2', cy) ∧ Same s2 s2' :=
  PS.swap h.live (h.step Tb hcall hdy (gD_gS hy)).live h.refLt hy hx hap hcl (h.clean hcall hy) fun sx c hsx => ⟨(h.step Tb hcall hdx (gD_gS hsx)).live, h.clean hcall hsx⟩
end
end Go.PS
end

section
/-
  Regions that ask for their order: whatever the order, the answer is that of the text.
-/
namespace Go.PS
section
variable {P : Program} {st s2 st1 s1 s' sm : St} {H : Hint} {own : FuncId → Option Nat} {callF : CallF} {ops : Array Oper} {o x y : Oper} {c cx cy : Cl} {nt : Nat} {w : World} {g : G} {cls : Nat → Cl} {free : List Nat}

inductive Ev (P : Program) (H : Hint) (own : FuncId → Option Nat) (callF : CallF) (ops : Array Oper) (cls : Nat → Cl) : List Nat → St → St → Prop
  | nil {a b : St} (h : Same a b) : Ev P H own callF ops cls [] a b
  | cons {i : Nat} {l : List Nat} {a b d : St} {q : Oper} (ho : ops[i]? = some q) (h : gD P H own callF ops a q = some (b, cls i)) (hl : Ev P H own callF ops cls l b d) : Ev P H own callF ops cls (i :: l) a d
inductive Text (P : Program) (H : Hint) (own : FuncId → Option Nat) (callF : CallF) (ops : Array Oper) (cls : Nat → Cl) (free : List Nat) : List Nat → St → St → Prop
  | nil {a : St} : Text P H own callF ops cls free [] a a
  | free {i : Nat} {l : List Nat} {a b d : St} {q : Oper} (hf : free.contains i = true) (ho : ops[i]? = some q) (h : gD P H own callF ops a q = some (b, cls i)) (hl : Text P H own callF ops cls free l b d) : Text P H own callF ops cls free (i :: l) a d
  | lone {i : Nat} {l : List Nat} {a b d : St} {q : Oper} (hf : free.contains i = false) (ho : ops[i]? = some q) (h : gS P H own callF ops a q = some b) (hl : Text P H own callF ops cls free l b d) : Text P H own callF ops cls free (i :: l) a d

def Dst (ops : Array Oper) (nt : Nat) : Prop := ∀ (i : Nat) (o : Oper), ops[i]? = some o → ∀ d, o.dst = some d → d < nt

theorem Ev.congr (Tb : Tabs P) (hcall : CallS P own callF) (hd : Dst ops nt) {l : List Nat} (h : Ev P H own callF ops cls l st sm) : ∀ {s2}, Ok P nt st → Same st s2 → Ev P H own callF ops cls l s2 sm := by
  induction h with
  | nil h => intro s2 _ hs; exact .nil (hs.symm.trans h)
  | cons ho h hl ih =>
    intro s2 hok hs
    obtain ⟨s2', h1, h2⟩ := gD_congr hok.live h hs
    exact .cons ho h1 (ih (hok.step Tb hcall (hd _ _ ho) (gD_gS h)) h2)

theorem bubble (Tb : Tabs P) (hcall : CallS P own callF) (hd : Dst ops nt) {i : Nat} {l2 : List Nat} : ∀ {l1 : List Nat} {st : St}, Ok P nt st → Ev P H own callF ops cls (l1 ++ i :: l2) st sm →
    (∀ y ∈ l1, ∀ oy ox, ops[y]? = some oy → ops[i]? = some ox → Oper.apart ops oy ox = true ∧ clash (cls y) (cls i) = false) →
    ∃ o si, ops[i]? = some o ∧ gD P H own callF ops st o = some (si, cls i) ∧ Ev P H own callF ops cls (l1 ++ l2) si sm
  | [], st, hok, h, _ => by
    cases h with
    | cons ho h hl => exact ⟨_, _, ho, h, hl⟩
  | y :: l1, st, hok, h, hp => by
    cases h with
    | @cons _ _ _ sy _ oy hoy h hl =>
      have hok1 := hok.step Tb hcall (hd _ _ hoy) (gD_gS h)
      obtain ⟨ox, si, hox, hgx, hev⟩ := bubble Tb hcall hd hok1 hl fun z hz => hp z (by simp [hz])
      obtain ⟨hap, hcl⟩ := hp y (by simp) oy ox hoy hox
      obtain ⟨sx, s2', h1, h2, h3⟩ := hok.swap Tb hcall (hd _ _ hoy) (hd _ _ hox) h hgx hap hcl
      exact ⟨ox, sx, hox, h1, .cons hoy h2 (hev.congr Tb hcall hd (hok1.step Tb hcall (hd _ _ hox) (gD_gS hgx)) h3)⟩

def NoFree (free : List Nat) (rest : List Nat) : Prop := ∀ f r, rest = f :: r → free.contains f = false
theorem Text.split {l : List Nat} (h : Text P H own callF ops cls free l st s') : ∃ seg rest sm, l = seg ++ rest ∧ (∀ i ∈ seg, free.contains i = true) ∧ NoFree free rest ∧ Ev P H own callF ops cls seg st sm ∧ Text P H own callF ops cls free rest sm s' := by
  induction h with
  | nil => exact ⟨[], [], _, rfl, (fun i h => by cases h), (fun f r e => by cases e), .nil (Same.refl _), .nil⟩
  | @free i l st s1 s' o hf ho h hl ih =>
    obtain ⟨seg, rest, sm, e, h1, h2, h3, h4⟩ := ih
    refine ⟨i :: seg, rest, sm, by rw [e]; rfl, fun j hj => ?_, h2, .cons ho h h3, h4⟩
    rcases List.mem_cons.1 hj with rfl | hj
    · exact hf
    · exact h1 j hj
  | @lone i l st s1 s' o hf ho h hl ih =>
    refine ⟨[], i :: l, _, rfl, (fun j h => by cases h), (fun f r e => by cases e; exact hf), .nil (Same.refl _), .lone hf ho h hl⟩

theorem evalD_text : ∀ (rest : List Oper) (i : Nat) (cls0 : List (Nat × Cl)) {st s' : St} {cls' : List (Nat × Cl)}, (∀ k, ops[i + k]? = rest[k]?) → evalD P H own callF ops free i rest cls0 st = some (s', cls') →
    Text P H own callF ops (clOf cls') free (List.range' i rest.length) st s' ∧ ∀ j, j < i → clOf cls' j = clOf cls0 j
  | [], i, cls0, st, s', cls', _, h => by cases h; exact ⟨.nil, fun _ _ => rfl⟩
  | o :: rest, i, cls0, st, s', cls', hr, h => by
    have ho : ops[i]? = some o := by simpa using hr 0
    have hr' : ∀ k, ops[i + 1 + k]? = rest[k]? := fun k => by
      have := hr (k + 1)
      rw [List.getElem?_cons_succ] at this
      rw [← this]; congr 1; omega
    rw [List.length_cons, List.range'_succ]
    unfold evalD at h
    split at h
    · rename_i hf
      split at h
      · rename_i s1 c hg
        obtain ⟨h1, h2⟩ := evalD_text rest (i + 1) _ hr' h
        have hc : clOf cls' i = c := by rw [h2 i (by omega)]; simp [clOf]
        refine ⟨.free hf ho (by rw [hc]; exact hg) h1, fun j hj => ?_⟩
        rw [h2 j (by omega)]
        unfold clOf
        rw [List.find?_cons]
        have : ((i : Nat) == j) = false := by simp; omega
        simp only [this]
      · cases h
    · rename_i hf
      split at h
      · rename_i s1 hg
        obtain ⟨h1, h2⟩ := evalD_text rest (i + 1) _ hr' h
        exact ⟨.lone (by simpa using hf) ho hg h1, fun j hj => h2 j (by omega)⟩
      · cases h

/-! ### What is before an operation -/
theorem testBit_mask (acc : List Nat) : ∀ (ds : List Nat) (m q : Nat), (ds.foldl (fun m p => m ||| 2 ^ p ||| acc.getD p 0) m).testBit q = true → m.testBit q = true ∨ ∃ p ∈ ds, q = p ∨ (acc.getD p 0).testBit q = true
  | [], m, q, h => .inl h
  | d :: ds, m, q, h => by
    rw [List.foldl_cons] at h
    rcases testBit_mask acc ds _ q h with h1 | ⟨p, hp, h1⟩
    · rw [Nat.testBit_or, Nat.testBit_or] at h1
      simp only [Bool.or_eq_true] at h1
      rcases h1 with (h1 | h1) | h1
      · exact .inl h1
      · refine .inr ⟨d, by simp, .inl ?_⟩
        rw [Nat.testBit_two_pow] at h1
        have h1 : d = q := by simpa using h1
        exact h1.symm
      · exact .inr ⟨d, by simp, .inr h1⟩
    · exact .inr ⟨p, by simp [hp], h1⟩

theorem masks_spec {full : List Oper} {L : Nat → Prop} (hcl : ∀ z oz, full[z]? = some oz → L z → ∀ p ∈ directs oz, L p) : ∀ (rest pre : List Oper) (acc : List Nat), pre ++ rest = full → acc.length = pre.length →
    (∀ i oi, pre[i]? = some oi → (∀ p ∈ directs oi, L p) → ∀ q, (acc.getD i 0).testBit q = true → L q) →
    ∀ i oi, full[i]? = some oi → (∀ p ∈ directs oi, L p) → ∀ q, ((rest.foldl (fun acc o => acc ++ [maskOf acc o]) acc).getD i 0).testBit q = true → L q
  | [], pre, acc, he, hlen, hg => by
    rw [List.append_nil] at he
    subst he
    exact hg
  | o :: rest, pre, acc, he, hlen, hg => by
    rw [List.foldl_cons]
    refine masks_spec hcl rest (pre ++ [o]) _ (by rw [List.append_assoc]; exact he) (by simp [hlen]) fun i oi hi hdir q hq => ?_
    rw [List.getElem?_append] at hi
    split at hi
    · rename_i hlt
      rw [List.getD_eq_getElem?_getD, List.getElem?_append_left (by omega), ← List.getD_eq_getElem?_getD] at hq
      exact hg i oi hi hdir q hq
    · rename_i hge
      have hi0 : i = pre.length := by
        have := (List.getElem?_eq_some_iff.1 hi).1
        simp at this; omega
      subst hi0
      simp at hi
      subst hi
      rw [List.getD_eq_getElem?_getD, ← hlen, List.getElem?_append_right (Nat.le_refl _), Nat.sub_self] at hq
      have hq : (maskOf acc o).testBit q = true := by simpa using hq
      rcases testBit_mask acc _ _ _ hq with h1 | ⟨p, hp, h1⟩
      · simp at h1
      · rcases h1 with rfl | h1
        · exact hdir _ hp
        · by_cases hlt : p < pre.length
          · have hpp : pre[p]? = some pre[p] := List.getElem?_eq_getElem hlt
            refine hg p _ hpp (fun r hr => hcl p pre[p] ?_ (hdir p hp) r hr) q h1
            rw [← he, List.getElem?_append_left hlt]; exact hpp
          · rw [List.getD_eq_getElem?_getD, List.getElem?_eq_none (by omega)] at h1
            simp at h1

theorem heavy_kind {k : Wk} (h : gD P H own callF ops st o = some (s', .heavy k)) : heavyKind o = true := by
  have noA : dA P ops st o ≠ some (s', .heavy k) := fun h => by
    unfold dA at h; split at h <;> cases h
  unfold gD at h
  split at h
  · unfold stepD at h
    split at h
    rotate_left
    · cases h
    unfold stepD1 at h
    unfold heavyKind
    cases ho : o.op with
    | store T a x => rfl
    | assign x =>
      rw [ho] at h; simp only at h ⊢
      split at h
      · unfold dMoveOwn at h
        split at h
        · rfl
        · cases h
      exfalso
      unfold dAssign at h
      split at h
      · split at h
        · split at h <;> cases h
        · cases h
      · cases h
    | alloc T =>
      rw [ho] at h; simp only at h
      unfold dAlloc at h
      split at h
      · split at h <;> cases h
      · cases h
    | build T parts =>
      rw [ho] at h; simp only at h
      unfold dBuild at h
      split at h
      · split at h
        · split at h <;> cases h
        · cases h
      · cases h
    | buildSlice T n parts =>
      rw [ho] at h; simp only at h ⊢
      split at h
      · unfold dSlice1 at h
        split at h
        · split at h
          · split at h
            · split at h
              · rename_i hc; simp [hc.2.2]
              · cases h
            · cases h
          · cases h
        · cases h
      unfold dSlice at h
      split at h
      · split at h
        · split at h
          · split at h
            · split at h <;> cases h
            · cases h
          · cases h
        · cases h
      · cases h
    | load T a =>
      rw [ho] at h; simp only at h
      unfold dLoad at h
      split at h
      · cases h
      · exact (noA h).elim
    | call cl =>
      rw [ho] at h; simp only at h ⊢
      split at h
      · rename_i f hcal; simp only [hcal]
      · rename_i hcal; simp only [hcal]
      · cases h
      · cases h
      · exact (noA h).elim
      · cases h
    | box T x => rfl
    | makeFunc f a b => rw [ho] at h; cases h
    | lookup T x ix ok =>
      rw [ho] at h; simp only at h
      unfold dLookup at h
      split at h <;> cases h
    | makeSlice T a b =>
      rw [ho] at h; simp only at h
      unfold dMake at h
      split at h
      · exact (noA h).elim
      · cases h
    | slice T x lo up mx =>
      rw [ho] at h
      cases lo <;> cases up <;> cases mx <;> simp only at h <;> first
        | exact (noA h).elim
        | (split at h
           · cases h
           · exact (noA h).elim)
    | _ => rw [ho] at h; exact (noA h).elim
  · split at h <;> cases h
  · cases h
end
end Go.PS
end

section
/-
  Regions that ask for their order: the theorem.
-/
namespace Go.PS
section
variable {P : Program} {st s2 st1 s1 s' sm st' : St} {H : Hint} {own : FuncId → Option Nat} {callF : CallF} {ops : Array Oper} {o x y : Oper} {c cx cy : Cl} {nt : Nat} {w : World} {g : G} {cls : Nat → Cl} {free : List Nat} {Q : Exit → Act → World → Prop}

theorem mem_ready {listed : Array Bool} {i : Nat} (h : i ∈ Region.ready .any ops listed) : i < ops.size ∧ listed.getD i true = false ∧ ∃ o, ops[i]? = some o ∧ ∀ p ∈ directs o, listed.getD p false = true := by
  unfold Region.ready at h
  simp only [List.mem_filter, List.mem_range, Bool.and_eq_true, Bool.not_eq_true'] at h
  obtain ⟨hi, hl, ha⟩ := h
  have ho : ops[i]? = some ops[i] := Array.getElem?_eq_getElem hi
  refine ⟨hi, hl, ops[i], ho, fun p hp => ?_⟩
  rw [ho] at ha
  simp only [Option.map_some, Option.getD_some] at ha
  unfold directs at hp
  simp only [List.mem_map, List.mem_filter, Array.mem_toList_iff] at hp
  obtain ⟨e, ⟨he, hb⟩, rfl⟩ := hp
  have := Array.all_eq_true_iff_forall_mem.1 ha e he
  rw [hb] at this
  simpa using this
theorem ready_of {listed : Array Bool} {i : Nat} {o : Oper} (hi : i < ops.size) (hl : listed.getD i true = false) (ho : ops[i]? = some o) (hd : ∀ p ∈ directs o, listed.getD p false = true) : i ∈ Region.ready .any ops listed := by
  unfold Region.ready
  simp only [List.mem_filter, List.mem_range, Bool.and_eq_true, Bool.not_eq_true']
  refine ⟨hi, hl, ?_⟩
  rw [ho]
  simp only [Option.map_some, Option.getD_some]
  refine Array.all_eq_true_iff_forall_mem.2 fun e he => ?_
  cases hb : Region.binds .any e with
  | false => rfl
  | true =>
    have := hd e.on (by unfold directs; simp only [List.mem_map, List.mem_filter, Array.mem_toList_iff]; exact ⟨e, ⟨he, hb⟩, rfl⟩)
    simp [this]

theorem wpOp_gS (Tb : Tabs P) (hcall : CallS P own callF) {i : Nat} {a : Act} {K : Act → World → Prop} (R : Rel g w a.tmps st.fr st.hp) (hb : Bok P st g w) (ho : ops[i]? = some o) (hd : ∀ d, o.dst = some d → d < a.tmps.size) (hs : gS P H own callF ops st o = some s1)
    (hK : ∀ a' w' g', Rel g' w' a'.tmps s1.fr s1.hp → StepR st s1 g w g' w' → a'.tmps.size = a.tmps.size → a'.defers = a.defers → K a' w') : wpOp P ops Q i K a w := by
  have hsz : ∀ v, (a.put o.dst v).tmps.size = a.tmps.size := fun v => put_size a o.dst v
  have hrest : ∀ v, (a.put o.dst v).defers = a.defers := fun v => by cases o.dst <;> rfl
  unfold wpOp
  rw [ho]
  simp only
  unfold gS at hs
  split at hs
  · rename_i hw
    rw [wanted_sound R hw]
    simp only [if_true]
    exact .inl ((stepOp_sound Tb R hb hcall hd hs).wp fun v w1 ⟨g1, R1, S1⟩ => hK _ _ g1 R1 S1 (hsz v) (hrest v))
  · rename_i hw
    cases hs
    rw [wanted_sound R hw]
    simp only [Bool.false_eq_true, if_false]
    have hV : V g w st.hp.length Go.undef (.raw (.tuple #[])) := .raw _ rfl
    have R1 := R.putFlat hd (fun t => hV.slot t) hV.lv
    exact hK _ _ g R1 ((StepR.refl _ _ _).setSlot _ _) (hsz _) (hrest _)
  · cases hs

/-- What is checked of a region, once. -/
structure Chk (ops : Array Oper) (free : List Nat) (cls : Nat → Cl) : Prop where
  before : ∀ j oj, ops[j]? = some oj → ∀ p ∈ directs oj, p < j
  pair : ∀ i j oi oj, i < j → ops[i]? = some oi → ops[j]? = some oj → (((masks ops.toList).getD j 0).testBit i = true) ∨ (free.contains i = true ∧ free.contains j = true ∧ Oper.apart ops oi oj = true ∧ ((heavyKind oi = false ∧ heavyKind oj = false) ∨ clash (cls i) (cls j) = false))

theorem chk_spec {pairs : List (Nat × Nat)} (h : drawChk ops free pairs = true) (hp : pairs.all (fun p => !clash (cls p.1) (cls p.2)) = true) : Chk ops free cls := by
  unfold drawChk at h
  simp only [List.all_eq_true, List.mem_range] at h
  have hj : ∀ j oj, ops[j]? = some oj → (∀ p ∈ directs oj, p < j) ∧ ∀ i, i < j → pairChk ops free pairs (masks ops.toList) i j oj = true := fun j oj ho => by
    have hlt : j < ops.size := (Array.getElem?_eq_some_iff.1 ho).1
    have := h j hlt
    rw [ho] at this
    simp only [Bool.and_eq_true, List.all_eq_true, decide_eq_true_eq, List.mem_range] at this
    exact this
  refine ⟨fun j oj ho => (hj j oj ho).1, fun i j oi oj hij hi ho => ?_⟩
  have := (hj j oj ho).2 i hij
  unfold pairChk at this
  simp only [Bool.or_eq_true] at this
  rcases this with h1 | h1
  · exact .inl h1
  · rw [hi] at h1
    simp only [Bool.and_eq_true, Bool.or_eq_true, Bool.not_eq_true'] at h1
    obtain ⟨⟨⟨h2, h3⟩, h4⟩, h5⟩ := h1
    refine .inr ⟨h2, h3, h4, ?_⟩
    rcases h5 with h5 | h5
    · exact .inl h5
    · have h6 : (i, j) ∈ pairs := by simpa using h5
      have := List.all_eq_true.1 hp _ h6
      exact .inr (by simpa using this)

theorem ev_class {l : List Nat} (h : Ev P H own callF ops cls l st sm) : ∀ i ∈ l, ∀ o, ops[i]? = some o → heavyKind o = false → ∃ n F, cls i = .pure n F := by
  induction h with
  | nil h => intro i hi; cases hi
  | @cons i l a b d q ho h hl ih =>
    intro j hj o hoj hk
    rcases List.mem_cons.1 hj with rfl | hj
    · rw [ho] at hoj; cases hoj
      cases hc : cls j with
      | pure n F => exact ⟨n, F, rfl⟩
      | heavy k =>
        rw [hc] at h
        rw [heavy_kind h] at hk; cases hk
    · exact ih j hj o hoj hk

theorem After.ofSame {a : Act} (R : Rel g w a.tmps st.fr st.hp) (hs : Same st s2) : After st s2 g a w a w := by
  refine ⟨⟨g, by rw [hs.hp]; exact R.congr hs.get, ⟨hs.base, fun h => by rw [hs.dirty]; exact h, by rw [hs.hp]; exact X.refl _ _ _ _ _⟩⟩, rfl, rfl⟩

theorem draw_main (Tb : Tabs P) (hcall : CallS P own callF) (hd : Dst ops nt) (hc : Chk ops free cls) : ∀ (k : Nat) (seg rest : List Nat) (listed : Array Bool) (st sm st' : St) (a : Act) (w : World) (g : G), seg.length + rest.length = k →
    (seg ++ rest).Pairwise (· < ·) → listed.size = ops.size → (∀ i, i < ops.size → (listed.getD i true = false ↔ i ∈ seg ++ rest)) → (∀ i ∈ seg ++ rest, i < ops.size) →
    (∀ z oz, ops[z]? = some oz → listed.getD z false = true → ∀ p ∈ directs oz, listed.getD p false = true) → (∀ i ∈ seg, free.contains i = true) → NoFree free rest →
    Rel g w a.tmps st.fr st.hp → Bok P st g w → a.tmps.size = nt → Ev P H own callF ops cls seg st sm → Text P H own callF ops cls free rest sm st' →
    (∀ a' w', After st st' g a w a' w' → Q .normal a' w') → wpAny P .any ops Q k listed a w
  | 0, seg, rest, listed, st, sm, st', a, w, g, hk, hpw, hsz, hun, hlt, hcl, hseg, hnf, R, hb, hn, hev, htx, hQ => by
    have h1 : seg = [] := List.eq_nil_of_length_eq_zero (by omega)
    have h2 : rest = [] := List.eq_nil_of_length_eq_zero (by omega)
    subst h1 h2
    cases hev with
    | nil hs =>
      cases htx with
      | nil =>
        refine ⟨?_, hQ a w (After.ofSame R hs)⟩
        cases hr : Region.ready .any ops listed with
        | nil => rfl
        | cons i l =>
          obtain ⟨h3, h4, _⟩ := mem_ready (i := i) (by rw [hr]; simp)
          have := (hun i h3).1 h4
          simp at this
  | k + 1, seg, rest, listed, st, sm, st', a, w, g, hk, hpw, hsz, hun, hlt, hcl, hseg, hnf, R, hb, hn, hev, htx, hQ => by
    have hok : Ok P nt st := ⟨g, w, a, R, hb, hn⟩
    have lf : ∀ p, p < ops.size → (listed.getD p false = true ↔ p ∉ seg ++ rest) := fun p hp => by
      have h1 := hun p hp
      have e : listed.getD p true = listed.getD p false := by
        rw [Array.getD_eq_getD_getElem?, Array.getD_eq_getD_getElem?, Array.getElem?_eq_getElem (by omega)]; rfl
      rw [e] at h1
      rw [← h1]
      cases listed.getD p false <;> simp
    have getE : ∀ i, i < ops.size → ops[i]? = some ops[i]! := fun i hi => by rw [Array.getElem?_eq_getElem hi, getElem!_pos ops i hi]
    -- who is ready has all that come before it behind it
    have anc : ∀ i oi, ops[i]? = some oi → (∀ p ∈ directs oi, listed.getD p false = true) → ∀ q, ((masks ops.toList).getD i 0).testBit q = true → listed.getD q false = true := fun i oi ho hdir q hq =>
      masks_spec (full := ops.toList) (L := fun p => listed.getD p false = true) (fun z oz hz hL => hcl z oz (by simpa using hz) hL) ops.toList [] [] (by simp) rfl (fun i oi hi => by simp at hi) i oi (by simpa using ho) hdir q hq
    refine ⟨fun hnil => ?_, fun i hi => ?_⟩
    · -- something is ready
      exfalso
      have hne : seg ++ rest ≠ [] := fun e => by
        have h0 : (seg ++ rest).length = 0 := by rw [e]; rfl
        rw [List.length_append] at h0; omega
      cases hm : seg ++ rest with
      | nil => exact hne hm
      | cons m l =>
        have hmem : m ∈ seg ++ rest := by rw [hm]; simp
        have hms := hlt m hmem
        have hmo := getE m hms
        rw [hm] at hpw
        have hmin : ∀ p, p < m → p ∉ seg ++ rest := fun p hp hpm => by
          rw [hm] at hpm
          rcases List.mem_cons.1 hpm with rfl | hpl
          · omega
          · have := (List.pairwise_cons.1 hpw).1 p hpl; omega
        have : m ∈ Region.ready .any ops listed := ready_of hms ((hun m hms).2 hmem) hmo fun p hp => by
          have hpm := hc.before m _ hmo p hp
          exact (lf p (by omega)).2 (hmin p hpm)
        rw [hnil] at this; cases this
    · obtain ⟨his, hil, oi, hoi, hdir⟩ := mem_ready hi
      have himem := (hun i his).1 hil
      -- the one that comes before and is not listed is not waited for
      have notBefore : ∀ s, s ∈ seg ++ rest → s < i → ∀ os, ops[s]? = some os → free.contains s = true ∧ free.contains i = true ∧ Oper.apart ops os oi = true ∧ ((heavyKind os = false ∧ heavyKind oi = false) ∨ clash (cls s) (cls i) = false) := fun s hs hsi os hos => by
        rcases hc.pair s i os oi hsi hos hoi with h1 | h1
        · exact ((lf s (hlt s hs)).1 (anc i oi hoi hdir s h1) hs).elim
        · exact h1
      -- what follows, when i is listed
      have next : ∀ (seg' rest' : List Nat) (s1 sm' : St), (∀ j, j ∈ seg' ++ rest' ↔ j ∈ seg ++ rest ∧ j ≠ i) → seg'.length + rest'.length = k → (seg' ++ rest').Pairwise (· < ·) → (∀ j ∈ seg', free.contains j = true) → NoFree free rest' →
          gS P H own callF ops st oi = some s1 → Ev P H own callF ops cls seg' s1 sm' → Text P H own callF ops cls free rest' sm' st' → wpOp P ops Q i (wpAny P .any ops Q k (listed.setIfInBounds i true)) a w := by
        intro seg' rest' s1 sm' hmem hlen hpw' hseg' hnf' hg hev' htx'
        refine wpOp_gS Tb hcall R hb hoi (fun d e => by rw [hn]; exact hd i oi hoi d e) hg fun a' w' g' R' S' h1 h2 => ?_
        have gd : ∀ (j : Nat) (b : Bool), j < ops.size → (listed.setIfInBounds i true).getD j b = if i = j then true else listed.getD j b := fun j b hj => by
          rw [Array.getD_eq_getD_getElem?, Array.getElem?_setIfInBounds]
          by_cases e : i = j
          · subst e; rw [if_pos rfl, if_pos (by omega), if_pos rfl]; rfl
          · rw [if_neg e, if_neg e, ← Array.getD_eq_getD_getElem?]
        refine draw_main Tb hcall hd hc k seg' rest' _ s1 sm' st' a' w' g' hlen hpw' (by simp [hsz]) (fun j hj => ?_) (fun j hj => hlt j ((hmem j).1 hj).1) (fun z oz hz hL p hp => ?_) hseg' hnf' R' (S'.bok hb) (h1.trans hn) hev' htx' fun a2 w2 ⟨⟨g2, R2, S2⟩, h3, h4⟩ => hQ a2 w2 ⟨⟨g2, R2, S'.trans S2⟩, h3.trans h1, h4.trans h2⟩
        · rw [gd j true hj, hmem j]
          by_cases e : i = j
          · subst e; simp
          · rw [if_neg e, hun j hj]
            exact ⟨fun h => ⟨h, fun e2 => e e2.symm⟩, fun h => h.1⟩
        · have hzs : z < ops.size := (Array.getElem?_eq_some_iff.1 hz).1
          have hpz := hc.before z oz hz p hp
          rw [gd p false (by omega)]
          split
          · rfl
          · rw [gd z false hzs] at hL
            split at hL
            · rename_i e; subst e
              rw [hoi] at hz; cases hz
              exact hdir p hp
            · exact hcl z oz hz hL p hp
      cases seg with
      | nil =>
        -- the next one stands alone
        cases rest with
        | nil => simp at himem
        | cons f r =>
          have hff : free.contains f = false := hnf f r rfl
          have hfm : f ∈ [] ++ f :: r := by simp
          have hie : i = f := by
            rcases List.mem_cons.1 (by simpa using himem) with h | h
            · exact h
            · exfalso
              have hfi : f < i := by
                simp only [List.nil_append] at hpw
                exact (List.pairwise_cons.1 hpw).1 i h
              have := (notBefore f hfm hfi _ (getE f (hlt f hfm))).1
              rw [hff] at this; cases this
          subst hie
          cases hev with
          | nil hs =>
            cases htx with
            | free hf _ _ _ => rw [hff] at hf; cases hf
            | @lone _ _ _ s1 _ q hf ho hg hl =>
              rw [hoi] at ho; cases ho
              obtain ⟨seg', rest', sm', he, h1, h2, h3, h4⟩ := hl.split
              -- from the state of the text
              have R' : Rel g w a.tmps sm.fr sm.hp := by rw [hs.hp]; exact R.congr hs.get
              refine wpOp_gS Tb hcall R' ⟨by rw [hs.base, hs.hp]; exact hb.1, hb.2⟩ hoi (fun d e => by rw [hn]; exact hd _ _ hoi d e) hg fun a' w' g' R2 S2 h5 h6 => ?_
              have gd : ∀ (j : Nat) (b : Bool), j < ops.size → (listed.setIfInBounds i true).getD j b = if i = j then true else listed.getD j b := fun j b hj => by
                rw [Array.getD_eq_getD_getElem?, Array.getElem?_setIfInBounds]
                by_cases e : i = j
                · subst e; rw [if_pos rfl, if_pos (by omega), if_pos rfl]; rfl
                · rw [if_neg e, if_neg e, ← Array.getD_eq_getD_getElem?]
              simp only [List.nil_append] at hpw hun hlt lf
              have hnd := List.pairwise_cons.1 hpw
              have S0 : StepR st sm g w g w := ⟨hs.base, fun h => by rw [hs.dirty]; exact h, by rw [hs.hp]; exact X.refl _ _ _ _ _⟩
              refine draw_main Tb hcall hd hc k seg' rest' _ s1 sm' st' a' w' g' (by rw [← List.length_append, ← he]; simpa using hk) (by rw [← he]; exact hnd.2) (by simp [hsz]) (fun j hj => ?_) (fun j hj => hlt j (by rw [← he] at hj; simp [hj])) (fun z oz hz hL p hp => ?_) h1 h2 R2 (S2.bok ⟨by rw [hs.base, hs.hp]; exact hb.1, hb.2⟩) (h5.trans hn) h3 h4
                fun a2 w2 ⟨⟨g2, R3, S3⟩, h7, h8⟩ => hQ a2 w2 ⟨⟨g2, R3, (S0.trans S2).trans S3⟩, h7.trans h5, h8.trans h6⟩
              · rw [gd j true hj, ← he]
                by_cases e : i = j
                · subst e
                  simp only [if_true]
                  constructor
                  · intro h; cases h
                  · intro h; have := hnd.1 i h; omega
                · rw [if_neg e, hun j hj]
                  simp [Ne.symm e]
              · have hzs : z < ops.size := (Array.getElem?_eq_some_iff.1 hz).1
                have hpz := hc.before z oz hz p hp
                rw [gd p false (by omega)]
                split
                · rfl
                · rw [gd z false hzs] at hL
                  split at hL
                  · rename_i e; subst e
                    rw [hoi] at hz; cases hz
                    exact hdir p hp
                  · exact hcl z oz hz hL p hp
      | cons s0 seg0 =>
        have hiseg : i ∈ s0 :: seg0 := by
          rcases List.mem_append.1 himem with h | h
          · exact h
          · exfalso
            cases rest with
            | nil => cases h
            | cons f r =>
              have hff : free.contains f = false := hnf f r rfl
              have hfm : f ∈ (s0 :: seg0) ++ f :: r := by simp
              rcases List.mem_cons.1 h with rfl | hr
              · have hs0 : s0 < i := (List.pairwise_append.1 hpw).2.2 s0 (by simp) i (by simp)
                have := (notBefore s0 (by simp) hs0 _ (getE s0 (hlt s0 (by simp)))).2.1
                rw [hff] at this; cases this
              · have hfi : f < i := (List.pairwise_cons.1 (List.pairwise_append.1 hpw).2.1).1 i hr
                have := (notBefore f hfm hfi _ (getE f (hlt f hfm))).1
                rw [hff] at this; cases this
        obtain ⟨l1, l2, hsplit⟩ := List.append_of_mem hiseg
        rw [hsplit] at hev hpw hk hseg next notBefore
        have hlt1 : ∀ y ∈ l1, y < i := fun y hy => by
          have h1 := (List.pairwise_append.1 (List.pairwise_append.1 hpw).1).2.2
          exact h1 y hy i (by simp)
        obtain ⟨o', si, ho', hgi, hev'⟩ := bubble Tb hcall hd hok hev fun y hy oy ox hoy hox => by
          rw [hoi] at hox; cases hox
          obtain ⟨_, _, h3, h4⟩ := notBefore y (by simp [hy]) (hlt1 y hy) oy hoy
          refine ⟨h3, ?_⟩
          rcases h4 with ⟨h5, h6⟩ | h4
          · obtain ⟨n, F, e1⟩ := ev_class hev y (by simp [hy]) oy hoy h5
            obtain ⟨n', F', e2⟩ := ev_class hev i (by simp) oi hoi h6
            rw [e1, e2]; rfl
          · exact h4
        rw [hoi] at ho'; cases ho'
        have hpw2 : ((l1 ++ l2) ++ rest).Pairwise (· < ·) := by
          refine hpw.sublist ?_
          exact (List.Sublist.append (List.Sublist.append (List.Sublist.refl _) (List.sublist_cons_self _ _)) (List.Sublist.refl _))
        refine next (l1 ++ l2) rest si sm (fun j => ?_) (by simp at hk ⊢; omega) hpw2 (fun j hj => hseg j (by rcases List.mem_append.1 hj with h | h <;> simp [h])) hnf (gD_gS hgi) hev' htx
        constructor
        · intro hj
          refine ⟨by simp only [List.mem_append, List.mem_cons] at hj ⊢; rcases hj with (h | h) | h <;> simp [h], fun e => ?_⟩
          subst e
          have hnd := hpw.imp (fun {a b} (h : a < b) => Nat.ne_of_lt h)
          have hnd : ((l1 ++ j :: l2) ++ rest).Nodup := hnd
          rw [List.append_assoc, List.nodup_append] at hnd
          have h1 := hnd.2.2
          rcases List.mem_append.1 hj with h | h
          · rcases List.mem_append.1 h with h | h
            · exact h1 j h j (by simp) rfl
            · have := hnd.2.1
              rw [List.cons_append, List.nodup_cons] at this
              exact this.1 (by simp [h])
          · have := hnd.2.1
            rw [List.cons_append, List.nodup_cons] at this
            exact this.1 (by simp [h])
        · rintro ⟨hj, hne⟩
          simp only [List.mem_append, List.mem_cons] at hj ⊢
          rcases hj with (h | h | h) | h
          · exact .inl (.inl h)
          · exact (hne h).elim
          · exact .inl (.inr h)
          · exact .inr h

/-- A region whose order is open is what its text says. -/
theorem drawOK (Tb : Tabs P) (hm : P.follows .mixedOrders = true) (hcall : CallS P own callF) (nt : Nat) : DrawOK P H own callF nt := by
  intro id ops st st' a w g Q hwf hchk hn R hb h hQ
  unfold evalDraw at h
  split at h
  · rename_i st1 cls' hev
    split at h
    · rename_i hp
      cases h
      have hc : Chk ops (H.free id) (clOf cls') := chk_spec hchk hp
      have hd : Dst ops nt := fun i o ho d hod => wfOps_spec hwf o (by simpa using Array.mem_of_getElem? ho) d hod
      obtain ⟨htx, _⟩ := evalD_text ops.toList 0 [] (fun k => by simp) hev
      obtain ⟨seg, rest, sm, he, h1, h2, h3, h4⟩ := htx.split
      have hlr : seg ++ rest = List.range ops.size := by rw [← he, List.range_eq_range']; simp
      have R1 : Rel g w.drew a.tmps st.fr st.hp := R.grow (Grow.drew w)
      have X1 : X st.base false g w st.hp g w.drew st.hp := X.grow R (Grow.drew w)
      refine wp_region_any hm ?_
      have hlen : seg.length + rest.length = ops.size := by rw [← List.length_append, hlr, List.length_range]
      rw [← hlen]
      refine draw_main Tb hcall hd hc _ seg rest _ st sm st' a w.drew g rfl (by rw [hlr]; exact List.pairwise_lt_range) (by simp [hlen]) (fun i hi => ?_) (fun i hi => by rw [hlr] at hi; simpa using hi) (fun z oz hz hL p hp => ?_) h1 h2 R1 ⟨hb.1, hb.2.mono X1⟩ hn h3 h4
        fun a' w' ⟨⟨g2, R2, S2⟩, h5, h6⟩ => hQ a' w' ⟨⟨g2, R2, ⟨S2.base, S2.mono, (X1.trans S2.x).weaken (by simp)⟩⟩, h5, h6⟩
      · rw [hlr]
        constructor
        · intro _; simpa using hi
        · intro _
          rw [Array.getD_eq_getD_getElem?, Array.getElem?_replicate, if_pos (by omega)]; rfl
      · rw [Array.getD_eq_getD_getElem?, Array.getElem?_replicate] at hL
        split at hL <;> cases hL
    · cases h
  · cases h
end
end Go.PS
end

section
/-
  Functions.
-/
namespace Go.PS
section
variable {g g' g1 g2 : G} {w w' w1 w2 : World} {hn hn' : Nat} {tm : Array Value} {fr fr' : Fr} {hp hp' hp1 hp2 : Heap} {P : Program} {t : Nat}

theorem get_args : ∀ (args : List PV) (k t : Nat), get ((args.zipIdx k).map fun (v, i) => (i, v)) t = if k ≤ t then (args[t - k]?).getD .undef else .undef
  | [], k, t => by simp [get]
  | v :: args, k, t => by
    simp only [List.zipIdx_cons, List.map_cons, get_cons]
    rw [get_args args (k + 1) t]
    by_cases h : k = t
    · subst h; simp
    · rw [if_neg h]
      by_cases h1 : k + 1 ≤ t
      · rw [if_pos h1, if_pos (by omega), show t - k = (t - (k + 1)) + 1 by omega, List.getElem?_cons_succ]
      · rw [if_neg h1, if_neg (by omega)]

/-- The frame at a function's start. -/
theorem Rel.start (R : Rel g w #[] [] hp) {us : Array Value} {args : List PV} (hs : us.size = args.length) (hV : ∀ (j : Nat) (u : Value) (y : PV), us[j]? = some u → args[j]? = some y → V g w hp.length u y) (n : Nat) :
    Rel g w (us ++ Array.replicate n Go.undef) (args.zipIdx.map fun (v, i) => (i, v)) hp := by
  have hget : ∀ t, get (args.zipIdx.map fun (v, i) => (i, v)) t = (args[t]?).getD .undef := fun t => by rw [get_args]; simp
  have hVt : ∀ t, V g w hp.length ((us ++ Array.replicate n Go.undef).getD t Go.undef) ((args[t]?).getD .undef) := fun t => by
    cases ha : args[t]? with
    | none => exact .undef _
    | some y =>
      have hlt : t < us.size := by rw [hs]; exact lt_of_some ha
      have hu : us[t]? = some us[t] := Array.getElem?_eq_getElem hlt
      have e : (us ++ Array.replicate n Go.undef).getD t Go.undef = us[t] := by
        rw [Array.getD_eq_getD_getElem?, Array.getElem?_append_left hlt, hu]; rfl
      rw [e]
      exact hV t _ y hu ha
  refine ⟨fun t => by rw [hget]; exact (hVt t).slot t, R.heap, R.maps, R.immCell, R.ownLt, fun t t' pre h => ?_, fun t h => ?_, R.rows⟩
  · rw [hget] at h; exact ((hVt t).refOf t' pre h).elim
  · rw [hget] at h
    cases ha : args[t]? with
    | none => rw [ha] at h; exact (h rfl).elim
    | some y => have := lt_of_some ha; simp; omega

theorem Rel.finish (R : Rel g w tm fr hp) : Rel g w #[] [] hp :=
  ⟨fun t => .of (.undef _), R.heap, R.maps, R.immCell, R.ownLt, fun t t' pre h => (by cases h), fun t h => (h rfl).elim, R.rows⟩

/-- What is asked of a program's functions. -/
structure WF (P : Program) (H : FuncId → Hint) : Prop where
  name : ∀ (f : Nat) (fn : Func), P.funcs[f]? = some fn → fn.name ≠ "runtime.NumGoroutine"
  code : ∀ (f : Nat) (fn : Func) (body : Code), P.funcs[f]? = some fn → fn.body = some body → wfCode (H f) fn.ntmps body = true
  mixed : P.follows .mixedOrders = true

/-- The known functions of the library are what is said of them. -/
structure PrimSound (P : Program) (H : FuncId → Hint) : Prop where
  prim : ∀ f k, (H f).prim = some k → CallSound P fun f' args hp => if f' = f then primCall k args hp else none
  sort : ∀ f k, sortsOf (H f).own = some k → SortAt P f k.1 k.2.1 k.2.2
  ext : ∀ f e, extsOf (H f).own = some e → ExtAt P f e
  bld : ∀ f k, bldOf (H f).own = some k → BldAt P f k

def resSem (tm : Array Value) : ResultVar → Sem Value
  | .tmp t => pure (tm.getD t Go.undef)
  | .cell a t => do loadVar t (← asAddr (tm.getD a Go.undef))
def resVal (P : Program) (w : World) (tm : Array Value) (x : ResultVar) : Value :=
  match (resSem tm x).run P w with
  | .ok v _ => v
  | _ => Go.undef
theorem resVal_of {x : ResultVar} {u : Value} (h : (resSem tm x).run P w = .ok u w) : resVal P w tm x = u := by unfold resVal; rw [h]
def resV (vs : Array Value) : Value := if h : vs.size = 1 then vs[0] else .tuple vs

theorem results_run {fn : Func} (h : ∀ x ∈ fn.results.toList, (resSem tm x).run P w = .ok (resVal P w tm x) w) :
    (results fn tm).run P w = .ok (resV (fn.results.toList.map (resVal P w tm)).toArray) w := by
  have hm := run_mapM_array (P := P) (w := w) (f := resSem tm) (h := resVal P w tm) fn.results (fun x hx => h x (Array.mem_def.1 hx))
  have e : (fn.results.toList.map (resVal P w tm)).toArray = fn.results.map (resVal P w tm) := by rw [← Array.toList_map, Array.toArray_toList]
  rw [e]
  have hr : results fn tm = (do let vs ← fn.results.mapM (resSem tm); pure (if h : vs.size = 1 then vs[0] else .tuple vs)) := by
    unfold results
    have : (fun (x : ResultVar) => (match x with | .tmp t => pure (tm.getD t Go.undef) | .cell a t => do loadVar t (← asAddr (tm.getD a Go.undef)) : Sem Value)) = resSem tm := by
      funext x
      cases x <;> rfl
    rw [← this]
    rfl
  rw [hr, Sem.run_bind, hm]
  rfl

theorem drop_rel {st : St} (R : Rel g w tm st.fr st.hp) (a : Nat) : Rel g w tm (drop a st.fr) st.hp ∧ StepR st { st with fr := drop a st.fr } g w g w := ⟨R.drop a, StepR.drop st a⟩

theorem run_loadVar1 {T : TypeId} {d : TypeDesc} (hT : P.underlying T = some d) (ha : isAggT P T = false) (b : Nat) (v : Value) (h : w.cell? ⟨b, 0, none⟩ = some v) : (loadVar T ⟨b, 0, none⟩).run P w = .ok v w := by
  simp [loadVar, run_isAggT hT, ha, h, go_sem]
theorem takeRes_sound (Tb : Tabs P) {st st' : St} (R : Rel g w tm st.fr st.hp) {x : ResultVar} {y : PV} (h : takeRes P st x = some (st', y)) :
    (resSem tm x).run P w = .ok (resVal P w tm x) w ∧ ∃ g', Rel g' w tm st'.fr st'.hp ∧ StepR st st' g w g' w ∧ V g' w st'.hp.length (resVal P w tm x) y ∧ st'.hp.length = st.hp.length := by
  cases x with
  | tmp t =>
    have hv : (resSem tm (.tmp t)).run P w = .ok (tm.getD t Go.undef) w := by simp [resSem]
    rw [resVal_of hv]
    obtain ⟨g', R', S', V', e, _⟩ := takeOut_sound (a := { tmps := tm, defers := [] }) rfl R (x := .tmp t) h
    exact ⟨hv, g', R', S', V', e⟩
  | cell a T =>
    simp only [takeRes] at h
    split at h
    · rename_i cs hg
      split at h
      · rename_i hc
        obtain ⟨hlen, hst, hinfo⟩ := hc
        obtain ⟨d, hd'⟩ := Option.isSome_iff_exists.1 hinfo
        obtain ⟨i, hi⟩ := info_of_underlying hd'
        have hs := R.slots a
        rw [hg] at hs
        generalize hv : tm.getD a Go.undef = v at hs
        cases hs with
        | of hs => cases hs with | of hs => cases hs
        | @box b cs hO =>
          obtain ⟨R1, S1⟩ := drop_rel R a
          have hd : get (drop a st.fr) a = .undef := by rw [get_drop, if_pos rfl]
          let f : Nat → Value := fun j => (w.cell? ⟨b, j, none⟩).getD Go.undef
          have hf : ∀ j, j < cs.length → w.cell? ⟨b, j, none⟩ = some (f j) := fun j hj => by
            obtain ⟨u, h1, _⟩ := hO.cells j _ (List.getElem?_eq_getElem hj)
            simp only [f, h1, Option.getD_some]
          let vs : Array Value := ((List.range (sizeT P T)).map f).toArray
          have hvs : vs.size = cs.length := by simp [vs, hlen]
          have hL : ∀ (j : Nat) (v : Value) (y : PV), vs[j]? = some v → cs[j]? = some y → L g w st.hp.length (.slot a) (some j) v y := fun j v y h1 h2 => by
            obtain ⟨u, h3, h4⟩ := hO.cells j y h2
            have hj := lt_of_some h2
            have : v = f j := by
              simp only [vs, List.getElem?_toArray, List.getElem?_map, Option.map_eq_some_iff] at h1
              obtain ⟨q, h5, rfl⟩ := h1
              rw [List.getElem?_range (by omega)] at h5
              cases h5; rfl
            rw [hf j hj] at h3
            cases h3
            rw [this]; exact h4
          obtain ⟨g2, R2, X2, hV, _⟩ := R1.freezeAgg (base := st.base) (d := st.dirty) hd (fun t' pre => refOf_drop) hvs hL hst cs.length (Nat.le_refl _)
          have S2 : StepR st { st with fr := drop a st.fr } g w g2 w := S1.trans (StepR.ofX (st := { st with fr := drop a st.fr }) rfl rfl X2 id)
          have haddr : (asAddr (tm.getD a Go.undef)).run P w = .ok ⟨b, 0, none⟩ w := by rw [hv]; simp [asAddr]
          split at h
          · rename_i hagg
            cases h
            have hrun : (resSem tm (.cell a T)).run P w = .ok (.agg vs) w := by
              have hl := run_loadCells (P := P) w ⟨b, 0, none⟩ (sizeT P T) f (fun j hj => by rw [addr_add, Nat.zero_add]; exact hf j (by omega))
              simp only [resSem, Sem.run_bind, haddr, Result.andThen_ok]
              simp [loadVar, run_isAggT hd', hagg, run_sizeT hi, hl, vs]
            refine ⟨by rw [resVal_of hrun]; exact hrun, g2, R2, S2, ?_, rfl⟩
            rw [resVal_of hrun]
            refine .agg _ _ (by simpa using hvs) fun j u z h1 h2 => ?_
            simp only [List.getElem?_map, Option.map_eq_some_iff] at h2
            obtain ⟨z', h3, rfl⟩ := h2
            exact hV j u z' (lt_of_some h3) h1 h3
          · rename_i hagg
            split at h
            · rename_i c
              cases h
              have h1 : sizeT P T = 1 := by simpa using hlen.symm
              have hrun : (resSem tm (.cell a T)).run P w = .ok (f 0) w := by
                simp only [resSem, Sem.run_bind, haddr, Result.andThen_ok]
                exact run_loadVar1 hd' (by simpa using hagg) b (f 0) (hf 0 (by simp))
              refine ⟨by rw [resVal_of hrun]; exact hrun, g2, R2, S2, ?_, rfl⟩
              rw [resVal_of hrun]
              exact hV 0 (f 0) _ (by simp) (by simp [vs, h1]) rfl
            · cases h
      · cases h
    · cases h

theorem takeMany_sound (Tb : Tabs P) : ∀ (xs : List ResultVar) {st st' : St} {ys : List PV} {g : G}, Rel g w tm st.fr st.hp → takeMany P st xs = some (st', ys) →
    (∀ x ∈ xs, (resSem tm x).run P w = .ok (resVal P w tm x) w) ∧ ∃ g', Rel g' w tm st'.fr st'.hp ∧ StepR st st' g w g' w ∧ ys.length = xs.length ∧ (∀ (j : Nat) (x : ResultVar) (y : PV), xs[j]? = some x → ys[j]? = some y → V g' w st'.hp.length (resVal P w tm x) y)
  | [], st, st', ys, g, R, h => by cases h; exact ⟨(fun x hx => by cases hx), g, R, StepR.refl _ _ _, rfl, fun j x y hx => by simp at hx⟩
  | x :: xs, st, st', ys, g, R, h => by
    unfold takeMany at h
    split at h
    · cases h
    · rename_i st1 v h1
      split at h
      · cases h
      · rename_i st2 vs h2
        cases h
        obtain ⟨r1, g1, R1, S1, V1, e1⟩ := takeRes_sound Tb R h1
        obtain ⟨r2, g2, R2, S2, hlen, V2⟩ := takeMany_sound Tb xs R1 h2
        refine ⟨fun z hz => ?_, g2, R2, S1.trans S2, by simp [hlen], fun j z y hz hy => ?_⟩
        · rcases List.mem_cons.1 hz with rfl | hz
          · exact r1
          · exact r2 z hz
        · cases j with
          | zero => simp at hz hy; subst hz; subst hy; exact V1.mono S2.x.e0
          | succ j => exact V2 j z y (by simpa using hz) (by simpa using hy)

theorem takeRs_sound (Tb : Tabs P) {st st' : St} (R : Rel g w tm st.fr st.hp) {xs : List ResultVar} {r : PV} (h : takeRs P st xs = some (st', r)) :
    (∀ x ∈ xs, (resSem tm x).run P w = .ok (resVal P w tm x) w) ∧ ∃ g', Rel g' w tm st'.fr st'.hp ∧ StepR st st' g w g' w ∧ ResV g' w st'.hp.length (resV (xs.map (resVal P w tm)).toArray) r := by
  have one : ∀ (u : Value), resV #[u] = u := fun u => rfl
  unfold takeRs at h
  split at h
  · rename_i t
    have hv : (resSem tm (.tmp t)).run P w = .ok (tm.getD t Go.undef) w := by simp [resSem]
    have hall : ∀ x ∈ [ResultVar.tmp t], (resSem tm x).run P w = .ok (resVal P w tm x) w := fun x hx => by
      have : x = .tmp t := by simpa using hx
      subst this; rw [resVal_of hv]; exact hv
    refine ⟨hall, ?_⟩
    simp only [List.map_cons, List.map_nil]
    rw [one, resVal_of hv]
    split at h
    · rename_i tg n cs hg
      cases h
      have hs := R.slots t
      rw [hg] at hs
      obtain ⟨g2, R2, X2, hres, _⟩ := (R.drop t).release (base := st.base) (d := st.dirty) (free_drop st.fr st.hp t none) (fun _ i e => by cases e) hs.sl_inv
      exact ⟨g2, R2, (StepR.drop st t).trans (StepR.ofX (st := { st with fr := drop t st.fr }) rfl rfl X2 id), hres⟩
    · obtain ⟨g', R', S', V', e, _⟩ := takeOut_sound (a := { tmps := tm, defers := [] }) rfl R (x := .tmp t) h
      exact ⟨g', R', S', .of V'⟩
  · rename_i x _
    obtain ⟨r1, g1, R1, S1, V1, e1⟩ := takeRes_sound Tb R h
    refine ⟨fun z hz => ?_, g1, R1, S1, ?_⟩
    · have : z = x := by simpa using hz
      subst this; exact r1
    · simp only [List.map_cons, List.map_nil]
      rw [one]; exact .of V1
  · rename_i hx1 hx2
    split at h
    · rename_i st1 vs hm
      cases h
      obtain ⟨r1, g1, R1, S1, hlen, V1⟩ := takeMany_sound Tb xs R hm
      refine ⟨r1, g1, R1, S1, ?_⟩
      have hne : ((xs.map (resVal P w tm)).toArray).size ≠ 1 := by
        intro e
        simp at e
        match xs, e with
        | [x], _ => exact hx2 x rfl
      unfold resV
      rw [dif_neg hne]
      refine .tup (by simpa using hlen.symm) fun j u y h1 h2 => ?_
      simp only [List.getElem?_toArray, List.getElem?_map, Option.map_eq_some_iff] at h1
      obtain ⟨x, h3, rfl⟩ := h1
      exact V1 j x y h3 h2
    · cases h

/-- The frame at a function's start: one of the arguments may own what it has. -/
theorem Rel.startArgs {base : Nat} {d : Bool} (R : Rel g w #[] [] hp) {us : Array Value} {args : List PV} (hs : us.size = args.length) (hA : ArgsV g w hp.length us args) (n : Nat) :
    ∃ g', Rel g' w (us ++ Array.replicate n Go.undef) (args.zipIdx.map fun (v, i) => (i, v)) hp ∧ X base d g w hp g' w hp := by
  obtain ⟨k, hV, hk⟩ := hA
  have hget : ∀ t, get (args.zipIdx.map fun (v, i) => (i, v)) t = (args[t]?).getD .undef := fun t => by rw [get_args]; simp
  let args0 := args.set k .undef
  have hget0 : ∀ t, get (args0.zipIdx.map fun (v, i) => (i, v)) t = (args0[t]?).getD .undef := fun t => by rw [get_args]; simp
  have R0 := R.start (us := us) (args := args0) (by simpa [args0] using hs) (fun j u y h1 h2 => by
    simp only [args0] at h2
    rw [List.getElem?_set] at h2
    split at h2
    · split at h2
      · cases h2; exact .undef _
      · cases h2
    · rename_i hne; exact hV j u y (Ne.symm hne) h1 h2) n
  by_cases hlt : k < args.length
  · have hu : us[k]? = some us[k] := Array.getElem?_eq_getElem (by omega)
    have ha : args[k]? = some args[k] := List.getElem?_eq_getElem hlt
    have hres := hk _ _ hu ha
    obtain ⟨g', R', X'⟩ := R0.land (base := base) (dd := d) (d := k) (by simp; omega) hres
    refine ⟨g', ?_, X'⟩
    have htm : (us ++ Array.replicate n Go.undef).setIfInBounds k us[k] = us ++ Array.replicate n Go.undef := by
      apply Array.ext
      · simp
      · intro i h1 h2
        rw [Array.getElem_setIfInBounds]
        · split
          · rename_i e; subst e
            rw [Array.getElem_append_left (by omega)]
          · rfl
    rw [htm] at R'
    refine R'.congr fun t => ?_
    rw [hget]
    by_cases h : k = t
    · subst h
      rw [get_setFr_same, ha, Option.getD_some]
      have key : ∀ {v : Value} {y : PV}, ResV g w hp.length v y → (Kill.slot k).on y = y := fun {v y} hr => by
        cases hr with
        | of h => cases h <;> rfl
        | _ => rfl
      exact (key hres).symm
    · rw [R0.get_setFr _ h, hget0]
      have e : args0[t]? = args[t]? := by simp only [args0]; rw [List.getElem?_set, if_neg h]
      rw [e]
      cases ht : args[t]? with
      | none => rfl
      | some y =>
        have hyu : t < us.size := by rw [hs]; exact lt_of_some ht
        have := hV t us[t] y (Ne.symm h) (Array.getElem?_eq_getElem hyu) ht
        rcases on_cases (.slot k) y with h1 | ⟨_, r, pre, h1, h2⟩
        · exact h1.symm
        · simp [Kill.hits] at h2; subst h2; exact (this.refOf k pre h1).elim
  · refine ⟨g, ?_, X.refl _ _ _ _ _⟩
    have : args0 = args := by simp only [args0]; rw [List.set_eq_of_length_le (by omega)]
    rw [this] at R0
    exact R0

theorem evalCall_sound (Tb : Tabs P) (H : FuncId → Hint) (W : WF P H) (hprim : PrimSound P H) : ∀ n, CallSound P (evalCall P H n)
  | 0 => fun f args hp r hp' d h => by cases h
  | n + 1 => fun f args hp r hp' d h g w us R hpin hs hA => by
    have ih := evalCall_sound Tb H W hprim n
    unfold evalCall at h
    split at h
    · rename_i k hk
      exact hprim.prim f k hk f args hp r hp' d (by simpa using h) g w us R hpin hs hA
    · split at h
      · cases h
      · rename_i fn hfn
        split at h
        · rename_i body hbody
          split at h
          · cases h
          · rename_i hle
            have hcf : (callFunc f us).run P w = .ok (.enter f us) w := by
              have hnm := W.name f fn hfn
              simp [callFunc, hfn, hnm, hbody, run_program]
            refine ⟨hcf, calls_of_wp hfn hbody ?_⟩
            let st0 : St := { fr := args.zipIdx.map (fun (v, i) => (i, v)), hp := hp, base := hp.length, dirty := false }
            obtain ⟨g0, R0, X0⟩ := R.startArgs (base := hp.length) (d := false) hs hA (fn.ntmps - us.size)
            have fin : ∀ (e : Ex) (st1 : St), (e = .normal ∨ e = .ret) → evalCode P (H f) (fun f => (H f).own) (evalCall P H n) n body none st0 = some (e, st1) →
                (match takeRs P st1 fn.results.toList with | some (st, v) => some (v, st.hp, st.dirty) | none => none) = some (r, hp', d) →
                body.wp P (bodyPost P fn fun e w' => ∃ v g', e = .returned v ∧ Rel g' w' #[] [] hp' ∧ X hp.length d g w hp g' w' hp' ∧ ResV g' w' hp'.length v r) { tmps := us ++ Array.replicate (fn.ntmps - us.size) Go.undef, defers := [] } w := by
              intro e st1 he h1 h2
              refine evalCode_sound Tb ⟨ih, hprim.sort, hprim.ext, hprim.bld⟩ (drawOK Tb W.mixed ⟨ih, hprim.sort, hprim.ext, hprim.bld⟩ fn.ntmps) n body (st := st0) (W.code f fn body hfn hbody) (by simp; omega) R0 ⟨Nat.le_refl _, hpin.mono X0⟩ h1 fun a' w' ⟨⟨g1, R1, S1⟩, hsz, hdf⟩ => ?_
              split at h2
              · rename_i st2 v ht
                cases h2
                obtain ⟨hall, g2, R2, S2, hres⟩ := takeRs_sound Tb R1 ht
                have S := S1.trans S2
                have hpost : a'.defers = [] ∧ ∃ v, (results fn a'.tmps).run P w' = .ok v w' ∧ ∃ v' g', Ending.returned v = .returned v' ∧ Rel g' w' #[] [] st2.hp ∧ X hp.length st2.dirty g w hp g' w' st2.hp ∧ ResV g' w' st2.hp.length v' r := by
                  refine ⟨hdf, _, results_run hall, _, g2, rfl, R2.finish, ?_, hres⟩
                  exact (X0.trans S.x).weaken (by simp)
                rcases he with rfl | rfl <;> exact hpost
              · cases h2
            split at h
            · rename_i st1 h1; exact fin _ st1 (.inl rfl) h1 h
            · rename_i st1 h1; exact fin _ st1 (.inr rfl) h1 h
            · cases h
        · cases h
end
end Go.PS
end

section
namespace Go.PS
open Go
/-- Where the first answers, the second answers the same. -/
def Le {α : Type} (x y : Option α) : Prop := ∀ i, x = some i → y = some i
theorem Le.rfl' {α : Type} (x : Option α) : Le x x := fun _ h => h
theorem Le.bind {α β : Type} {x y : Option α} {f g : α → Option β} (h : Le x y) (h' : ∀ a, Le (f a) (g a)) : Le (x >>= f) (y >>= g) := by
  intro i hi
  simp only [Bind.bind, Option.bind_eq_some_iff] at hi ⊢
  obtain ⟨a, ha, hi⟩ := hi
  exact ⟨a, h a ha, h' a i hi⟩
theorem Le.map {α β : Type} {x y : Option α} {f : α → β} (h : Le x y) : Le (x.map f) (y.map f) := by
  intro i hi
  simp only [Option.map_eq_some_iff] at hi ⊢
  obtain ⟨a, ha, hi⟩ := hi
  exact ⟨a, h a ha, hi⟩
theorem Le.mapM {α β : Type} {f g : α → Option β} (h : ∀ a, Le (f a) (g a)) : ∀ l : List α, Le (l.mapM f) (l.mapM g)
  | [] => Le.rfl' _
  | a :: l => by
    rw [List.mapM_cons, List.mapM_cons]
    exact Le.bind (h a) fun b => Le.bind (Le.mapM h l) fun _ => Le.rfl' _
theorem Le.forIn {α β : Type} {f g : α → β → Option (ForInStep β)} (h : ∀ a b, Le (f a b) (g a b)) : ∀ (l : List α) (b : β), Le (forIn l b f) (forIn l b g)
  | [], _ => Le.rfl' _
  | a :: l, b => by
    rw [List.forIn_cons, List.forIn_cons]
    exact Le.bind (h a b) fun r => by
      cases r with
      | done b => exact Le.rfl' _
      | yield b => exact Le.forIn h l b
theorem Le.forInA {α β : Type} {f g : α → β → Option (ForInStep β)} (h : ∀ a b, Le (f a b) (g a b)) (l : Array α) (b : β) : Le (ForIn.forIn l b f) (ForIn.forIn l b g) := by
  rw [← Array.forIn_toList, ← Array.forIn_toList]; exact Le.forIn h _ _
section
variable {info info' : TypeId → Option TypeInfo} (h : ∀ t, Le (info t) (info' t))
include h
theorem reckonStruct_mono (fs : Array Field) : Le (Made.reckonStruct info fs) (Made.reckonStruct info' fs) := by
  unfold Made.reckonStruct
  refine Le.bind (Le.forInA (fun f b => ?_) _ _) fun _ => Le.rfl' _
  repeat' (first | exact Le.rfl' _ | exact h _ | (refine Le.bind ?_ fun _ => ?_) | split)
theorem funcStr_mono (ps : Array TypeId) (rs : Array TypeId) (v : Bool) : Le (Made.funcStr info ps rs v) (Made.funcStr info' ps rs v) := by
  unfold Made.funcStr
  repeat' (first | exact Le.rfl' _ | exact h _ | exact Le.map (h _) | (refine Le.mapM (fun _ => ?_) _) | (refine Le.bind ?_ fun _ => ?_) | split)
theorem reckon_mono (d : TypeDesc) : Le (Made.reckon info d) (Made.reckon info' d) := by
  unfold Made.reckon
  cases d <;> simp only
  all_goals first | exact reckonStruct_mono h _ | (repeat' (first | exact Le.rfl' _ | exact h _ | exact funcStr_mono h _ _ _ | exact Le.map (h _) | (refine Le.bind ?_ fun _ => ?_) | split)) | skip
end
theorem infoAt_mono (T : Tables) : ∀ n t, Le (Made.infoAt T n t) (Made.infoAt T (n + 1) t)
  | 0, t => fun i hi => by unfold Made.infoAt at hi; cases hi
  | n + 1, t => by
    unfold Made.infoAt
    split
    · exact Le.rfl' _
    · cases Made.decode (t - T.types.size) with
      | none => exact Le.rfl' _
      | some d => exact reckon_mono (infoAt_mono T n) d
theorem infoAt_succ {T : Tables} {n t : Nat} {i : TypeInfo} (h : Made.infoAt T n t = some i) : Made.infoAt T (n + 1) t = some i :=
  infoAt_mono T n t i h
theorem info_of99 {P : Program} {t : TypeId} {i : TypeInfo} (h : Made.infoAt P.toTables 99 t = some i) : P.info? t = some i := by
  unfold Tables.info?
  split
  · rename_i ht; unfold Made.infoAt at h; rwa [if_pos ht] at h
  · exact infoAt_succ h

theorem forIn_inv {α β : Type} {f : α → β → Option (ForInStep β)} {I : β → Prop} (hstep : ∀ a b r, f a b = some r → I b → I r.value) : ∀ (l : List α) (b r : β), forIn l b f = some r → I b → I r
  | [], b, r, h, hb => by simp at h; cases h; exact hb
  | a :: l, b, r, h, hb => by
    rw [List.forIn_cons] at h
    simp only [bind, Option.bind_eq_some_iff] at h
    obtain ⟨x, hx, h⟩ := h
    have hI := hstep a b x hx hb
    cases x with
    | done x => simp at h; cases h; exact hI
    | yield x => exact forIn_inv hstep l x r h hI

theorem push_inv {info : TypeId → Option TypeInfo} {o : Array Field} {f g : Field} {i : TypeInfo} (hi : info f.type = some i) (ht : g.type = f.type) (h : ∀ f ∈ o, ∃ j, info f.type = some j) : ∀ f ∈ o.push g, ∃ j, info f.type = some j := by
  intro x hx
  rcases Array.mem_push.1 hx with hx | hx
  · exact h x hx
  · subst hx; exact ⟨i, ht ▸ hi⟩

theorem reckonStruct_desc {info : TypeId → Option TypeInfo} {fs : Array Field} {i : TypeInfo} (h : Made.reckonStruct info fs = some i) : ∃ out : Array Field, i.desc = .struct out ∧ ∀ f ∈ out, ∃ j, info f.type = some j := by
  unfold Made.reckonStruct at h
  simp only [bind, Option.bind_eq_some_iff, pure] at h
  obtain ⟨a, ha, h⟩ := h
  have : ∀ f ∈ a.1, ∃ j, info f.type = some j := by
    rw [← Array.forIn_toList] at ha
    refine forIn_inv (I := fun s => ∀ f ∈ s.1, ∃ j, info f.type = some j) ?_ _ _ _ ha (by simp)
    intro f b r hr hb
    simp only [Option.bind_eq_some_iff] at hr
    obtain ⟨i, hi, hr⟩ := hr
    repeat' split at hr
    all_goals simp only [Option.bind_eq_some_iff, Option.bind_some, Option.some.injEq, reduceCtorEq, false_and, exists_false] at hr
    all_goals try (obtain ⟨_, _, hr⟩ := hr)
    all_goals try subst hr
    all_goals first | exact push_inv hi rfl hb | skip
    all_goals (split at hr <;> (cases hr; exact push_inv hi rfl hb))
  split at h <;> (cases h; exact ⟨_, rfl, this⟩)

theorem reckon_info {info : TypeId → Option TypeInfo} {d : TypeDesc} {i : TypeInfo} (h : Made.reckon info d = some i) :
    (∀ e, i.desc = .slice e → ∃ j, info e = some j) ∧ (∀ n e, i.desc = .array n e → ∃ j, info e = some j ∧ i.size = n * j.size) ∧ (∀ fs, i.desc = .struct fs → ∀ f ∈ fs, ∃ j, info f.type = some j) := by
  unfold Made.reckon at h
  split at h
  all_goals try simp only [bind, Option.bind_eq_some_iff, pure] at h
  case h_7 =>
    obtain ⟨out, h1, h2⟩ := reckonStruct_desc h
    refine ⟨fun e he => ?_, fun n e he => ?_, fun fs hf => ?_⟩
    · rw [h1] at he; cases he
    · rw [h1] at he; cases he
    · rw [h1] at hf; cases hf; exact h2
  all_goals repeat' first
    | (obtain ⟨_, _, h⟩ := h)
    | (split at h)
  all_goals try simp only [Option.bind_eq_some_iff] at h
  all_goals try (obtain ⟨_, _, h⟩ := h)
  all_goals try cases h
  all_goals refine ⟨fun e he => ?_, fun n e he => ?_, fun fs hf => ?_⟩
  all_goals try (cases he; done)
  all_goals try (cases hf; done)
  all_goals (cases he; first | exact ⟨_, by assumption⟩ | exact ⟨_, by assumption, rfl⟩)

def tabT (P : Program) (T : TypeId) : Bool :=
  (P.underlying T).isSome &&
  match P.underlying T with
  | some (.slice e) => (P.info? e).isSome
  | some (.array n e) => (match P.info? e, P.info? T with | some i, some j => decide (j.size = n * i.size) | _, _ => false)
  | some (.struct fs) => fs.toList.all fun f => (P.info? f.type).isSome
  | _ => true

theorem under_of_info {P : Program} (h : (List.range P.types.size).all (tabT P) = true) {T : TypeId} {i : TypeInfo} (hi : P.info? T = some i) : ∃ d, P.underlying T = some d := by
  by_cases ht : T < P.types.size
  · have := List.all_eq_true.1 h T (List.mem_range.2 ht)
    simp only [tabT, Bool.and_eq_true, Option.isSome_iff_exists] at this
    exact this.1
  · have hb := Tables.info?_beyond ht hi
    unfold Program.underlying
    split
    · rename_i h'; rw [h'] at hi; cases hi; cases hb
    · exact ⟨_, rfl⟩
    · rename_i h'; rw [h'] at hi; cases hi

theorem beyond {P : Program} {T : TypeId} {d : TypeDesc} (ht : ¬ T < P.types.size) (h : P.underlying T = some d) :
    ∃ i, P.info? T = some i ∧ i.desc = d ∧ (∀ e, i.desc = .slice e → ∃ j, P.info? e = some j) ∧ (∀ n e, i.desc = .array n e → ∃ j, P.info? e = some j ∧ i.size = n * j.size) ∧ (∀ fs, i.desc = .struct fs → ∀ f ∈ fs, ∃ j, P.info? f.type = some j) := by
  obtain ⟨i, hi⟩ := info_of_underlying h
  have hb := Tables.info?_beyond ht hi
  have hd : i.desc = d := by
    unfold Program.underlying at h
    rw [hi] at h
    split at h
    · rename_i h'; cases h'; cases hb
    · rename_i h'; cases h'; cases h; rfl
    · rename_i h'; cases h'
  refine ⟨i, hi, hd, ?_⟩
  unfold Tables.info? at hi
  rw [if_neg ht] at hi
  unfold Made.depth at hi
  unfold Made.infoAt at hi
  rw [if_neg ht] at hi
  simp only [Option.bind_eq_some_iff] at hi
  obtain ⟨d', _, hr⟩ := hi
  obtain ⟨h1, h2, h3⟩ := reckon_info hr
  exact ⟨fun e he => (h1 e he).imp fun _ h => info_of99 h, fun n e he => (h2 n e he).imp fun _ h => ⟨info_of99 h.1, h.2⟩, fun fs hf f hm => (h3 fs hf f hm).imp fun _ h => info_of99 h⟩

theorem tabs_of {P : Program} (h : (List.range P.types.size).all (tabT P) = true) : Tabs P := by
  have hT : ∀ T, T < P.types.size → tabT P T = true := fun T hd => List.all_eq_true.1 h T (List.mem_range.2 hd)
  have hs : ∀ T e, P.underlying T = some (.slice e) → ∃ i, P.info? e = some i := fun T e hu => by
    by_cases ht : T < P.types.size
    · have := hT T ht; simp only [tabT, hu, Bool.and_eq_true, Option.isSome_iff_exists] at this; exact this.2
    · obtain ⟨i, _, hd, h1, _⟩ := beyond ht hu; exact h1 e hd
  have ha : ∀ T n e, P.underlying T = some (.array n e) → ∃ i j, P.info? e = some i ∧ P.info? T = some j ∧ j.size = n * i.size := fun T n e hu => by
    by_cases ht : T < P.types.size
    · have := hT T ht; simp only [tabT, hu, Bool.and_eq_true] at this
      have := this.2
      split at this
      · rename_i i j h1 h2; exact ⟨i, j, h1, h2, by simpa using this⟩
      · cases this
    · obtain ⟨i, hi, hd, _, h2, _⟩ := beyond ht hu; obtain ⟨j, hj, hz⟩ := h2 n e hd; exact ⟨j, i, hj, hi, hz⟩
  have hf : ∀ T fs f, P.underlying T = some (.struct fs) → f ∈ fs → ∃ i, P.info? f.type = some i := fun T fs f hu hm => by
    by_cases ht : T < P.types.size
    · have := hT T ht; simp only [tabT, hu, List.all_eq_true, Bool.and_eq_true, Option.isSome_iff_exists] at this; exact this.2 f (by simpa using hm)
    · obtain ⟨i, _, hd, _, _, h3⟩ := beyond ht hu; exact h3 fs hd f hm
  exact ⟨hs, ha, hf, fun T e hu => (hs T e hu).elim fun _ h' => under_of_info h h', fun T n e hu => (ha T n e hu).elim fun _ h' => h'.elim fun _ h' => under_of_info h h'.1, fun T fs f hu hm => (hf T fs f hu hm).elim fun _ h' => under_of_info h h'⟩

def wfF (P : Program) (H : FuncId → Hint) (f : Nat) : Bool :=
  match P.funcs[f]? with
  | some fn => decide (fn.name ≠ "runtime.NumGoroutine") && (match fn.body with | some b => wfCode (H f) fn.ntmps b | none => true)
  | none => true

theorem wf_of {P : Program} {H : FuncId → Hint} (h : ∀ f, f < P.funcs.size → wfF P H f = true) (hm : P.follows .mixedOrders = true) : WF P H := by
  have hF : ∀ f fn, P.funcs[f]? = some fn → wfF P H f = true := fun f fn hd => h f (Array.getElem?_eq_some_iff.1 hd).1
  refine ⟨?_, ?_, hm⟩
  · intro f fn hf; have := hF f fn hf; simp only [wfF, hf, Bool.and_eq_true, decide_eq_true_eq] at this; exact this.1
  · intro f fn body hf hb; have := hF f fn hf; simp only [wfF, hf, hb, Bool.and_eq_true, decide_eq_true_eq] at this; exact this.2
end Go.PS
end

section
/-
  From the evaluator to a row's walk.
-/
namespace Go.PS
open Go Go.RowKit Go.ChangeShapes Go.WideShapes

/-- Of what lies there nothing turns. -/
def Kept (W w' : World) : Prop := W.keptBut w' (fun _ => False) ∧ ∀ a : Addr, a.block < W.heap.size → w'.frozen? a = W.frozen? a

theorem post_of_kept {E : Type} {enc : TypeId × Value → E} {P : Program} {f : Func} {s : ChangeSpec} {apart fresh handsOn again : Bool} {W W' : World} {args : Array Value} {v : Value} {ds gs : List (DataW E)} {before pa pv : List MemPlace}
    (hW : DataW.Whole enc P f.params.toList s.vars apart W args.toList ds gs before)
    (hres : ∀ (b : Nat) (sp : Nat → Bool) (hd : Bool), DataW.TrodAll enc P W' b sp hd f.resultTypes.toList (v.resultList f.resultTypes.size) (s.fn E (ds ++ gs)).results [])
    (hargs : ∀ sp : Nat → Bool, (∀ p ∈ before, sp p.block = true) → DataW.TrodAll enc P W' 0 sp true f.params.toList args.toList (s.fn E (ds ++ gs)).args pa)
    (hvars : ∀ sp : Nat → Bool, (∀ p ∈ before, sp p.block = true) → DataW.TrodVars enc P W' sp s.vars (s.fn E (ds ++ gs)).vars pv)
    (hps : before = pa ++ pv) (hk : Kept W W')
    (hok : ∀ (j : Nat) (t : TypeId) (r : Value), f.resultTypes[j]? = some t → (v.resultList f.resultTypes.size)[j]? = some r → Value.okWide P W' .any 0 t r) :
    s.post enc P f apart fresh handsOn again W args v W' := by
  have hold : ∀ p ∈ before, (fun b => decide (b < W.heap.size)) p.block = true := fun p hp => by simpa using hW.lt p hp
  have hlt : ∀ p ∈ before, p.block < W.heap.size := fun p hp => hW.lt p hp
  refine ⟨ds, gs, before, [], pa, pv, hW, hres _ _ _, hargs _ hold, hvars _ hold, World.keptBut_mono (fun p hp => ⟨hp, ?_⟩) (World.keptBut_mono (fun _ f => f.elim) hk.1), fun _ => ?_⟩
  · rw [hps, List.mem_append] at hp
    exact Or.inr hp
  · obtain ⟨_, _, _, _, _, hz, hn⟩ := hW
    refine ⟨hok, _, _, ([] ++ pa) ++ pv, ⟨[] ++ pa, pv, trodAll_append (hargs _ (fun _ _ => rfl)) (hres _ _ _), hvars _ (fun _ _ => rfl), rfl, ?_, ?_⟩, ?_⟩
    · intro b off hp
      have hp' : MemPlace.cell b off ∈ before := by rw [hps]; simpa using hp
      rw [hk.2 _ (hlt _ hp')]
      exact hz b off hp'
    · intro ha
      have := hn ha
      rw [hps] at this
      simpa using this
    · intro p hp _
      rw [hps]
      simpa using hp

variable {P : Program} {H : FuncId → Hint}

/-- At the start: whatever lies there is another's, and lasts. -/
def g0 (w : World) : G := { loc := fun _ _ => (0, 0), own := fun b => if b < w.heap.size then some .frg else none, imm := fun b o => (w.cell? ⟨b, o, none⟩).isSome = true, cap := fun _ => 0 }

theorem rel0 (w : World) : Rel (g0 w) w #[] [] [] := by
  refine ⟨fun t => .of (.undef _), fun i cs h => (by simp at h), fun i ks vs h => (by simp at h), fun b o h => h, fun b k h => ?_, fun t t' pre h => (by cases h), fun t h => (h rfl).elim, fun i s n p h => (by simp at h), fun i T e bs h => (by simp at h)⟩
  simp only [g0] at h
  split at h
  · assumption
  · cases h

end Go.PS
end

section
/-
  Equations for the evaluator, as a set of rules.
-/
namespace Go.PS
variable {P : Program} {H : Hint} {own : FuncId → Option Nat} {callF : CallF} {n : Nat}
def loopBody (P : Program) (H : Hint) (own : FuncId → Option Nat) (callF : CallF) (n : Nat) (b : Code) (st : St) : Option (Ex × St) :=
  evalCode P H own callF n b none (canon (H.head (firstReg b)) st)
theorem ev_seq (a b : Code) (st : St) : evalCode P H own callF n (.seq a b) none st = (match evalCode P H own callF n a none st with
    | some (.normal, st) => evalCode P H own callF n b none st
    | r => r) := by rw [evalCode]; rfl
theorem ev_skip (st : St) : evalCode P H own callF n .skip none st = some (.normal, st) := by rw [evalCode]
theorem ev_ret (st : St) : evalCode P H own callF n .ret none st = some (.ret, st) := by rw [evalCode]
theorem ev_exit (id : Nat) (st : St) : evalCode P H own callF n (.exit id) none st = some (.exit id, st) := by rw [evalCode]
theorem ev_goto (l : Nat) (st : St) : evalCode P H own callF n (.goto l) none st = some (.goto l, st) := by rw [evalCode]
theorem ev_draw (id : Nat) (ops : Array Oper) (st : St) : evalCode P H own callF n (.region id ops true) none st = (match evalDraw P H own callF id ops st with
    | some st => some (.normal, canon (H.keep id) (softAll (H.soft id) st))
    | none => none) := by rw [evalCode]; rfl
theorem ev_cond (c : Operand) (a b : Code) (st : St) : evalCode P H own callF n (.cond c a b) none st = (match opv st.fr c with
    | .bool true => evalCode P H own callF n a none st
    | .bool false => evalCode P H own callF n b none st
    | _ => none) := by rw [evalCode]; rfl
theorem ev_block (id : Nat) (b : Code) (st : St) : evalCode P H own callF n (.block id b) none st = (match evalCode P H own callF n b none st with
    | some (.exit id', st) => if id' = id then some (.normal, st) else some (.exit id', st)
    | r => r) := by rw [evalCode]; rfl
theorem ev_loop (b : Code) (st : St) : evalCode P H own callF n (.loop b) none st = iter (loopBody P H own callF n b) n st := by rw [evalCode]; rfl

/-- A loop whose states are told one by one. -/
theorem iter_count {body : St → Option (Ex × St)} (s : Nat → St) (out : Ex × St) : ∀ (N fuel : Nat) (st : St), st = s 0 → N < fuel → (∀ k, k < N → body (s k) = some (.normal, s (k + 1))) → body (s N) = some out → (out.1 = .normal → False) → iter body fuel st = some out
  | _, 0, _, _, h, _, _, _ => by omega
  | 0, fuel + 1, st, h0, _, _, he, hn => by
    subst h0
    simp only [iter, he]
    split
    · rename_i h; cases h; exact (hn rfl).elim
    · rfl
  | N + 1, fuel + 1, st, h0, hf, hs, he, hn => by
    subst h0
    simp only [iter, hs 0 (by omega)]
    exact iter_count (fun k => s (k + 1)) out N fuel _ rfl (by omega) (fun k hk => hs (k + 1) (by omega)) he hn
theorem wrap_id {x : Int} (h : -9223372036854775808 ≤ x ∧ x ≤ 9223372036854775807) : IntKind.i64.wrap x = x := by
  simp [IntKind.wrap, IntKind.signed, IntKind.bits]; omega
end Go.PS
end

section
/-
  The arguments read again behind the call as they did, whatever their types.
-/
namespace Go.PS
open Go Go.RowKit Go.ChangeShapes Go.WideShapes

/-- Every old block is as it was. -/
structure Old (W w' : World) : Prop where
  os : w'.os = W.os
  out : w'.output = W.output
  heap : ∀ b, b < W.heap.size → w'.heap[b]? = W.heap[b]?

theorem Old.kept {W w' : World} (h : Old W w') : Kept W w' :=
  ⟨⟨h.os, h.out, fun i hi => by
    rw [h.heap i hi]
    cases hx : W.heap[i]? with
    | none => rfl
    | some o => cases o <;> simp⟩, fun a ha => by simp only [World.frozen?, h.heap a.block ha]⟩

theorem Old.same {W w' : World} (h : Old W w') {p : MemPlace} (hp : p.block < W.heap.size) : W.sameAt w' p := by
  cases p with
  | cell b off => simp only [World.sameAt, World.cell?, h.heap b hp]
  | map b => exact h.heap b hp

section
variable {E : Type} {enc : TypeId × Value → E} {P : Program} {H : FuncId → Hint}

theorem law_old (Tb : Tabs P) (W : WF P H) (hprim : PrimSound P H) {n : Nat} {f : FuncId} {args : List PV} {hp' : Heap} {d : Bool}
    (h : evalCall P H n f args [] = some (.bool true, hp', d)) {us : Array Value} {w : World} (hpin : Pin P (g0 w) w) (hs : us.size = args.length)
    (hV : ∀ (j : Nat) (u : Value) (y : PV), us[j]? = some u → args[j]? = some y → V (g0 w) w 0 u y) :
    Calls P f us w fun e w' => e = .returned (.bool true) ∧ Old w w' := by
  obtain ⟨_, hc⟩ := evalCall_sound Tb H W hprim n f args [] _ hp' d h (g0 w) w us (rel0 w) hpin hs ⟨0, fun j u y _ h1 h2 => hV j u y h1 h2, fun u y h1 h2 => .of (hV 0 u y h1 h2)⟩
  refine hc.mono fun e w' ⟨v, g', he, _, x, hr⟩ => ?_
  have hv : v = .bool true := by
    cases hr with
    | of h => cases h; rfl
  subst hv
  exact ⟨he, x.os, x.out, fun b hb => (x.far b (.inl (by simp [g0, hb]))).heap⟩

theorem carry_all {w w' : World} {sp : Nat → Bool} {held : Bool} : ∀ {ts : List TypeId} {vs : List Value} {ds : List (DataW E)} {ps : List MemPlace},
    DataW.TrodAll enc P w 0 sp held ts vs ds ps → (∀ p ∈ ps, w.sameAt w' p) → DataW.TrodAll enc P w' 0 sp held ts vs ds ps
  | [], [], [], _, h, _ => h
  | _ :: _, _ :: _, _ :: _, _, ⟨p, q, ⟨n, h1⟩, h2, e⟩, hs =>
    ⟨p, q, ⟨n, DataW.trod_carry n _ _ _ h1 fun x hx => hs x (by rw [e]; exact List.mem_append_left _ hx)⟩, carry_all h2 (fun x hx => hs x (by rw [e]; exact List.mem_append_right _ hx)), e⟩

theorem args_again (hl : laidOutB P = true) (hm : mapsRowed P = true) (hz : ((List.range P.types.size).all fun t => match P.underlying t with | some (.slice e) => decide (0 < P.cellsOf e) | _ => true) = true)
    {W W' : World} (ho : Old W W') {ts : List TypeId} {vs : List Value} {ds : List (DataW E)} {ps : List MemPlace} (hts : ∀ t ∈ ts, t < P.types.size)
    (h : DataW.TrodAll enc P W 0 (fun _ => true) true ts vs ds ps) (sp : Nat → Bool) (hs : ∀ p ∈ ps, sp p.block = true) : DataW.TrodAll enc P W' 0 sp true ts vs ds ps :=
  carry_all (DataW.TrodAll.respare (kids_rows hl hm) (slices_full_of P hz) hts h hs) fun p hp => ho.same (h.lt p hp)
end
end Go.PS
end

section
/-
  Arguments of data: what trod reads, as the evaluator's values.
-/
namespace Go.PS
open Go Go.RowKit Go.ChangeShapes Go.WideShapes

/-- The evaluator's cells of a value of a type of data. -/
inductive Ty (P : Program) : TypeId → List PV → Prop where
  | int {T k n} (h : P.underlying T = some (.int k)) (hw : (Lit.int k n).wf = true) : Ty P T [.int k n]
  | bool {T b} (h : P.underlying T = some .bool) : Ty P T [.bool b]
  | str {T s} (h : P.underlying T = some .string) (hs : s.length ≤ maxLen) : Ty P T [.str s]
  | slice {T e} {rows : List (List PV)} (h : P.underlying T = some (.slice e)) (hn : rows.length ≤ maxLen) (hr : ∀ r ∈ rows, Ty P e r) : Ty P T [.sl .sh rows.length rows.flatten]
  | struct {T fs} {parts : List (List PV)} (h : P.underlying T = some (.struct fs)) (hl : parts.length = fs.size) (hp : ∀ (i : Nat) (f : Field) (p : List PV), fs[i]? = some f → parts[i]? = some p → Ty P f.type p) : Ty P T parts.flatten

/-- A type of data. -/
def dataT (P : Program) : Nat → TypeId → Bool
  | 0, _ => false
  | d + 1, t => decide (t < P.types.size) && match P.underlying t with
    | some (.int _) | some .bool | some .string => true
    | some (.slice e) => dataT P d e
    | some (.struct fs) => fs.toList.all fun f => dataT P d f.type
    | _ => false

def Vs (w : World) (cs : List Value) (ys : List PV) : Prop := ys.length = cs.length ∧ ∀ (j : Nat) (v : Value) (y : PV), cs[j]? = some v → ys[j]? = some y → V (g0 w) w 0 v y

theorem Vs.nil (w : World) : Vs w [] [] := ⟨rfl, fun j v y h => by simp at h⟩
theorem Vs.one {w : World} {v : Value} {y : PV} (h : V (g0 w) w 0 v y) : Vs w [v] [y] := ⟨rfl, fun j v' y' h1 h2 => by
  cases j with
  | zero => cases h1; cases h2; exact h
  | succ j => simp at h1⟩
theorem Vs.append {w : World} {cs cs' : List Value} {ys ys' : List PV} (h : Vs w cs ys) (h' : Vs w cs' ys') : Vs w (cs ++ cs') (ys ++ ys') := by
  refine ⟨by simp [h.1, h'.1], fun j v y h1 h2 => ?_⟩
  by_cases hj : j < cs.length
  · rw [List.getElem?_append_left hj] at h1
    rw [List.getElem?_append_left (by rw [h.1]; exact hj)] at h2
    exact h.2 j v y h1 h2
  · rw [List.getElem?_append_right (by omega)] at h1
    rw [List.getElem?_append_right (by rw [h.1]; omega), h.1] at h2
    exact h'.2 _ v y h1 h2

/-- A struct's parts, one behind the other. -/
theorem parts_of {P : Program} {w : World} {cs : List Value} : ∀ (fs : List Field) (off : Nat),
    (∀ (j : Nat) f, fs[j]? = some f → f.offset = off + ((fs.take j).map fun f => P.cellsOf f.type).sum) →
    cs.length = off + (fs.map fun f => P.cellsOf f.type).sum →
    (∀ f ∈ fs, ∃ ys, Ty P f.type ys ∧ Vs w ((cs.drop f.offset).take (P.cellsOf f.type)) ys) →
    ∃ parts : List (List PV), parts.length = fs.length ∧ (∀ (i : Nat) (f : Field) (p : List PV), fs[i]? = some f → parts[i]? = some p → Ty P f.type p) ∧ Vs w (cs.drop off) parts.flatten
  | [], off, _, hl, _ => ⟨[], rfl, fun i f p h => by simp at h, by
      have : cs.drop off = [] := by simp at hl; simp [hl]
      rw [this]; exact Vs.nil w⟩
  | f :: fs, off, ho, hl, hp => by
    have h0 : f.offset = off := by simpa using ho 0 f rfl
    obtain ⟨ys, ht, hv⟩ := hp f (by simp)
    rw [h0] at hv
    obtain ⟨parts, h1, h2, h3⟩ := parts_of (P := P) (w := w) (cs := cs) fs (off + P.cellsOf f.type) (fun j g hg => by
        have := ho (j + 1) g (by simpa using hg)
        rw [List.take_succ_cons, List.map_cons, List.sum_cons] at this
        omega) (by simp at hl; omega) (fun g hg => hp g (by simp [hg]))
    refine ⟨ys :: parts, by simp [h1], fun i g p hi hpi => ?_, ?_⟩
    · cases i with
      | zero => simp at hi hpi; subst hi; subst hpi; exact ht
      | succ i => exact h2 i g p (by simpa using hi) (by simpa using hpi)
    · have e : cs.drop off = (cs.drop off).take (P.cellsOf f.type) ++ cs.drop (off + P.cellsOf f.type) := by
        rw [← List.drop_drop, List.take_append_drop]
      rw [e]
      exact hv.append h3

section
variable {E : Type} {enc : TypeId × Value → E} {P : Program} {w : World} {sp : Nat → Bool} {held : Bool}

/-- A slice's rows, one behind the other, in memory. -/
theorem rows_of {e : TypeId} {a : Addr} (hz : 0 < P.cellsOf e) : ∀ (n : Nat),
    (∀ i, i < n → ∃ cs ys, w.cells? 0 (a.add (i * P.cellsOf e)) (P.cellsOf e) = some cs ∧ Ty P e ys ∧ Vs w cs ys) →
    ∃ rows : List (List PV), rows.length = n ∧ (∀ r ∈ rows, Ty P e r) ∧ rows.flatten.length = n * P.cellsOf e ∧
      ∀ (j : Nat) (y : PV), rows.flatten[j]? = some y → ∃ v, w.cell? (a.add j) = some v ∧ V (g0 w) w 0 v y
  | 0, _ => ⟨[], rfl, fun r h => by simp at h, by simp, fun j y h => by simp at h⟩
  | n + 1, h => by
    obtain ⟨rows, h1, h2, h3, h4⟩ := rows_of hz n fun i hi => h i (by omega)
    obtain ⟨cs, ys, hc, ht, hv⟩ := h n (by omega)
    obtain ⟨_, hl, hg⟩ := World.cells?_some hc
    refine ⟨rows ++ [ys], by simp [h1], fun r hr => ?_, ?_, fun j y hj => ?_⟩
    · rcases List.mem_append.1 hr with hr | hr
      · exact h2 r hr
      · simp at hr; subst hr; exact ht
    · simp [h3, hv.1, hl, Nat.add_mul]
    · rw [List.flatten_append] at hj
      by_cases hlt : j < n * P.cellsOf e
      · rw [List.getElem?_append_left (by rw [h3]; exact hlt)] at hj
        exact h4 j y hj
      · rw [List.getElem?_append_right (by rw [h3]; omega), h3] at hj
        simp only [List.flatten_cons, List.flatten_nil, List.append_nil] at hj
        have hb : j - n * P.cellsOf e < P.cellsOf e := by
          have := (List.getElem?_eq_some_iff.1 hj).1
          rw [hv.1, hl] at this; exact this
        have hcell := hg (j - n * P.cellsOf e) hb
        have ea : (a.add (n * P.cellsOf e)).add (j - n * P.cellsOf e) = a.add j := by
          rw [Addr.add_add]; congr 1; omega
        rw [ea] at hcell
        have hlt2 : j - n * P.cellsOf e < cs.length := by omega
        rw [List.getElem?_eq_getElem hlt2] at hcell
        exact ⟨_, hcell, hv.2 _ _ y (List.getElem?_eq_getElem hlt2) hj⟩

theorem trod_V (hl : laidOutB P = true) (hz : ∀ t e, t < P.types.size → P.underlying t = some (.slice e) → 0 < P.cellsOf e) : ∀ (d n : Nat) (t : TypeId) (cs : List Value) (x : DataW E × List MemPlace),
    dataT P d t = true → DataW.trod enc P w 0 sp held n t cs = some x → ∃ ys, Ty P t ys ∧ Vs w cs ys
  | 0, _, _, _, _, h, _ => by cases h
  | d + 1, n, t, cs, x, hd, h => by
    simp only [dataT, Bool.and_eq_true, decide_eq_true_eq] at hd
    obtain ⟨htl, hd⟩ := hd
    cases hu : P.underlying t with
    | none => rw [hu] at hd; cases hd
    | some u =>
      rw [hu] at hd
      cases u <;> simp only at hd
      all_goals try (cases hd; done)
      case bool =>
        obtain ⟨b, rfl, _⟩ := DataW.trod_bool hu h
        exact ⟨_, .bool hu, .one (.bool _)⟩
      case int k =>
        obtain ⟨m, rfl, _, hw⟩ := DataW.trod_int hu h
        exact ⟨_, .int hu hw, .one (.int _ _)⟩
      case string =>
        obtain ⟨s, rfl, _, hs⟩ := DataW.trod_string hu h
        exact ⟨_, .str hu (by simpa using hs), .one (.str _)⟩
      case slice e =>
        rcases DataW.trod_slice hu h with ⟨rfl, _⟩ | ⟨a, len, cap, elems, rest, m, _, rfl, _, _, hle, hcap, hlen, hel, _⟩
        · exact ⟨_, .slice (rows := []) hu (by simp) (by simp), .one (.sl0 _ _)⟩
        · obtain ⟨rows, h1, h2, h3, h4⟩ := rows_of (P := P) (w := w) (e := e) (a := a) (hz t e htl hu) len fun i hi => by
            have := hel i hi
            rw [List.getElem?_eq_getElem (by omega)] at this
            simp only [Option.bind_eq_some_iff] at this
            obtain ⟨c, hc, ht⟩ := this
            obtain ⟨ys, hy, hv⟩ := trod_V hl hz d m e c _ hd ht
            exact ⟨c, ys, hc, hy, hv⟩
          refine ⟨_, .slice (rows := rows) hu (by omega) h2, .one ?_⟩
          by_cases h0 : len = 0
          · have hr : rows = [] := List.length_eq_zero_iff.1 (by omega)
            subst hr; subst h0
            exact .sh0 _ _
          · have hpos : 0 < rows.flatten.length := by rw [h3]; exact Nat.mul_pos (by omega) (hz t e htl hu)
            obtain ⟨v0, hv0, _⟩ := h4 0 _ (List.getElem?_eq_getElem hpos)
            have hsp : a.spot = none := by
              have e0 : a.add 0 = a := by simp [Addr.add]
              rw [e0] at hv0
              unfold World.cell? at hv0
              split at hv0
              · split at hv0
                · cases hv0
                · rename_i hs; simpa using hs
              · cases hv0
            have ea : ∀ j, a.add j = ⟨a.block, a.off + j, none⟩ := fun j => by
              unfold Addr.add
              split
              · rename_i hj; subst hj; cases a; simp at hsp; subst hsp; rfl
              · rfl
            have e1 : a = ⟨a.block, a.off, none⟩ := by cases a; simp at hsp; subst hsp; rfl
            rw [e1, h1]
            exact .sl _ _ _ _ _ _ (fun j => (w.cell? ⟨a.block, a.off + j, none⟩).getD Go.undef) (.inl rfl) hle
              (fun j y hj => by
                obtain ⟨v, hv, _⟩ := h4 j y hj
                rw [ea] at hv
                exact ⟨by simp [g0, hv], by simp [hv]⟩)
              (fun j y hj => by
                obtain ⟨v, hv, hV⟩ := h4 j y hj
                rw [ea] at hv
                simpa [hv] using hV)
      case struct fs =>
        obtain ⟨xs, m, _, _, hlen, hxl, hxs⟩ := DataW.trod_struct hu h
        obtain ⟨k1, k2, k3⟩ := kid_struct hl htl hu
        obtain ⟨parts, p1, p2, p3⟩ := parts_of (P := P) (w := w) (cs := cs) fs.toList 0 (fun j f hf => by simpa using k3 j f hf) (by omega) fun f hf => by
          obtain ⟨i, hi, rfl⟩ := List.mem_iff_getElem.1 hf
          have := hxs i fs.toList[i] (by simp [Array.getElem?_eq_getElem (by simpa using hi)])
          rw [List.getElem?_eq_getElem (by rw [hxl]; simpa using hi)] at this
          exact trod_V hl hz d m _ _ _ (List.all_eq_true.1 hd _ hf) this
        exact ⟨_, .struct (parts := parts) hu (by simpa using p1) (fun i f p hi hp => p2 i f p (by simpa using hi) hp), by simpa using p3⟩
end
end Go.PS
end

section
/-
  A law, whatever its parameters' types of data are.
-/
namespace Go.PS
open Go Go.RowKit Go.ChangeShapes Go.WideShapes

/-- The evaluator's value of an argument. -/
def TyA (P : Program) (t : TypeId) (y : PV) : Prop := match P.underlying t with
  | some (.struct _) => ∃ cs, y = .agg cs ∧ Ty P t cs
  | _ => Ty P t [y]

section
variable {E : Type} {enc : TypeId × Value → E} {P : Program} {w : World} {sp : Nat → Bool} {held : Bool} {H : FuncId → Hint}

theorem arg_V (hl : laidOutB P = true) (hz : ∀ t e, t < P.types.size → P.underlying t = some (.slice e) → 0 < P.cellsOf e) {d : Nat} {t : TypeId} {v : Value} {x : DataW E} {ps : List MemPlace} {r : Reach} {b0 : Nat}
    (hd : dataT P d t = true) (hval : Value.okWide P w r b0 t v) (h : DataW.Trod enc P w 0 sp held t v x ps) : ∃ y, TyA P t y ∧ V (g0 w) w 0 v y := by
  obtain ⟨n, h⟩ := h
  obtain ⟨ys, ht, hv⟩ := trod_V hl hz d n t _ _ hd h
  cases d with
  | zero => cases hd
  | succ d =>
    simp only [dataT, Bool.and_eq_true, decide_eq_true_eq] at hd
    unfold TyA
    cases hu : P.underlying t with
    | none => rw [hu] at hd; cases hd.2
    | some u =>
      rw [hu] at hd
      have one : v.cells.toList = [v] → ∃ y, Ty P t [y] ∧ V (g0 w) w 0 v y := fun hc => by
        rw [hc] at hv
        have hlen := hv.1
        cases ys with
        | nil => simp at hlen
        | cons y ys =>
          have : ys = [] := by simpa using hlen
          subst this
          exact ⟨y, ht, hv.2 0 v y rfl rfl⟩
      cases u <;> simp only at hd ⊢
      all_goals try (cases hd.2; done)
      case bool => obtain ⟨b, rfl⟩ := okWide_bool hu hval; exact one rfl
      case int k => obtain ⟨b, rfl⟩ := okWide_int hu hval; exact one rfl
      case string => obtain ⟨b, rfl⟩ := okWide_string hu hval; exact one rfl
      case slice e => obtain ⟨a, l, c, rfl⟩ := okWide_slice hu hval; exact one rfl
      case struct fs =>
        obtain ⟨cs, rfl, _⟩ := okWide_struct hu hval
        exact ⟨.agg ys, ⟨ys, rfl, ht⟩, .agg _ _ (by simpa [Value.cells] using hv.1.symm) fun j u y h1 h2 => hv.2 j u y (by simpa [Value.cells] using h1) h2⟩

/-- All arguments. -/
theorem args_V (hl : laidOutB P = true) (hz : ∀ t e, t < P.types.size → P.underlying t = some (.slice e) → 0 < P.cellsOf e) {d : Nat} {r : Reach} {b0 : Nat} : ∀ {ts : List TypeId} {vs : List Value} {ds : List (DataW E)} {ps : List MemPlace},
    (∀ t ∈ ts, dataT P d t = true) → (∀ (j : Nat) t v, ts[j]? = some t → vs[j]? = some v → Value.okWide P w r b0 t v) → DataW.TrodAll enc P w 0 sp held ts vs ds ps →
    ∃ ys : List PV, ys.length = ts.length ∧ vs.length = ts.length ∧ (∀ (j : Nat) t y, ts[j]? = some t → ys[j]? = some y → TyA P t y) ∧ ∀ (j : Nat) v y, vs[j]? = some v → ys[j]? = some y → V (g0 w) w 0 v y
  | [], [], [], _, _, _, _ => ⟨[], rfl, rfl, fun j t y h => by simp at h, fun j v y h => by simp at h⟩
  | t :: ts, v :: vs, _ :: _, _, hd, hval, ⟨p, q, h1, h2, _⟩ => by
    obtain ⟨y, hy, hV⟩ := arg_V hl hz (hd t (by simp)) (hval 0 t v rfl rfl) h1
    obtain ⟨ys, l1, l2, l3, l4⟩ := args_V hl hz (fun t ht => hd t (by simp [ht])) (fun j t v ht hv => hval (j + 1) t v (by simpa using ht) (by simpa using hv)) h2
    refine ⟨y :: ys, by simp [l1], by simp [l2], fun j t y h h' => ?_, fun j v y h h' => ?_⟩
    · cases j with
      | zero => cases h; cases h'; exact hy
      | succ j => exact l3 j t y (by simpa using h) (by simpa using h')
    · cases j with
      | zero => cases h; cases h'; exact hV
      | succ j => exact l4 j v y (by simpa using h) (by simpa using h')
end
attribute [irreducible] TyA
end Go.PS
end

section
/-
  More rules: loops by a measure, wraps.
-/
namespace Go.PS

/-- A loop with an invariant and a measure. -/
theorem iter_post {body : St → Option (Ex × St)} {α β : Type} (s : α → St) (I : α → Prop) (μ : α → Nat) (o : β → Ex × St) (J : β → Prop)
    (hs : ∀ x, I x → (∃ y, body (s x) = some (.normal, s y) ∧ I y ∧ μ y < μ x) ∨ (∃ y, body (s x) = some (o y) ∧ ((o y).1 = .normal → False) ∧ J y)) :
    ∀ {fuel : Nat} {st : St} {r : Option (Ex × St)}, iter body fuel st = r → ∀ x, st = s x → I x → μ x < fuel → ∃ y, r = some (o y) ∧ J y
  | 0, _, _, _, _, _, _, h => by omega
  | fuel + 1, _, r, hr, x, h0, hi, hf => by
    subst h0
    rcases hs x hi with ⟨y, h1, h2, h3⟩ | ⟨y, h1, h2, h3⟩
    · simp only [iter, h1] at hr
      exact iter_post s I μ o J hs hr y rfl h2 (by omega)
    · refine ⟨y, ?_, h3⟩
      simp only [iter, h1] at hr
      rw [← hr]
      split
      · rename_i h
        simp only [Option.some.injEq] at h
        exact (h2 (by rw [h])).elim
      · rfl

theorem iter_elim {body : St → Option (Ex × St)} {fuel : Nat} {st : St} {r : Option (Ex × St)} (hit : iter body fuel st = r) {Q : Prop} {α β : Type} (s : α → St) (I : α → Prop) (μ : α → Nat) (o : β → Ex × St) (J : β → Prop) (x : α) (h0 : st = s x) (hi : I x) (hf : μ x < fuel)
    (hs : ∀ x, I x → (∃ y, body (s x) = some (.normal, s y) ∧ I y ∧ μ y < μ x) ∨ (∃ y, body (s x) = some (o y) ∧ ((o y).1 = .normal → False) ∧ J y))
    (k : ∀ y, r = some (o y) → J y → Q) : Q := by
  obtain ⟨y, h1, h2⟩ := iter_post s I μ o J hs hit x h0 hi hf
  exact k y h1 h2
theorem wrap_u64 (x : Int) : IntKind.u64.wrap x = x % 18446744073709551616 := by
  simp [IntKind.wrap, IntKind.signed, IntKind.bits]
theorem wrap_u8 (x : Int) : IntKind.u8.wrap x = x % 256 := by
  simp [IntKind.wrap, IntKind.signed, IntKind.bits]
def condB (v : PV) (a b : Option (Ex × St)) : Option (Ex × St) := match v with
  | .bool true => a
  | .bool false => b
  | _ => none
def blockEx (id : Nat) (x : Option (Ex × St)) : Option (Ex × St) := match x with
  | some (.exit id', st) => if id' = id then some (.normal, st) else some (.exit id', st)
  | r => r
def fin (P : Program) (rs : List ResultVar) (x : Option (Ex × St)) : Option (PV × Heap × Bool) := match x with
  | some (.normal, st) | some (.ret, st) => (match takeRs P st rs with
    | some (st, v) => some (v, st.hp, st.dirty)
    | none => none)
  | _ => none
@[congr] theorem condB_congr {x y : PV} {a b : Option (Ex × St)} (h : x = y) : condB x a b = condB y a b := by rw [h]
@[congr] theorem omap_congr {α β : Type} {x y : Option α} {f : α → β} (h : x = y) : Option.map f x = Option.map f y := by rw [h]
@[congr] theorem fin_congr {P : Program} {fn : List ResultVar} {x y : Option (Ex × St)} (h : x = y) : fin P fn x = fin P fn y := by rw [h]
@[congr] theorem blockEx_congr {id : Nat} {x y : Option (Ex × St)} (h : x = y) : blockEx id x = blockEx id y := by rw [h]
theorem cb_true (a b : Option (Ex × St)) : condB (.bool true) a b = a := rfl
theorem cb_false (a b : Option (Ex × St)) : condB (.bool false) a b = b := rfl
theorem be_exit (id i : Nat) (st : St) : blockEx id (some (.exit i, st)) = if i = id then some (.normal, st) else some (.exit i, st) := rfl
theorem be_normal (id : Nat) (st : St) : blockEx id (some (.normal, st)) = some (.normal, st) := rfl
theorem be_goto (id i : Nat) (st : St) : blockEx id (some (.goto i, st)) = some (.goto i, st) := rfl
theorem be_ret (id : Nat) (st : St) : blockEx id (some (.ret, st)) = some (.ret, st) := rfl
theorem fin_ret (P : Program) (fn : List ResultVar) (st : St) : fin P fn (some (.ret, st)) = (takeRs P st fn).map fun r => (r.2, r.1.hp, r.1.dirty) := by
  simp only [fin]; cases takeRs P st fn <;> rfl
theorem fin_normal (P : Program) (fn : List ResultVar) (st : St) : fin P fn (some (.normal, st)) = (takeRs P st fn).map fun r => (r.2, r.1.hp, r.1.dirty) := by
  simp only [fin]; cases takeRs P st fn <;> rfl
section
variable {P : Program} {H : Hint} {own : FuncId → Option Nat} {callF : CallF} {n : Nat}
def seqK (P : Program) (H : Hint) (own : FuncId → Option Nat) (callF : CallF) (n : Nat) (x : Option (Ex × St)) (b : Code) : Option (Ex × St) := match x with
  | some (.normal, st) => evalCode P H own callF n b none st
  | r => r
theorem xv_seq (a b : Code) (st : St) : evalCode P H own callF n (.seq a b) none st = seqK P H own callF n (evalCode P H own callF n a none st) b := ev_seq a b st
theorem sk_normal (b : Code) (st : St) : seqK P H own callF n (some (.normal, st)) b = evalCode P H own callF n b none st := rfl
theorem sk_exit (b : Code) (st : St) (i : Nat) : seqK P H own callF n (some (.exit i, st)) b = some (.exit i, st) := rfl
theorem sk_goto (b : Code) (st : St) (i : Nat) : seqK P H own callF n (some (.goto i, st)) b = some (.goto i, st) := rfl
theorem sk_ret (b : Code) (st : St) : seqK P H own callF n (some (.ret, st)) b = some (.ret, st) := rfl
@[congr] theorem seqK_congr {x y : Option (Ex × St)} {b : Code} (h : x = y) : seqK P H own callF n x b = seqK P H own callF n y b := by rw [h]
def opsK (P : Program) (H : Hint) (own : FuncId → Option Nat) (callF : CallF) (ops : Array Oper) (x : Option St) (rest : List Oper) : Option St := match x with
  | some st => evalOps P H own callF ops rest st
  | none => none
def regK (keep : List Nat) (soft : List (Nat × Option Nat)) (x : Option St) : Option (Ex × St) := match x with
  | some st => some (.normal, canon keep (softAll soft st))
  | none => none
theorem ok_some (ops : Array Oper) (rest : List Oper) (st : St) : opsK P H own callF ops (some st) rest = evalOps P H own callF ops rest st := rfl
theorem rk_some (keep : List Nat) (soft : List (Nat × Option Nat)) (st : St) : regK keep soft (some st) = some (.normal, canon keep (softAll soft st)) := rfl
@[congr] theorem opsK_congr {x y : Option St} {ops : Array Oper} {rest : List Oper} (h : x = y) : opsK P H own callF ops x rest = opsK P H own callF ops y rest := by rw [h]
@[congr] theorem regK_congr {x y : Option St} {keep : List Nat} {soft : List (Nat × Option Nat)} (h : x = y) : regK keep soft x = regK keep soft y := by rw [h]
theorem xo_nil (ops : Array Oper) (st : St) : evalOps P H own callF ops [] st = some st := rfl
theorem xo_cons (ops : Array Oper) (o : Oper) (rest : List Oper) (st : St) : evalOps P H own callF ops (o :: rest) st = (match wantedP ops st.fr o with
    | some true => opsK P H own callF ops (stepOp P H own callF st o) rest
    | some false => evalOps P H own callF ops rest (setSlot st o.dst (.raw (.tuple #[])))
    | none => none) := by rw [evalOps]; rfl
def regO (P : Program) (H : Hint) (own : FuncId → Option Nat) (callF : CallF) (ops : Array Oper) (st : St) : Option Nat → Option St
  | none => evalOps P H own callF ops ops.toList st
  | some k => evalOpsL P H own callF ops k ops.toList st
theorem ro_none (ops : Array Oper) (st : St) : regO P H own callF ops st none = evalOps P H own callF ops ops.toList st := rfl
theorem ro_some (ops : Array Oper) (st : St) (k : Nat) : regO P H own callF ops st (some k) = evalOpsL P H own callF ops k ops.toList st := rfl
theorem xv_region (id : Nat) (ops : Array Oper) (st : St) : evalCode P H own callF n (.region id ops false) none st = regK (H.keep id) (H.soft id) (regO P H own callF ops st (H.lazy id)) := by
  rw [evalCode]
  cases h : H.lazy id <;> rfl
theorem xv_draw (id : Nat) (ops : Array Oper) (st : St) : evalCode P H own callF n (.region id ops true) none st = regK (H.keep id) (H.soft id) (evalDraw P H own callF id ops st) := ev_draw id ops st
def drK (P : Program) (H : Hint) (own : FuncId → Option Nat) (callF : CallF) (ops : Array Oper) (free : List Nat) (i : Nat) (rest : List Oper) (cls : List (Nat × Cl)) (x : Option (St × Cl)) : Option (St × List (Nat × Cl)) := match x with
  | some (st, c) => evalD P H own callF ops free (i + 1) rest ((i, c) :: cls) st
  | none => none
def drS (P : Program) (H : Hint) (own : FuncId → Option Nat) (callF : CallF) (ops : Array Oper) (free : List Nat) (i : Nat) (rest : List Oper) (cls : List (Nat × Cl)) (x : Option St) : Option (St × List (Nat × Cl)) := match x with
  | some st => evalD P H own callF ops free (i + 1) rest cls st
  | none => none
theorem dk_some (ops : Array Oper) (free : List Nat) (i : Nat) (rest : List Oper) (cls : List (Nat × Cl)) (st : St) (c : Cl) : drK P H own callF ops free i rest cls (some (st, c)) = evalD P H own callF ops free (i + 1) rest ((i, c) :: cls) st := rfl
theorem ds_some (ops : Array Oper) (free : List Nat) (i : Nat) (rest : List Oper) (cls : List (Nat × Cl)) (st : St) : drS P H own callF ops free i rest cls (some st) = evalD P H own callF ops free (i + 1) rest cls st := rfl
@[congr] theorem drK_congr {ops : Array Oper} {free : List Nat} {i : Nat} {rest : List Oper} {cls : List (Nat × Cl)} {x y : Option (St × Cl)} (h : x = y) : drK P H own callF ops free i rest cls x = drK P H own callF ops free i rest cls y := by rw [h]
@[congr] theorem drS_congr {ops : Array Oper} {free : List Nat} {i : Nat} {rest : List Oper} {cls : List (Nat × Cl)} {x y : Option St} (h : x = y) : drS P H own callF ops free i rest cls x = drS P H own callF ops free i rest cls y := by rw [h]
theorem xd_nil (ops : Array Oper) (free : List Nat) (i : Nat) (cls : List (Nat × Cl)) (st : St) : evalD P H own callF ops free i [] cls st = some (st, cls) := rfl
theorem xd_cons (ops : Array Oper) (free : List Nat) (i : Nat) (o : Oper) (rest : List Oper) (cls : List (Nat × Cl)) (st : St) : evalD P H own callF ops free i (o :: rest) cls st =
    if free.contains i = true then drK P H own callF ops free i rest cls (gD P H own callF ops st o) else drS P H own callF ops free i rest cls (gS P H own callF ops st o) := by rw [evalD]; rfl
def chkK (pairs : List (Nat × Nat)) (x : Option (St × List (Nat × Cl))) : Option St := match x with
  | some (st, cls) => if pairs.all (fun p => !clash (clOf cls p.1) (clOf cls p.2)) then some st else none
  | none => none
theorem ck_some (pairs : List (Nat × Nat)) (st : St) (cls : List (Nat × Cl)) : chkK pairs (some (st, cls)) = if pairs.all (fun p => !clash (clOf cls p.1) (clOf cls p.2)) then some st else none := rfl
@[congr] theorem chkK_congr {pairs : List (Nat × Nat)} {x y : Option (St × List (Nat × Cl))} (h : x = y) : chkK pairs x = chkK pairs y := by rw [h]
theorem xd_draw (id : Nat) (ops : Array Oper) (st : St) : evalDraw P H own callF id ops st = chkK (H.pairs id) (evalD P H own callF ops (H.free id) 0 ops.toList [] st) := rfl
theorem xv_cond (c : Operand) (a b : Code) (st : St) : evalCode P H own callF n (.cond c a b) none st = condB (opv st.fr c) (evalCode P H own callF n a none st) (evalCode P H own callF n b none st) := ev_cond c a b st
theorem xv_block (id : Nat) (b : Code) (st : St) : evalCode P H own callF n (.block id b) none st = blockEx id (evalCode P H own callF n b none st) := ev_block id b st
end
theorem evalCall_at {P : Program} {H : FuncId → Hint} {f : FuncId} {hint : Hint} {fn : Func} {body : Code} {rs : List ResultVar} (n : Nat) (args : List PV) (hp : Heap) (h0 : H f = hint) (h1 : hint.prim = none) (h2 : P.funcs[f]? = some fn) (h3 : fn.body = some body) (h4 : args.length ≤ fn.ntmps) (h5 : fn.results.toList = rs) :
    evalCall P H (n + 1) f args hp = fin P rs (evalCode P hint (fun f => (H f).own) (evalCall P H n) n body none { fr := args.zipIdx.map (fun (v, i) => (i, v)), hp := hp, base := hp.length, dirty := false }) := by
  rw [← h5, evalCall, h0, h1, h2]
  simp only [h3]
  rw [if_neg (by omega)]
  rfl
def fstR (x : Option (PV × Heap × Bool)) : Option PV := match x with
  | some r => some r.1
  | none => none
@[congr] theorem fstR_congr {x y : Option (PV × Heap × Bool)} (h : x = y) : fstR x = fstR y := by rw [h]
theorem fstR_some (r : PV × Heap × Bool) : fstR (some r) = some r.1 := rfl
theorem of_map {x : Option (PV × Heap × Bool)} {v : PV} (h : fstR x = some v) : ∃ hp d, x = some (v, hp, d) := by
  match x, h with
  | some (a, b, c), h => simp [fstR] at h; subst h; exact ⟨b, c, rfl⟩
theorem fits_at {P : Program} {t : TypeId} {z : List PV} {B : Nat} (hz : zeroT P t = some z) (h : ((P.info? t).map fun i => (i.bytes, decide (0 < i.bytes ∧ z.length = i.size))) = some (B, true)) (m : Nat) : fits P t m = decide (m * B ≤ 140737488355328) := by
  unfold fits
  cases hi : P.info? t with
  | none => rw [hi] at h; cases h
  | some i =>
    rw [hi] at h
    simp only [Option.map_some, Option.some.injEq, Prod.mk.injEq, decide_eq_true_eq] at h
    obtain ⟨rfl, h1, h2⟩ := h
    simp [hz, h1, h2]
theorem any_at {P : Program} {t : TypeId} {B : Nat} (h : ((P.info? t).map fun i => i.bytes) = some B) (n : Int) : (P.info? t).any (fun i => decide ((i.bytes : Int) * n ≤ 140737488355328)) = decide ((B : Int) * n ≤ 140737488355328) := by
  cases hi : P.info? t with
  | none => rw [hi] at h; cases h
  | some i =>
    rw [hi] at h
    simp only [Option.map_some, Option.some.injEq] at h
    subst h
    rfl
theorem tm {a : Int} (b : Int) (h : 0 ≤ a) : a.tmod b = a % b := Int.tmod_eq_emod_of_nonneg h
theorem td {a : Int} (b : Int) (h : 0 ≤ a) : a.tdiv b = a / b := Int.tdiv_eq_ediv_of_nonneg h
theorem fd {a : Int} {b : Int} (h : 0 ≤ b) : a.fdiv b = a / b := Int.fdiv_eq_ediv_of_nonneg _ h
theorem tmod_emod {a c d : Int} (h : c ≠ 0) : (a % c).tmod d = a % c % d := tm d (Int.emod_nonneg a h)
@[simp] theorem blds_none : bldOf none = none := rfl
@[simp] theorem blds_zero : bldOf (some 0) = none := rfl
@[simp] theorem blds_e0 : bldOf (some 5000) = none := rfl
@[simp] theorem blds_e1 : bldOf (some 5001) = none := rfl
@[simp] theorem sorts_none : sortsOf none = none := rfl
@[simp] theorem exts_none : extsOf none = none := rfl
@[simp] theorem exts_zero : extsOf (some 0) = none := rfl
@[simp] theorem sorts_e0 : sortsOf (some 5000) = none := rfl
@[simp] theorem sorts_e1 : sortsOf (some 5001) = none := rfl
@[simp] theorem exts_e0 : extsOf (some 5000) = some 0 := rfl
@[simp] theorem exts_e1 : extsOf (some 5001) = some 1 := rfl
attribute [simp] extOp
@[simp] theorem sorts_zero : sortsOf (some 0) = none := rfl
attribute [simp] fstR_some loopBody firstReg IntKind.bits IntKind.signed tmod_emod
attribute [simp] dLookup dCallX dCallO lookupOp lookupV mapAt keyT mapPut
attribute [simp] seen dMoveOwn ownOp dBox ownPart dSlice1 dMake sk_normal sk_exit sk_goto sk_ret ro_none ro_some cb_true cb_false be_exit be_normal be_goto be_ret fin_ret fin_normal xv_seq xv_region xv_draw xv_cond xv_block ok_some rk_some xo_nil xo_cons dk_some ds_some xd_nil xd_cons xd_draw ck_some gD gS stepD stepD1 dA dPure dCall dLoad dStore dAssign dAlloc dBuild dSlice dAppend idle Oper.looksAt Op.operands Call.operands known rooty touch plainOp depth foot rootS refOf viewH refH okOp okArgs okV clash clOf isView isMu shares appAt ev_skip ev_ret ev_exit ev_goto ev_loop stepOp stepA wantedP PS.get opv setSlot setFr Kill.on viewSlot bin binI noOwn assign preShare canon softAll soft1 keepRef takeRs takeOut take takeV ofConst takeL cellsOf storable out retag outCell outNil outC dNest eatBox plain0
  drop killFr buildOp boxOp placeOf buildL splice_nil splice_cons lasting callOp takeArgs plain plainA plain1 conv un load nav rootPV putRoot put store killOf PV.kids PV.withKids fieldOf wrap_u64 wrap_u8 moveOut Kill.hits eqVal asInt minL maxL takeRes takeMany viewCell shr shareCells content navS lenOf indexAddr indexVal sliceOp bounds bound lowB copyTo copySrc copyOp appendGo appendOp shareAt shareRange fillP binS
end Go.PS
end

section
/-
  The evaluator's values of an argument, by its type.
-/
namespace Go.PS
open Go
variable {P : Program} {t : TypeId} {y : PV}
theorem inv_str (h : P.underlying t = some .string) (hy : TyA P t y) : ∃ s, y = .str s ∧ s.length ≤ maxLen := by
  unfold TyA at hy; rw [h] at hy
  simp only at hy
  generalize hz : [y] = z at hy
  cases hy with
  | int h' hw => rw [h] at h'; cases h'
  | bool h' => rw [h] at h'; cases h'
  | str h' hs => cases hz; exact ⟨_, rfl, hs⟩
  | slice h' _ _ => rw [h] at h'; cases h'
  | struct h' _ _ => rw [h] at h'; cases h'
end Go.PS
end

section
/-
  Scopes: a jump back to a label.
-/
namespace Go.PS
section
variable {P : Program} {H : Hint} {own : FuncId → Option Nat} {callF : CallF} {n : Nat}
theorem xs_some (a b : Code) (l : Nat) (st : St) : evalCode P H own callF n (.seq a b) (some l) st = if hasLabel l a = true then seqK P H own callF n (evalCode P H own callF n a (some l) st) b else evalCode P H own callF n b (some l) st := by
  rw [evalCode]; rfl
theorem xl_none (l : Nat) (st : St) : evalCode P H own callF n (.label l) none st = some (.normal, st) := by rw [evalCode]
theorem xl_some (l' l : Nat) (st : St) : evalCode P H own callF n (.label l') (some l) st = if l' = l then some (.normal, st) else none := by rw [evalCode]
theorem xv_scope (b : Code) (st : St) : evalCode P H own callF n (.scope b) none st = scopeIter (evalCode P H own callF n b) (fun l => hasLabel l b) H.head n none st := by rw [evalCode]
end
attribute [simp] xs_some xl_none xl_some xv_scope hasLabel
end Go.PS
end

section
/-
  Bit operations on numbers that are not below zero.
-/
namespace Go.PS
theorem ofInt_nat {a : Nat} (h : a < 9223372036854775808) : (BitVec.ofInt 64 (a : Int)).toNat = a := by
  rw [BitVec.toNat_ofInt]
  omega
theorem bi_or {A B : Int} (a b : Nat) (hA : A = a) (hB : B = b) (ha : a < 9223372036854775808) (hb : b < 9223372036854775808) : binI .or .i64 A B = some (.int .i64 ((a ||| b : Nat) : Int)) := by
  subst hA; subst hB
  show some (PV.int .i64 (IntKind.i64.wrap ((BitVec.ofInt 64 (a : Int) ||| BitVec.ofInt 64 (b : Int)).toNat : Nat))) = _
  rw [BitVec.toNat_or, ofInt_nat ha, ofInt_nat hb, wrap_id]
  have : a ||| b < 2 ^ 63 := Nat.or_lt_two_pow ha hb
  omega
theorem bi_add (k : IntKind) (a b : Int) : binI .add k a b = some (.int k (k.wrap (a + b))) := rfl
theorem bi_sub (k : IntKind) (a b : Int) : binI .sub k a b = some (.int k (k.wrap (a - b))) := rfl
theorem bi_mul (k : IntKind) (a b : Int) : binI .mul k a b = some (.int k (k.wrap (a * b))) := rfl
theorem bi_lss (k : IntKind) (a b : Int) : binI .lss k a b = some (.bool (a < b)) := rfl
end Go.PS
end

section
/-
  A function without arguments that answers a bool, run once by the evaluator at an empty heap, is known wherever it is called.
-/
namespace Go.PS
variable {P : Program} {H0 : FuncId → Hint}
/-- Where nothing is known but what the library's variables hold. -/
theorem Pin.start {P : Program} {g : G} {w : World} {tm : Array Value} {fr : Fr} {hp : Heap} (R : Rel g w tm fr hp) (h : Pin P g w) : Pin P (g0 w) w :=
  ⟨fun b hb => ⟨by simp only [g0]; rw [if_pos (R.ownLt _ _ (h.1 b hb).1)], (h.1 b hb).2⟩, fun b hb => ⟨by simp only [g0]; rw [if_pos (R.ownLt _ _ (h.2 b hb).1)], (h.2 b hb).2⟩⟩
theorem const_sound (Tb : Tabs P) (W : WF P H0) (hprim : PrimSound P H0) {n : Nat} {f : FuncId} {b : Bool} {hp1 : Heap} {d : Bool} (h : evalCall P H0 n f [] [] = some (.bool b, hp1, d)) {k : Nat} (hk : (k == 1) = b) :
    CallSound P fun f' args hp => if f' = f then primCall (2, k) args hp else none := by
  intro f' args hp r hp' d' hc g w us R hpin hs _
  by_cases hf : f' = f
  · subst hf
    simp only [if_true] at hc
    cases args with
    | cons a l => cases hc
    | nil =>
      simp only [primCall, Option.some.injEq, Prod.mk.injEq] at hc
      obtain ⟨rfl, rfl, rfl⟩ := hc
      have hu : us = #[] := Array.eq_empty_of_size_eq_zero hs
      subst hu
      obtain ⟨h1, h2⟩ := evalCall_sound Tb H0 W hprim n f' [] [] _ _ _ h (g0 w) w #[] (rel0 w) (hpin.start R) rfl ⟨0, fun j u y _ h1 h2 => by simp at h2, fun u y h1 h2 => by simp at h2⟩
      refine ⟨h1, h2.mono fun e w' ⟨v, g', he, _, x, hr⟩ => ?_⟩
      have hv : v = .bool b := by
        cases hr with
        | of h => cases h; rfl
      subst hv
      have hg : Grow w w' := ⟨x.os, x.tape, x.out, x.size, fun b hb => (x.far b (.inl (by simp [g0, hb]))).heap⟩
      exact ⟨_, g, he, R.grow hg, X.grow R hg, by rw [hk]; exact .of (.bool b)⟩
  · simp only [if_neg hf] at hc; cases hc
end Go.PS
end
