/-
  An evaluator of the model on pure values, and its soundness: what evalCall answers for a function and its arguments, the function returns in the model, and nothing older turns. Part 3.
-/
import Derived.Test.YtnccpffnffioeaaDoorPsB
import Derived.Deep.Upon
import Derived.Laws.IdiomStrings
import Derived.LoopN
import Derived.Scope

set_option linter.all false
section
/-
  Calls: the caller's places are hidden from the callee, and are as they were behind it.
-/
namespace Go.PS
section
variable {g g' g1 g2 : G} {w w' w1 w2 : World} {hn hn' : Nat} {tm : Array Value} {fr fr' : Fr} {hp hp' hp1 hp2 : Heap} {P : Program} {t : Nat}

def Key.local : Key → Bool
  | .box _ | .st (.slot _) _ => true
  | _ => false

def G.hide (g : G) : G := { g with own := fun b => match g.own b with | some k => some (if k.local then .frg else k) | none => none }

/-- The ghost behind a call. -/
def G.back (g g' : G) : G :=
  { loc := fun r pre => match r with | .slot _ => g.loc r pre | .heap _ => g'.loc r pre
    own := fun b => if (g.own b).any Key.local then g.own b else match g'.own b with | some k => if k.local then none else some k | none => none
    imm := g'.imm
    cap := g'.cap }

theorem hide_local {b : Nat} {k : Key} (h : g.own b = some k) (hk : k.local = true) : g.hide.own b = some .frg := by simp [G.hide, h, hk]
theorem hide_other {b : Nat} {k : Key} (h : g.own b = some k) (hk : k.local = false) : g.hide.own b = some k := by simp [G.hide, h, hk]
theorem hide_inv {b : Nat} {k : Key} (h : g.hide.own b = some k) : (g.own b = some k ∧ k.local = false) ∨ ∃ k', g.own b = some k' ∧ k'.local = true ∧ k = .frg := by
  simp only [G.hide] at h
  split at h
  · rename_i k' hk'
    cases hl : k'.local with
    | true => simp [hl] at h; exact .inr ⟨k', hk', hl, h.symm⟩
    | false => simp [hl] at h; subst h; exact .inl ⟨hk', hl⟩
  · cases h

theorem hide_e0 : Ext0 g w hn g.hide w hn := ⟨fun _ _ h => ⟨h, rfl⟩, fun _ _ => rfl, fun _ _ => rfl, Nat.le_refl _⟩
theorem V.hide {v : Value} {x : PV} (h : V g w hn v x) : V g.hide w hn v x := h.mono hide_e0

theorem L.hide {i : Nat} {pre : Option Nat} {v : Value} {x : PV} (h : L g w hn (.heap i) pre v x) : L g.hide w hn (.heap i) pre v x :=
  h.mono (D := fun _ _ => False) hide_e0 rfl (fun b hb => ⟨by rw [hb]; exact hide_other hb rfl, fun _ => Iff.rfl, fun _ _ => rfl, fun _ => rfl, fun _ => rfl⟩) (fun _ _ _ _ _ _ _ _ => id)

theorem Rel.hide (R : Rel g w tm fr hp) : Rel g.hide w #[] [] hp := by
  refine ⟨fun t => .of (.undef _), fun i cs h => ?_, fun i ks vs h => ?_, R.immCell, fun b k h => ?_, fun t t' pre h => (by cases h), fun t h => (h rfl).elim,
    fun i s n p h => ⟨(R.rows.1 i s n p h).1, fun h0 ha => by rcases (R.rows.1 i s n p h).2 h0 ha with hf | ⟨b, o, h1, h2, h3, h4⟩; exact .inl hf; exact .inr ⟨b, o, h1, hide_other h2 rfl, h3, h4⟩⟩,
    fun i T e bs h => (R.rows.2 i T e bs h).keep rfl rfl fun b hb => ⟨(hide_other hb rfl).trans hb.symm, rfl, fun _ => Iff.rfl⟩⟩
  · obtain ⟨b, hO⟩ := R.heap i cs h
    exact ⟨b, hO.loc, hide_other hO.own rfl, hO.imm, hO.room, fun j y hy => by obtain ⟨v, h1, h2⟩ := hO.cells j y hy; exact ⟨v, h1, h2.hide⟩⟩
  · obtain ⟨b, hO, hM⟩ := R.maps i ks vs h
    exact ⟨b, ⟨hO.loc, hide_other hO.own rfl, hO.imm, hO.room, fun j y hy => by simp at hy⟩, hM.mono hide_e0 fun _ _ h => h⟩
  · rcases hide_inv h with ⟨h1, _⟩ | ⟨k', h1, _⟩ <;> exact R.ownLt _ _ h1

/-- What is handed to a call: one of the values may be on its way, with what it owns. -/
def ArgsV (g : G) (w : World) (hn : Nat) (us : Array Value) (args : List PV) : Prop :=
  ∃ k, (∀ (j : Nat) (u : Value) (y : PV), j ≠ k → us[j]? = some u → args[j]? = some y → V g w hn u y) ∧ ∀ (u : Value) (y : PV), us[k]? = some u → args[k]? = some y → ResV g w hn u y

theorem Pin.hide {P : Program} (h : Pin P g w) : Pin P g.hide w := by
  refine ⟨fun b hb => ⟨?_, (h.1 b hb).2⟩, fun b hb => ⟨?_, (h.2 b hb).2⟩⟩
  · have := (h.1 b hb).1; simp [G.hide, this]
  · have := (h.2 b hb).1; simp [G.hide, this]
/-- What is asked of a state, beside that it stands for the model's. -/
def Bok (P : Program) (st : St) (g : G) (w : World) : Prop := st.base ≤ st.hp.length ∧ Pin P g w
theorem StepR.bok {P : Program} {st st' : St} (h : StepR st st' g w g' w') (hb : Bok P st g w) : Bok P st' g' w' :=
  ⟨h.baseOk hb.1, hb.2.mono h.x⟩

/-- A call's answer is what the evaluator says. -/
def CallSound (P : Program) (callF : CallF) : Prop :=
  ∀ f args hp r hp' d, callF f args hp = some (r, hp', d) → ∀ (g : G) (w : World) (us : Array Value), Rel g w #[] [] hp → Pin P g w → us.size = args.length →
    ArgsV g w hp.length us args →
    (callFunc f us).run P w = .ok (.enter f us) w ∧ Calls P f us w fun e w' => ∃ v g', e = .returned v ∧ Rel g' w' #[] [] hp' ∧ X hp.length d g w hp g' w' hp' ∧ ResV g' w' hp'.length v r

set_option linter.unusedSectionVars false
section back
variable {d : Bool} (R : Rel g w tm fr hp) (R' : Rel g' w' #[] [] hp') (x : X hp.length d g.hide w hp g' w' hp')
include R R' x

theorem back_e0 : Ext0 g w hp.length (g.back g') w' hp'.length := ⟨fun b o h => x.e0.imm b o h, fun i hi => x.e0.loc i hi, fun i hi => x.e0.cap i hi, x.e0.hn⟩

theorem back_local {b : Nat} {k : Key} (h : g.own b = some k) (hk : k.local = true) : SameBlk g w (g.back g') w' b := by
  have s := x.far b (.inl (hide_local h hk))
  exact ⟨by simp [G.back, h, hk], s.heap, s.imm⟩
theorem back_far {b : Nat} (h : g.own b = some .frg ∨ g.own b = some .froz) : SameBlk g w (g.back g') w' b := by
  have hh : g.hide.own b = some .frg ∨ g.hide.own b = some .froz := h.imp (fun h => hide_other h rfl) (fun h => hide_other h rfl)
  have s := x.far b hh
  refine ⟨?_, s.heap, s.imm⟩
  have h1 := s.own
  rcases h with h | h
  · rw [hide_other h rfl] at h1; simp [G.back, h, Key.local, h1]
  · rw [hide_other h rfl] at h1; simp [G.back, h, Key.local, h1]
theorem back_heap {b : Nat} {k : Key} (h : g'.own b = some k) (hk : (∃ i, k = .obj i) ∨ ∃ i pre, k = .st (.heap i) pre) : (g.back g').own b = some k := by
  have hloc : k.local = false := by rcases hk with ⟨i, rfl⟩ | ⟨i, pre, rfl⟩ <;> rfl
  have hn : (g.own b).any Key.local = false := by
    cases ho : g.own b with
    | none => rfl
    | some k' =>
      cases hl : k'.local with
      | false => simp [hl]
      | true =>
        exfalso
        have s := x.far b (.inl (hide_local ho hl))
        have := s.own
        rw [h, hide_local ho hl] at this
        cases this
        rcases hk with ⟨i, e⟩ | ⟨i, pre, e⟩ <;> cases e
  simp [G.back, hn, h, hloc]
theorem back_clean (hd : d = false) {i : Nat} (hi : i < hp.length) {b : Nat} (hb : g.own b = some (.obj i) ∨ ∃ pre, g.own b = some (.st (.heap i) pre)) : SameBlk g w (g.back g') w' b := by
  obtain ⟨_, _, h3⟩ := x.clean hd i hi
  have hh : g.hide.own b = some (.obj i) ∨ ∃ pre, g.hide.own b = some (.st (.heap i) pre) := hb.imp (fun h => hide_other h rfl) (fun ⟨pre, h⟩ => ⟨pre, hide_other h rfl⟩)
  have s := h3 b hh
  refine ⟨?_, s.heap, s.imm⟩
  have h1 := s.own
  rcases hb with h | ⟨pre, h⟩
  · rw [hide_other h rfl] at h1; simp [G.back, h, Key.local, h1]
  · rw [hide_other h rfl] at h1; simp [G.back, h, Key.local, h1]

theorem back_X {base : Nat} (hb : base ≤ hp.length) : X base d g w hp (g.back g') w' hp' :=
  ⟨back_e0 R R' x, x.os, x.tape, x.out, x.size, fun b hb => back_far R R' x hb, fun hd i hi => by
    obtain ⟨h1, h2, _⟩ := x.clean hd i (by omega)
    exact ⟨h1, h2, fun b hb => back_clean R R' x hd (by omega) hb⟩⟩

theorem back_L {i : Nat} {pre : Option Nat} {v : Value} {y : PV} (h : L g' w' hp'.length (.heap i) pre v y) : L (g.back g') w' hp'.length (.heap i) pre v y :=
  h.mono (D := fun _ _ => False) (show Ext0 g' w' hp'.length (g.back g') w' hp'.length from ⟨fun _ _ h => ⟨h, rfl⟩, fun _ _ => rfl, fun _ _ => rfl, Nat.le_refl _⟩) rfl (fun b hb => ⟨by rw [hb]; exact back_heap R R' x hb (.inr ⟨i, pre, rfl⟩), fun _ => Iff.rfl, fun _ _ => rfl, fun _ => rfl, fun _ => rfl⟩) (fun _ _ _ _ _ _ _ _ => id)

theorem back_slotL {t : Nat} {pre : Option Nat} {v : Value} {y : PV} (h : L g w hp.length (.slot t) pre v y) : L (g.back g') w' hp'.length (.slot t) pre v y :=
  h.mono (D := fun _ _ => False) (back_e0 R R' x) rfl (fun b hb => (back_local R R' x hb rfl).same _) (fun _ _ _ _ _ _ _ _ => id)

/-- The caller's state behind a call. -/
theorem Rel.back : Rel (g.back g') w' tm (if d then killFr .heaps fr else fr) hp' := by
  have e0 := back_e0 R R' x
  have hget : ∀ t, get (if d then killFr .heaps fr else fr) t = if d then Kill.heaps.on (get fr t) else get fr t := fun t => by
    cases d
    · rfl
    · exact get_kill _ _ _
  have hcase : ∀ t, get (if d then killFr .heaps fr else fr) t = get fr t ∨ get (if d then killFr .heaps fr else fr) t = .undef := fun t => by
    rw [hget]; split
    · rcases on_cases .heaps (get fr t) with h | ⟨h, _⟩
      · exact .inl h
      · exact .inr h
    · exact .inl rfl
  have hlocal : ∀ t, get (if d then killFr .heaps fr else fr) t = get fr t → ∀ i pre, refOf (get fr t) = some (.heap i, pre) → pre.isSome = true → d = false := fun t h i pre hr hp => by
    cases hd : d with
    | false => rfl
    | true =>
      rw [hget, hd] at h
      simp only [if_true] at h
      exfalso
      have := (on_refOf .heaps (get fr t) (r := .heap i) (pre := pre) (by rw [h]; exact hr)).2
      simp [Kill.hits, hp] at this
  refine ⟨fun t => ?_, fun i cs h => ?_, fun i ks vs h => ?_, R'.immCell, fun b k h => ?_, fun t t' pre h => ?_, fun t h => ?_,
    fun i s n p h => ⟨(R'.rows.1 i s n p h).1, fun h0 ha => by rcases (R'.rows.1 i s n p h).2 h0 ha with hf | ⟨b, o, h1, h2, h3, h4⟩; exact .inl hf; exact .inr ⟨b, o, h1, back_heap R R' x h2 (.inl ⟨i, rfl⟩), h3, h4⟩⟩,
    fun i T e bs h => (R'.rows.2 i T e bs h).keep rfl rfl fun b hb => ⟨(back_heap R R' x hb (.inl ⟨i, rfl⟩)).trans hb.symm, rfl, fun _ => Iff.rfl⟩⟩
  · rcases hcase t with hg | hg
    · rw [hg]
      have hs := R.slots t
      have hl := hlocal t hg
      have hlive := R.live t
      have hlt : ∀ i pre, refOf (get fr t) = some (.heap i, pre) → i < hp.length := fun i pre h => R.ref_lt h
      have hobj : ∀ r o, refOf (get fr t) = some (r, some o) → ∃ cs, rootPV ⟨fr, hp, 0, false⟩ r = .box cs := fun r o h => R.refObj (st := ⟨fr, hp, 0, false⟩) h
      have hok : ∀ i pre, refOf (get fr t) = some (.heap i, pre) → i < hp.length ∧ g.cap i = 0 := fun i pre h => R.ref_ok h
      generalize get fr t = y at hs hl hlive hlt hobj hok
      generalize tm.getD t Go.undef = v at hs
      have hloc : ∀ r pre, refOf y = some (r, pre) → (g.back g').loc r pre = g.loc r pre := fun r pre hr => by
        cases r with
        | slot s => rfl
        | heap i =>
          cases pre with
          | none => exact x.e0.loc i (hlt i _ hr)
          | some o =>
            obtain ⟨_, h2, _⟩ := x.clean (hl i _ hr rfl) i (hlt i _ hr)
            exact h2 _
      have hi' : ∀ r pre, refOf y = some (r, pre) → ∀ i, r = .heap i → i < hp'.length ∧ (g.back g').cap i = 0 := fun r pre hr i e => by subst e; exact ⟨Nat.lt_of_lt_of_le (hlt i pre hr) e0.hn, (e0.cap i (hlt i pre hr)).trans (hok i pre hr).2⟩
      cases hs with
      | of h => exact .of (back_slotL R R' x h)
      | box h =>
        have s := back_local R R' x h.own rfl
        exact .box ⟨h.loc, s.own.trans h.own, fun j hj => h.imm j ((s.imm j).1 hj), fun j hj => by have := h.room j hj; rw [← this]; unfold World.frozen?; rw [s.heap], fun j z hz => by
          obtain ⟨u, h1, h2⟩ := h.cells j z hz
          exact ⟨u, by rw [← h1]; unfold World.cell?; rw [s.heap], back_slotL R R' x h2⟩⟩
      | agg hs h => exact .agg hs fun j u z h1 h2 => back_slotL R R' x (h j u z h1 h2)
      | tup hs h => exact .tup hs fun j u z h1 h2 => (h j u z h1 h2).mono e0
      | ptr hl0 hi => exact .ptr ((hloc _ _ rfl).trans hl0) (hi' _ _ rfl)
      | @hd r pre _ h hi =>
        refine .hd ?_ (hi' _ _ rfl)
        cases pre with
        | none => cases r <;> exact h
        | some o =>
          obtain ⟨c, hc⟩ := hobj r o rfl
          obtain ⟨b, hO, _⟩ := Rel.obj (st := ⟨fr, hp, 0, false⟩) R hc
          have hheap : w'.heap[b]? = w.heap[b]? := by
            cases r with
            | slot s => exact (back_local R R' x hO.own rfl).heap
            | heap i => exact (back_clean R R' x (hl i _ rfl rfl) (hlt i _ rfl) (.inl hO.own)).heap
          have hl0 : (g.back g').loc r none = (b, 0) := by
            rw [← hO.loc]
            cases r with
            | slot s => rfl
            | heap i => exact x.e0.loc i (hlt i _ rfl)
          have hcell : ∀ a : Addr, a.block = b → w'.cell? a = w.cell? a := fun a ha => by unfold World.cell?; rw [ha, hheap]
          have hl1 := hO.loc
          cases r <;> simp only [valAt] at h ⊢ <;> rw [hl0] <;> rw [hl1] at h <;> rw [hcell _ rfl] <;> exact h
      | vw hl0 hle hi => exact .vw ((hloc _ _ rfl).trans hl0) hle (hi' _ _ rfl)
      | vw0 hi => exact .vw0 (hi' _ _ rfl)
      | ep hi hc => exact .ep (fun j hj => (e0.imm _ _ (hi j hj)).1) (hc.mono e0 fun j hj => (e0.imm _ _ (hi j hj)).2)
    · rw [hg]; exact .of (.undef _)
  · obtain ⟨b, hO⟩ := R'.heap i cs h
    exact ⟨b, hO.loc, back_heap R R' x hO.own (.inl ⟨i, rfl⟩), hO.imm, hO.room, fun j y hy => by obtain ⟨v, h1, h2⟩ := hO.cells j y hy; exact ⟨v, h1, back_L R R' x h2⟩⟩
  · obtain ⟨b, hO, hM⟩ := R'.maps i ks vs h
    exact ⟨b, ⟨hO.loc, back_heap R R' x hO.own (.inl ⟨i, rfl⟩), hO.imm, hO.room, fun j y hy => by simp at hy⟩, hM.mono (show Ext0 g' w' hp'.length (g.back g') w' hp'.length from ⟨fun _ _ h => ⟨h, rfl⟩, fun _ _ => rfl, fun _ _ => rfl, Nat.le_refl _⟩) fun _ _ h => h⟩
  · simp only [G.back] at h
    split at h
    · exact Nat.lt_of_lt_of_le (R.ownLt _ _ h) x.size
    · split at h
      · rename_i k' hk'
        exact R'.ownLt _ _ hk'
      · cases h
  · have hr : refOf (get fr t) = some (.slot t', pre) := by
      rcases hcase t with hg | hg
      · rwa [hg] at h
      · rw [hg] at h; cases h
    have := R.live t t' pre hr
    have hro := rooty_of_rootOk this
    rcases hcase t' with hg | hg
    · rw [hg]; exact this
    · rw [hget] at hg
      split at hg
      · rcases on_cases .heaps (get fr t') with h1 | ⟨_, r, p, h1, _⟩
        · rw [h1] at hg; rw [hg] at hro; cases hro
        · cases hq : get fr t' <;> rw [hq] at h1 hro <;> simp [refOf] at h1 <;> simp [rooty] at hro
      · rw [hg] at hro; cases hro
  · rcases hcase t with hg | hg
    · rw [hg] at h; exact R.size t h
    · exact (h hg).elim

/-- What a call answers, in the caller's ghost. -/
theorem ResV.back {v : Value} {r : PV} (h : ResV g' w' hp'.length v r) : ResV (g.back g') w' hp'.length v r := by
  have e0 : Ext0 g' w' hp'.length (g.back g') w' hp'.length := ⟨fun _ _ h => ⟨h, rfl⟩, fun _ _ => rfl, fun _ _ => rfl, Nat.le_refl _⟩
  have hbb : ∀ b, g'.own b = none → (g.back g').own b = none := fun b hbn => by
    have hn : (g.own b).any Key.local = false := by
      cases ho : g.own b with
      | none => rfl
      | some k' =>
        cases hl : k'.local with
        | false => simp [hl]
        | true =>
          exfalso
          have := (x.far b (.inl (hide_local ho hl))).own
          rw [hbn, hide_local ho hl] at this
          cases this
    simp [G.back, hn, hbn]
  cases h with
  | of h => exact .of (h.mono e0)
  | tup hs h => exact .tup hs fun j u y h1 h2 => (h j u y h1 h2).mono e0
  | mu hb hlt hle hlen room hi hc h0 => exact .mu (hbb _ hb) hlt hle hlen room hi (hc.mono e0 fun _ _ => rfl) h0
  | ow hb hlt hle hlen room hi hx hc h0 => exact .ow (hbb _ hb) hlt hle hlen room hi hx (hc.mono e0 fun _ _ => rfl) h0
  | full hi hc => exact .full hi (hc.mono e0 fun _ _ => rfl)
end back

/-- The ghost without what belongs to objects that are not there. -/
def G.trim (g : G) (n : Nat) : G :=
  { g with own := fun b => match g.own b with
    | some (.obj i) => if i < n then some (.obj i) else none
    | some (.st (.heap i) p) => if i < n then some (.st (.heap i) p) else none
    | k => k }
theorem trim_inv {b : Nat} {k : Key} {n : Nat} (h : (g.trim n).own b = some k) : g.own b = some k ∧ ∀ i, (k = .obj i ∨ ∃ p, k = .st (.heap i) p) → i < n := by
  simp only [G.trim] at h
  split at h
  · rename_i i hi
    split at h
    · rename_i hlt
      cases h
      exact ⟨hi, fun j hj => by rcases hj with e | ⟨p, e⟩ <;> cases e; exact hlt⟩
    · cases h
  · rename_i i p hi
    split at h
    · rename_i hlt
      cases h
      exact ⟨hi, fun j hj => by rcases hj with e | ⟨p, e⟩ <;> cases e; exact hlt⟩
    · cases h
  · rename_i h1 h2
    exact ⟨h, fun j hj => by
      rcases hj with rfl | ⟨p, rfl⟩
      · exact (h1 _ h).elim
      · exact (h2 _ _ h).elim⟩
theorem trim_same {b : Nat} {k : Key} {n : Nat} (h : g.own b = some k) (hk : ∀ i, (k = .obj i ∨ ∃ p, k = .st (.heap i) p) → i < n) : (g.trim n).own b = some k := by
  simp only [G.trim, h]
  cases k with
  | obj i => simp [hk i (.inl rfl)]
  | st r p => cases r with
    | heap i => simp [hk i (.inr ⟨p, rfl⟩)]
    | slot t => rfl
  | box t => rfl
  | froz => rfl
  | frg => rfl
theorem Rel.trim (R : Rel g w tm fr hp) : Rel (g.trim hp.length) w tm fr hp := by
  have e0 : Ext0 g w hp.length (g.trim hp.length) w hp.length := ⟨fun _ _ h => ⟨h, rfl⟩, fun _ _ => rfl, fun _ _ => rfl, Nat.le_refl _⟩
  have sb : ∀ b k, g.own b = some k → (∀ i, (k = .obj i ∨ ∃ p, k = .st (.heap i) p) → i < hp.length) → SameB (fun _ _ => False) g w (g.trim hp.length) w b := fun b k h hk =>
    ⟨(trim_same h hk).trans h.symm, fun _ => Iff.rfl, fun _ _ => rfl, fun _ => rfl, fun _ => rfl⟩
  have c : Chg (fun r _ => ∃ i, r = .heap i ∧ hp.length ≤ i) (fun _ _ => False) g w hp.length (g.trim hp.length) w hp.length :=
    ⟨e0, fun _ _ _ => rfl, fun b r pre hb hC => sb b _ hb (fun i hi => (by
        rcases hi with e | ⟨p, e⟩ <;> cases e
        rcases Nat.lt_or_ge i hp.length with h | h
        · exact h
        · exact (hC ⟨i, rfl, h⟩).elim)),
      fun b t hb _ => sb b _ hb (fun i hi => (by rcases hi with e | ⟨p, e⟩ <;> cases e)),
      fun b i hb hC => sb b _ hb (fun j hj => (by
        rcases hj with e | ⟨p, e⟩ <;> cases e
        rcases Nat.lt_or_ge i hp.length with h | h
        · exact h
        · exact (hC ⟨i, rfl, h⟩).elim))⟩
  refine R.change c (fun t _ => ⟨fun ⟨i, e, _⟩ => (by cases e), fun cs _ j y _ _ => ⟨fun ⟨i, e, _⟩ => (by cases e), fun _ _ _ _ _ _ _ _ => id⟩, fun _ _ _ _ _ _ _ _ => id⟩) (fun t r pre h ⟨i, e, hi⟩ => ?_) (fun t r pre _ u hu => ?_)
    (fun i cs hc => ⟨fun ⟨j, e, hj⟩ => ?_, fun q y _ _ => ⟨fun ⟨j, e, hj⟩ => ?_, fun _ _ _ _ _ _ _ _ => id⟩, fun _ _ _ _ _ _ _ => id⟩) (fun i ks vs hc => ⟨fun ⟨j, e, hj⟩ => ?_, fun _ _ _ _ h => h⟩) R.immCell (fun b k hk => R.ownLt b k (trim_inv hk).1) (fun i s n p hc _ _ ⟨j, e, hj⟩ => by cases e; have := lt_of_some hc; omega)
    (fun i T e bs hc b hb => ⟨(trim_same hb (fun j hj => by rcases hj with e | ⟨p, e⟩ <;> cases e; exact lt_of_some hc)).trans hb.symm, rfl, fun _ => Iff.rfl⟩)
  · subst e; have := R.ref_lt h; omega
  · cases pre <;> cases r <;> exact hu
  · cases e; have := lt_of_some hc; omega
  · cases e; have := lt_of_some hc; omega
  · cases e; have := lt_of_some hc; omega

/-- Memory that nobody here knows of has turned. -/
theorem Rel.still (R : Rel g w tm fr hp) (hsz : w.heap.size ≤ w'.heap.size) (hw : ∀ b k, g.own b = some k → w'.heap[b]? = w.heap[b]?) (hi : ∀ b o, g.imm b o → w'.cell? ⟨b, o, none⟩ = w.cell? ⟨b, o, none⟩) : Rel g w' tm fr hp := by
  have e0 : Ext0 g w hp.length g w' hp.length := ⟨fun b o h => ⟨h, hi b o h⟩, fun _ _ => rfl, fun _ _ => rfl, Nat.le_refl _⟩
  have sb : ∀ b k, g.own b = some k → SameB (fun _ _ => False) g w g w' b := fun b k hb => SameBlk.same ⟨rfl, hw b k hb, fun _ => Iff.rfl⟩ _
  have c : Chg (fun _ _ => False) (fun _ _ => False) g w hp.length g w' hp.length := ⟨e0, fun _ _ _ => rfl, fun b r pre hb _ => sb b _ hb, fun b t hb _ => sb b _ hb, fun b i hb _ => sb b _ hb⟩
  have cl : ∀ r cs, Clear (fun _ _ => False) (fun _ _ => False) g r cs := fun r cs j y _ _ => ⟨id, fun _ _ _ _ _ _ _ _ => id⟩
  refine R.change c (fun t _ => ⟨id, fun cs _ => cl _ cs, fun _ _ _ _ _ _ _ _ => id⟩) (fun _ _ _ _ => id) (fun t r pre h u hu => ?_) (fun i cs _ => ⟨id, cl _ cs, fun _ _ _ _ _ _ _ => id⟩) (fun i ks vs _ => ⟨id, fun b es c hb h => by rw [hw b _ hb]; exact h⟩) (fun b o ho => ?_) (fun b k hb => Nat.lt_of_lt_of_le (R.ownLt b k hb) hsz) (fun _ _ _ _ _ _ _ h => h) (fun i T e bs _ b hb => ⟨rfl, hw b _ hb, fun _ => Iff.rfl⟩)
  · cases pre with
    | none => cases r <;> exact hu
    | some o =>
      obtain ⟨cs, hc⟩ := Rel.refObj (st := ⟨fr, hp, 0, false⟩) R h
      obtain ⟨b, hO, _⟩ := Rel.obj (st := ⟨fr, hp, 0, false⟩) R hc
      have hl := hO.loc
      have hcell : ∀ q, w'.cell? ⟨b, q, none⟩ = w.cell? ⟨b, q, none⟩ := fun q => by unfold World.cell?; rw [hw b _ hO.own]
      cases r <;> simp only [valAt] at hu ⊢ <;> rw [hl] at hu ⊢ <;> rw [hcell] <;> exact hu
  · rw [hi b o ho]; exact R.immCell b o ho

theorem plain1_V {v : Value} {y : PV} (h : V g w hn v y) (hp : plain1 y = true) (g' : G) (w' : World) (hn' : Nat) : V g' w' hn' v y := by
  cases h with
  | undef v => cases hp
  | int k n => exact .int k n
  | bool b => exact .bool b
  | str s => exact .str s
  | raw v h => exact .raw v h
  | nilp => exact .nilp
  | ptr i off b hi hl => cases hp
  | sl0 a tg => exact .sl0 a tg
  | sh0 a cap => exact .sh0 a cap
  | sl tg b o n cap cs f htg hle hc hv =>
    unfold plain1 at hp
    split at hp <;> first | (rename_i e; cases e; done) | skip
    · rename_i e; cases e
      rcases htg with rfl | ⟨rfl, rfl⟩
      · exact .sh0 _ _
      · exact .sl0 _ _
    · cases hp
  | fn f cv cap hs hv => cases hp
  | mp i b hi hl => cases hp
  | bp i b hi hl => cases hp
  | rf i b o n cap cs f hi hl hcap hle h0 hc hv => cases hp
  | agg vs cs hs hv => cases hp
theorem plainA_V {v : Value} {y : PV} (h : V g w hn v y) (hp : plainA y = true) (g' : G) (w' : World) (hn' : Nat) : V g' w' hn' v y := by
  cases h with
  | agg vs cs hs hv => exact .agg vs cs hs fun j u z h1 h2 => plain1_V (hv j u z h1 h2) (List.all_eq_true.1 hp _ (List.mem_of_getElem? h2)) _ _ _
  | undef v => cases hp
  | int k n => exact .int k n
  | bool b => exact .bool b
  | str s => exact .str s
  | raw v h => exact .raw v h
  | nilp => exact .nilp
  | ptr i off b hi hl => cases hp
  | sl0 a tg => exact .sl0 a tg
  | sh0 a cap => exact .sh0 a cap
  | sl tg b o n cap cs f htg hle hc hv => exact plain1_V (.sl tg b o n cap cs f htg hle hc hv) hp _ _ _
  | fn f cv cap hs hv => cases hp
  | mp i b hi hl => cases hp
  | bp i b hi hl => cases hp
  | rf i b o n cap cs f hi hl hcap hle h0 hc hv => cases hp
/-- A plain answer stands in any ghost that does not claim its row. -/
theorem plain_ResV {v : Value} {y : PV} (h : ResV g w hn v y) (hp : plain y = true) {g' : G} (hn' : Nat) (hown : ∀ b, g.own b = none → g'.own b = none) (himm : ∀ b j, ¬ g.imm b j → ¬ g'.imm b j) : ResV g' w hn' v y := by
  have cells : ∀ {b o : Nat} {cs : List PV}, Cells g w hn b o cs → cs.all plain1 = true → Cells g' w hn' b o cs := fun hc ha j z hz => by
    obtain ⟨u, h1, h2⟩ := hc j z hz
    exact ⟨u, h1, plain1_V h2 (List.all_eq_true.1 ha _ (List.mem_of_getElem? hz)) _ _ _⟩
  cases h with
  | of h =>
    cases h with
    | sl0 a tg => exact .of (.sl0 a tg)
    | sl tg b o n cap cs f htg hle hc hv =>
      rcases htg with rfl | ⟨rfl, rfl⟩
      · exact .of (plainA_V (.sl _ b o n cap cs f (.inl rfl) hle hc hv) hp _ _ _)
      · exact .of (plainA_V (.sl _ b o _ _ cs f (.inr ⟨rfl, rfl⟩) hle hc hv) hp _ _ _)
    | undef v => cases hp
    | int k n => exact .of (.int k n)
    | bool b => exact .of (.bool b)
    | str s => exact .of (.str s)
    | raw v h => exact .of (.raw v h)
    | nilp => exact .of .nilp
    | ptr i off b hi hl => cases hp
    | sh0 a cap => exact .of (.sh0 a cap)
    | fn f cv cap hs hv => cases hp
    | mp i b hi hl => cases hp
    | bp i b hi hl => cases hp
    | rf i b o n cap cs f hi hl hcap hle h0 hc hv => cases hp
    | agg vs cs hs hv => exact .of (plainA_V (.agg vs cs hs hv) hp _ _ _)
  | tup hs h => exact .tup hs fun j u z h1 h2 => plainA_V (h j u z h1 h2) (List.all_eq_true.1 hp _ (List.mem_of_getElem? h2)) _ _ _
  | mu hb hlt hle hlen room hi hc h0 => exact .mu (hown _ hb) hlt hle hlen room (fun j => himm _ _ (hi j)) (cells hc hp) h0
  | @ow b o n cap sz cs hb hlt hle hlen room hi hx hc h0 =>
    have : plain1 (.sl (.ow sz) n cs) = true := hp
    unfold plain1 at this
    split at this <;> first | (rename_i e; cases e; done) | skip
    · rename_i e; cases e
      exact .ow (hown _ hb) hlt hle hlen room (fun j hj => by simp at hj) (fun j hj => (by
        by_cases hh : g.imm b j
        · exact hx j hh
        · exact (himm _ _ hh hj).elim)) (fun j z hz => by simp at hz) h0
    · cases this
  | @full b o n sz cs hi hc =>
    have : plain1 (.sl (.ow sz) n cs) = true := hp
    unfold plain1 at this
    split at this <;> first | (rename_i e; cases e; done) | skip
    · rename_i e; cases e
      exact .full (fun j hj => by simp at hj) (fun j z hz => by simp at hz)
    · cases this
end
end Go.PS
end

section
/-
  Operations, as the evaluator steps: calls.
-/
namespace Go.PS
section
variable {g g' g1 g2 : G} {w w' w1 w2 : World} {hn hn' : Nat} {tm : Array Value} {fr fr' : Fr} {hp hp' hp1 hp2 : Heap} {P : Program} {t : Nat}

theorem takeArgs_sound {st st' : St} {a : Act} (ha : a.tmps = tm) (R : Rel g w tm st.fr st.hp) {args : List Operand} {own : Option Nat} {ys : List PV} (h : takeArgs st args own = some (st', ys)) :
    ∃ g', Rel g' w tm st'.fr st'.hp ∧ StepR st st' g w g' w ∧ ys.length = args.length ∧
      (∃ k, (∀ (j : Nat) (x : Operand) (y : PV), j ≠ k → args[j]? = some x → ys[j]? = some y → V g' w st'.hp.length (a.eval x) y) ∧ ∀ (x : Operand) (y : PV), args[k]? = some x → ys[k]? = some y → ResV g' w st'.hp.length (a.eval x) y) ∧
      st'.hp.length = st.hp.length ∧ (own = none → g'.own = g.own) := by
  unfold takeArgs at h
  split at h
  · obtain ⟨g1, R1, S1, hlen, hV, e1, o1⟩ := takeL_sound ha _ R h
    exact ⟨g1, R1, S1, hlen, ⟨0, fun j x y _ h1 h2 => hV j x y h1 h2, fun x y h1 h2 => .of (hV 0 x y h1 h2)⟩, e1, fun _ => o1⟩
  · rename_i i
    split at h
    · cases h
    · rename_i x hx
      split at h
      · cases h
      · rename_i st1 vs ht
        split at h
        · cases h
        · rename_i st2 v hv
          split at h
          · rename_i tg n cs
            cases h
            have hi : i < args.length := (List.getElem?_eq_some_iff.1 hx).1
            obtain ⟨g1, R1, S1, hlen, hV, e1, o1⟩ := takeL_sound ha _ R ht
            rw [List.length_eraseIdx, if_pos hi] at hlen
            obtain ⟨R2, S2, T2, e2⟩ := take_sound ha R1 hv
            have idx : ∀ (j : Nat) (z : Operand) (y : PV), j ≠ i → args[j]? = some z → (vs.insertIdx i (.sl tg n cs))[j]? = some y → V g1 w st'.hp.length (a.eval z) y := fun j z y hj h1 h2 => by
              rw [e2]
              rw [List.getElem?_insertIdx] at h2
              by_cases hlt : j < i
              · rw [if_pos hlt] at h2
                exact hV j z y (by rw [List.getElem?_eraseIdx, if_pos hlt]; exact h1) h2
              · rw [if_neg hlt, if_neg hj] at h2
                refine hV (j - 1) z y ?_ h2
                rw [List.getElem?_eraseIdx, if_neg (by omega), show j - 1 + 1 = j by omega]
                exact h1
            have hat : (vs.insertIdx i (PV.sl tg n cs))[i]? = some (.sl tg n cs) := by
              rw [List.getElem?_insertIdx, if_neg (Nat.lt_irrefl _), if_pos rfl, if_pos (by omega)]
            have hlen' : (vs.insertIdx i (PV.sl tg n cs)).length = args.length := by
              rw [List.length_insertIdx, if_pos (by omega)]; omega
            generalize hu : a.eval x = u at T2
            cases T2 with
            | flat _ _ hs hl hna hVs =>
              refine ⟨g1, R2, S1.trans S2, hlen', ⟨i, idx, fun z y h1 h2 => ?_⟩, e2.trans e1, fun e => (by cases e)⟩
              rw [hx] at h1; rw [hat] at h2; cases h1; cases h2
              rw [hu]; exact .of (hVs _ _ _ rfl)
            | moved p pp _ _ _ _ f hL m ho =>
              rw [← S2.base] at m
              obtain ⟨g3, R3, X3, hres, hkeep, _⟩ := R2.release f m hL
              refine ⟨g3, R3, (S1.trans S2).trans (StepR.ofX rfl rfl X3 id), hlen', ⟨i, fun j z y hj h1 h2 => hkeep _ _ (idx j z y hj h1 h2), fun z y h1 h2 => ?_⟩, e2.trans e1, fun e => (by cases e)⟩
              rw [hx] at h1; rw [hat] at h2; cases h1; cases h2
              rw [hu]; exact hres
          · cases h

theorem ResV.hide {v : Value} {r : PV} (h : ResV g w hn v r) : ResV g.hide w hn v r := by
  have hb : ∀ b, g.own b = none → g.hide.own b = none := fun b h => by simp [G.hide, h]
  cases h with
  | of h => exact .of h.hide
  | tup hs h => exact .tup hs fun j u y h1 h2 => (h j u y h1 h2).hide
  | mu hb' hlt hle hlen room hi hc h0 => exact .mu (hb _ hb') hlt hle hlen room hi (hc.mono hide_e0 fun _ _ => rfl) h0
  | ow hb' hlt hle hlen room hi hx hc h0 => exact .ow (hb _ hb') hlt hle hlen room hi hx (hc.mono hide_e0 fun _ _ => rfl) h0
  | full hi hc => exact .full hi (hc.mono hide_e0 fun _ _ => rfl)

/-- What is known of all that stood ahead of a call that wrote nothing and answered a plain value. -/
theorem plainBack {hp1 hp' : Heap} {base : Nat} {d0 : Bool} {v : Value} {r : PV} (R : Rel g w tm fr hp) (ho1 : g1.own = g.own) (e0 : Ext0 g w hp.length g1 w hp1.length) (e1 : hp1.length = hp.length) (hbs : base ≤ hp.length)
    (x : X hp1.length false g1.hide w hp1 g' w' hp') (hres : ResV g' w' hp'.length v r) (hpl : plain r = true) :
    ∃ g0, Rel g0 w' tm fr hp ∧ ResV g0 w' hp.length v r ∧ X base d0 g w hp g0 w' hp := by
  let g0 := g.trim hp.length
  have R0 : Rel g0 w tm fr hp := R.trim
  have own0 : ∀ b k, g0.own b = some k → SameBlk g1.hide w g' w' b ∧ ∃ k', g1.hide.own b = some k' := fun b k hk => by
    obtain ⟨h1, h2⟩ := trim_inv hk
    rw [← ho1] at h1
    by_cases hkl : k.local = true
    · exact ⟨x.far b (.inl (hide_local h1 hkl)), _, hide_local h1 hkl⟩
    · have hkl : k.local = false := by simpa using hkl
      have hh := hide_other h1 hkl
      cases k with
      | frg => exact ⟨x.far b (.inl hh), _, hh⟩
      | froz => exact ⟨x.far b (.inr hh), _, hh⟩
      | box t => cases hkl
      | obj i =>
        have hi := h2 i (.inl rfl)
        exact ⟨(x.clean rfl i (by rw [e1]; exact hi)).2.2 b (.inl hh), _, hh⟩
      | st r p => cases r with
        | slot t => cases hkl
        | heap i =>
          have hi := h2 i (.inr ⟨p, rfl⟩)
          exact ⟨(x.clean rfl i (by rw [e1]; exact hi)).2.2 b (.inr ⟨p, hh⟩), _, hh⟩
  have R2 : Rel g0 w' tm fr hp := R0.still x.size (fun b k hk => (own0 b k hk).1.heap) fun b o hi => (x.e0.imm b o (e0.imm b o hi).1).2
  have hres2 : ResV g0 w' hp.length v r := plain_ResV hres hpl _ (fun b hn => by
      cases hk : g0.own b with
      | none => rfl
      | some k =>
        obtain ⟨s, k', hk'⟩ := own0 b k hk
        have := s.own
        rw [hn, hk'] at this; cases this) (fun b j hn hi => hn (x.e0.imm b j (e0.imm b j hi).1).1)
  refine ⟨g0, R2, hres2, ?_⟩
  have far0 : ∀ b, g.own b = some .frg ∨ g.own b = some .froz → SameBlk g w g0 w' b := fun b hb' => by
    have hk : ∃ k, g0.own b = some k ∧ g.own b = some k := by
      rcases hb' with h | h
      · exact ⟨_, trim_same h (fun i e => by rcases e with e | ⟨_, e⟩ <;> cases e), h⟩
      · exact ⟨_, trim_same h (fun i e => by rcases e with e | ⟨_, e⟩ <;> cases e), h⟩
    obtain ⟨k, h1, h2⟩ := hk
    exact ⟨h1.trans h2.symm, (own0 b k h1).1.heap, fun _ => Iff.rfl⟩
  refine ⟨⟨fun b o hi => ⟨hi, (x.e0.imm b o (e0.imm b o hi).1).2⟩, fun _ _ => rfl, fun _ _ => rfl, Nat.le_refl _⟩, x.os, x.tape, x.out, x.size, far0, fun _ i hi => ⟨rfl, fun _ => rfl, fun b hb' => ?_⟩⟩
  have hi' : i < hp.length := by omega
  have hk : ∃ k, g0.own b = some k ∧ g.own b = some k := by
    rcases hb' with h | ⟨p, h⟩
    · exact ⟨_, trim_same h (fun j e => by rcases e with e | ⟨_, e⟩ <;> cases e; exact hi'), h⟩
    · exact ⟨_, trim_same h (fun j e => by rcases e with e | ⟨_, e⟩ <;> cases e; exact hi'), h⟩
  obtain ⟨k, h1, h2⟩ := hk
  exact ⟨h1.trans h2.symm, (own0 b k h1).1.heap, fun _ => Iff.rfl⟩

theorem callOK {st st' : St} {a : Act} (R : Rel g w a.tmps st.fr st.hp) (hb : Bok P st g w) {callF : CallF} (hcall : CallSound P callF) {o : Oper} (hd : ∀ d, o.dst = some d → d < a.tmps.size) {c : Call} {fo : Operand} (ho : o.op = .call c) (hc : c.callee = .value fo)
    {own : Option Nat} {f : FuncId} {cap : List PV} (hf : opv st.fr fo = .fn f cap) (h : callOp callF own st f cap c.args.toList o.dst = some st') : StepOK P a o st st' g w := by
  unfold callOp at h
  split at h
  · cases h
  · rename_i st1 vs ht
    split at h
    · cases h
    · rename_i r hp' d hcf
      obtain ⟨g1, R1, S1, hlen, ⟨k, hV, hVk⟩, e1, o1⟩ := takeArgs_sound rfl R ht
      have hb0 := hb.1
      obtain ⟨⟨tf, hs⟩, _⟩ := opv_sound R a rfl fo
      rw [hf] at hs
      obtain ⟨cv, hfv, hcs, hcv⟩ := hs.fn_inv
      have hbase : st1.base ≤ st1.hp.length := by rw [S1.base, e1]; exact hb.1
      let us : Array Value := c.args.map a.eval ++ cv
      have hus : us.size = (vs ++ cap).length := by simp [us, hcs]; simpa using hlen.symm
      have hl : vs.length = c.args.size := by simpa using hlen
      have look : ∀ (j : Nat) (u : Value) (y : PV), us[j]? = some u → (vs ++ cap)[j]? = some y → (∃ x, j < c.args.size ∧ c.args.toList[j]? = some x ∧ u = a.eval x ∧ vs[j]? = some y) ∨ (c.args.size ≤ j ∧ V g1 w st1.hp.length u y) := by
        intro j u y hu hy
        simp only [us, Array.getElem?_append, Array.size_map] at hu
        rw [List.getElem?_append] at hy
        by_cases hj : j < c.args.size
        · rw [if_pos hj] at hu
          rw [if_pos (by omega)] at hy
          simp only [Array.getElem?_map, Option.map_eq_some_iff] at hu
          obtain ⟨x, hx, rfl⟩ := hu
          exact .inl ⟨x, hj, by simpa using hx, rfl, hy⟩
        · rw [if_neg hj] at hu
          rw [if_neg (by omega), hl] at hy
          exact .inr ⟨by omega, (hcv _ u y hu hy).mono S1.x.e0⟩
      have hArgs : ArgsV g1.hide w st1.hp.length us (vs ++ cap) := by
        refine ⟨k, fun j u y hj hu hy => ?_, fun u y hu hy => ?_⟩
        · rcases look j u y hu hy with ⟨x, _, hx, rfl, hy'⟩ | ⟨_, h⟩
          · exact (hV j x y hj hx hy').hide
          · exact h.hide
        · rcases look k u y hu hy with ⟨x, _, hx, rfl, hy'⟩ | ⟨_, h⟩
          · exact (hVk x y hx hy').hide
          · exact .of h.hide
      obtain ⟨hrun, hcalls⟩ := hcall f (vs ++ cap) st1.hp r hp' d hcf g1.hide w us R1.hide (hb.2.mono S1.x).hide hus hArgs
      have hexec : (execOp a.eval o).run P w = .ok (.enter f us) w := by
        simp only [execOp, ho, resolve, hc, hfv, Deferred.ofValue, Sem.run_bind, Sem.run_pure, Result.andThen_ok, invoke]
        have he : (#[] ++ c.args.map a.eval) ++ cv = us := by simp [us]
        rw [he]
        exact hrun
      refine Runs.enter hexec (hcalls.mono fun e w' hpost => ?_)
      obtain ⟨v, g', rfl, R', x, hres⟩ := hpost
      refine ⟨v, rfl, ?_⟩
      split at h
      · rename_i hp
        obtain ⟨hown, rfl, hpl⟩ := hp
        cases h
        have ho1 := o1 hown
        let g0 := g.trim st.hp.length
        have R0 : Rel g0 w a.tmps st.fr st.hp := R.trim
        have own0 : ∀ b k, g0.own b = some k → SameBlk g1.hide w g' w' b ∧ ∃ k', g1.hide.own b = some k' := fun b k hk => by
          obtain ⟨h1, h2⟩ := trim_inv hk
          rw [← ho1] at h1
          by_cases hkl : k.local = true
          · exact ⟨x.far b (.inl (hide_local h1 hkl)), _, hide_local h1 hkl⟩
          · have hkl : k.local = false := by simpa using hkl
            have hh := hide_other h1 hkl
            cases k with
            | frg => exact ⟨x.far b (.inl hh), _, hh⟩
            | froz => exact ⟨x.far b (.inr hh), _, hh⟩
            | box t => cases hkl
            | obj i =>
              have hi := h2 i (.inl rfl)
              exact ⟨(x.clean rfl i (by rw [e1]; exact hi)).2.2 b (.inl hh), _, hh⟩
            | st r p => cases r with
              | slot t => cases hkl
              | heap i =>
                have hi := h2 i (.inr ⟨p, rfl⟩)
                exact ⟨(x.clean rfl i (by rw [e1]; exact hi)).2.2 b (.inr ⟨p, hh⟩), _, hh⟩
        have R2 : Rel g0 w' a.tmps st.fr st.hp := R0.still x.size (fun b k hk => (own0 b k hk).1.heap) fun b o hi => (x.e0.imm b o (S1.x.e0.imm b o hi).1).2
        have hres2 : ResV g0 w' st.hp.length v r := plain_ResV hres hpl _ (fun b hn => by
            cases hk : g0.own b with
            | none => rfl
            | some k =>
              obtain ⟨s, k', hk'⟩ := own0 b k hk
              have := s.own
              rw [hn, hk'] at this; cases this) (fun b j hn hi => hn (x.e0.imm b j (S1.x.e0.imm b j hi).1).1)
        obtain ⟨g3, R3, S3⟩ := R2.landDst (a := a) (st := st) (dst := o.dst) hd hres2
        refine ⟨g3, R3, StepR.trans (st1 := st) (w1 := w') (g1 := g0) ⟨rfl, id, ?_⟩ S3⟩
        have far0 : ∀ b, g.own b = some .frg ∨ g.own b = some .froz → SameBlk g w g0 w' b := fun b hb' => by
          have hk : ∃ k, g0.own b = some k ∧ g.own b = some k := by
            rcases hb' with h | h
            · exact ⟨_, trim_same h (fun i e => by rcases e with e | ⟨_, e⟩ <;> cases e), h⟩
            · exact ⟨_, trim_same h (fun i e => by rcases e with e | ⟨_, e⟩ <;> cases e), h⟩
          obtain ⟨k, h1, h2⟩ := hk
          exact ⟨h1.trans h2.symm, (own0 b k h1).1.heap, fun _ => Iff.rfl⟩
        refine ⟨⟨fun b o hi => ⟨hi, (x.e0.imm b o (S1.x.e0.imm b o hi).1).2⟩, fun _ _ => rfl, fun _ _ => rfl, Nat.le_refl _⟩, x.os, x.tape, x.out, x.size, far0, fun _ i hi => ⟨rfl, fun _ => rfl, fun b hb' => ?_⟩⟩
        have hi' : i < st.hp.length := by omega
        have hk : ∃ k, g0.own b = some k ∧ g.own b = some k := by
          rcases hb' with h | ⟨p, h⟩
          · exact ⟨_, trim_same h (fun j e => by rcases e with e | ⟨_, e⟩ <;> cases e; exact hi'), h⟩
          · exact ⟨_, trim_same h (fun j e => by rcases e with e | ⟨_, e⟩ <;> cases e; exact hi'), h⟩
        obtain ⟨k, h1, h2⟩ := hk
        exact ⟨h1.trans h2.symm, (own0 b k h1).1.heap, fun _ => Iff.rfl⟩
      · split at h
        · rename_i hp
          obtain ⟨rfl, hpl⟩ := hp
          cases h
          let g0 := g1.trim st1.hp.length
          have R0 : Rel g0 w a.tmps st1.fr st1.hp := R1.trim
          have own0 : ∀ b k, g0.own b = some k → SameBlk g1.hide w g' w' b ∧ ∃ k', g1.hide.own b = some k' := fun b k hk => by
            obtain ⟨h1, h2⟩ := trim_inv hk
            by_cases hkl : k.local = true
            · exact ⟨x.far b (.inl (hide_local h1 hkl)), _, hide_local h1 hkl⟩
            · have hkl : k.local = false := by simpa using hkl
              have hh := hide_other h1 hkl
              cases k with
              | frg => exact ⟨x.far b (.inl hh), _, hh⟩
              | froz => exact ⟨x.far b (.inr hh), _, hh⟩
              | box t => cases hkl
              | obj i =>
                have hi := h2 i (.inl rfl)
                exact ⟨(x.clean rfl i hi).2.2 b (.inl hh), _, hh⟩
              | st r p => cases r with
                | slot t => cases hkl
                | heap i =>
                  have hi := h2 i (.inr ⟨p, rfl⟩)
                  exact ⟨(x.clean rfl i hi).2.2 b (.inr ⟨p, hh⟩), _, hh⟩
          have R2 : Rel g0 w' a.tmps st1.fr st1.hp := R0.still x.size (fun b k hk => (own0 b k hk).1.heap) fun b o hi => (x.e0.imm b o hi).2
          have hres2 : ResV g0 w' st1.hp.length v r := plain_ResV hres hpl _ (fun b hn => by
              cases hk : g0.own b with
              | none => rfl
              | some k =>
                obtain ⟨s, k', hk'⟩ := own0 b k hk
                have := s.own
                rw [hn, hk'] at this; cases this) (fun b j hn hi => hn (x.e0.imm b j hi).1)
          obtain ⟨g3, R3, S3⟩ := R2.landDst (a := a) (st := st1) (dst := o.dst) hd hres2
          refine ⟨g3, R3, S1.trans (StepR.trans (st1 := st1) (w1 := w') (g1 := g0) ⟨rfl, id, ?_⟩ S3)⟩
          have far0 : ∀ b, g1.own b = some .frg ∨ g1.own b = some .froz → SameBlk g1 w g0 w' b := fun b hb' => by
            have hk : ∃ k, g0.own b = some k ∧ g1.own b = some k := by
              rcases hb' with h | h
              · exact ⟨_, trim_same h (fun i e => by rcases e with e | ⟨_, e⟩ <;> cases e), h⟩
              · exact ⟨_, trim_same h (fun i e => by rcases e with e | ⟨_, e⟩ <;> cases e), h⟩
            obtain ⟨k, h1, h2⟩ := hk
            exact ⟨h1.trans h2.symm, (own0 b k h1).1.heap, fun _ => Iff.rfl⟩
          refine ⟨⟨fun b o hi => ⟨hi, (x.e0.imm b o hi).2⟩, fun _ _ => rfl, fun _ _ => rfl, Nat.le_refl _⟩, x.os, x.tape, x.out, x.size, far0, fun _ i hi => ⟨rfl, fun _ => rfl, fun b hb' => ?_⟩⟩
          have hi' : i < st1.hp.length := by omega
          have hk : ∃ k, g0.own b = some k ∧ g1.own b = some k := by
            rcases hb' with h | ⟨p, h⟩
            · exact ⟨_, trim_same h (fun j e => by rcases e with e | ⟨_, e⟩ <;> cases e; exact hi'), h⟩
            · exact ⟨_, trim_same h (fun j e => by rcases e with e | ⟨_, e⟩ <;> cases e; exact hi'), h⟩
          obtain ⟨k, h1, h2⟩ := hk
          exact ⟨h1.trans h2.symm, (own0 b k h1).1.heap, fun _ => Iff.rfl⟩
        cases h
        have R2 := Rel.back R1 R' x
        have X2 := back_X R1 R' x hbase
        have S2 : StepR st1 { st1 with hp := hp', dirty := st1.dirty || d, fr := if d then killFr .heaps st1.fr else st1.fr } g1 w (g1.back g') w' :=
          ⟨rfl, fun h => by simp [h], X2.weaken fun h => by simp at h; exact h.2⟩
        obtain ⟨g3, R3, S3⟩ := Rel.landDst (st := { st1 with hp := hp', dirty := st1.dirty || d, fr := if d then killFr .heaps st1.fr else st1.fr }) R2 (dst := o.dst) hd (ResV.back R1 R' x hres)
        exact ⟨g3, R3, (S1.trans S2).trans S3⟩
end
end Go.PS
end

section
/-
  The built-in append.
-/
namespace Go.PS
section
variable {g g' g1 g2 : G} {w w' w1 w2 : World} {hn hn' : Nat} {tm : Array Value} {fr fr' : Fr} {hp hp' hp1 hp2 : Heap} {P : Program} {t : Nat}

/-- Cells of a block that belongs to nobody are shared for good. -/
theorem Rel.freezeNone {base : Nat} {d : Bool} (R : Rel g w tm fr hp) {b : Nat} (hb : g.own b = none) (o m : Nat) (hex : ∀ j, j < m → (w.cell? ⟨b, o + j, none⟩).isSome = true) :
    Rel (g.freeze b o m) w tm fr hp ∧ X base d g w hp (g.freeze b o m) w hp := by
  have e0 : Ext0 g w hp.length (g.freeze b o m) w hp.length := freeze_e0 _ _ _
  have ne : ∀ b' k, g.own b' = some k → b' ≠ b := fun b' k hk e => by subst e; rw [hb] at hk; cases hk
  have c : Chg (fun _ _ => False) (fun _ _ => False) g w hp.length (g.freeze b o m) w hp.length :=
    ⟨e0, fun _ _ _ => rfl, fun b' r pre hb' _ => (freeze_other (ne b' _ hb')).same _, fun b' t hb' _ => (freeze_other (ne b' _ hb')).same _, fun b' i hb' _ => (freeze_other (ne b' _ hb')).same _⟩
  refine ⟨R.change c (fun t _ => ⟨id, fun cs _ j y _ _ => ⟨id, fun _ _ _ _ _ _ _ _ => id⟩, fun _ _ _ _ _ _ _ _ => id⟩) (fun _ _ _ _ => id) (fun t r pre _ u hu => ?_)
    (fun i cs _ => ⟨id, fun j y _ _ => ⟨id, fun _ _ _ _ _ _ _ _ => id⟩, fun _ _ _ _ _ _ _ => id⟩) (fun i ks vs _ => ⟨id, fun _ _ _ _ h => h⟩) (fun b' j h => ?_) R.ownLt (fun _ _ _ _ _ _ _ h => h) (fun i T e bs _ b' hb' => freeze_other (ne b' _ hb')), ⟨e0, rfl, rfl, rfl, Nat.le_refl _, fun b' hb' => freeze_other (hb'.elim (ne b' _) (ne b' _)), fun _ i _ => ⟨rfl, fun _ => rfl, fun b' hb' => by
      rcases hb' with h | ⟨_, h⟩ <;> exact freeze_other (ne b' _ h)⟩⟩⟩
  · cases pre <;> cases r <;> exact hu
  · rcases h with h | ⟨rfl, h1, h2⟩
    · exact R.immCell _ _ h
    · have := hex (j - o) (by omega)
      rwa [show o + (j - o) = j by omega] at this

/-- Cells of a block that belongs to nobody are written. -/
theorem Rel.pokeNone {base : Nat} {d : Bool} (R : Rel g w tm fr hp) {b o : Nat} {vs : List Value} (hb : g.own b = none) (ht : ∀ j, j < vs.length → (w.cell? ⟨b, o + j, none⟩).isSome = true) (hni : ∀ j, j < vs.length → ¬ g.imm b (o + j)) :
    Rel g (w.setCells b o vs) tm fr hp ∧ X base d g w hp g (w.setCells b o vs) hp := by
  refine ⟨R.poke ht hni (fun _ _ _ _ h => ?_) (fun _ _ _ _ h => ?_) (fun _ _ _ _ h => ?_) (fun _ _ _ _ _ _ _ h => ?_) (fun _ _ _ _ _ _ _ h => ?_) (fun t r q he hd => ?_) (fun i T e bs _ _ h => by rw [hb] at h; cases h),
    X.poke hni ⟨by rw [hb]; simp, by rw [hb]; simp⟩ fun _ i _ => ⟨by rw [hb]; simp, fun pre => by rw [hb]; simp⟩⟩
  · rw [hb] at h; cases h
  · rw [hb] at h; cases h
  · rw [hb] at h; cases h
  · rw [hb] at h; cases h
  · rw [hb] at h; cases h
  · obtain ⟨c', hc'⟩ := Rel.refObj (st := ⟨fr, hp, 0, false⟩) R he
    obtain ⟨b', hO', _⟩ := Rel.obj (st := ⟨fr, hp, 0, false⟩) R hc'
    rw [hO'.loc] at hd
    have h1 : b' = b := hd.1
    subst h1
    have e := hO'.own
    rw [hb] at e
    cases e

theorem Cells.vals {b o : Nat} {cs : List PV} (h : Cells g w hn b o cs) : ∃ vs : List Value, vs.length = cs.length ∧ (∀ j u, vs[j]? = some u → w.cell? ⟨b, o + j, none⟩ = some u) ∧ ∀ (j : Nat) (u : Value) (y : PV), vs[j]? = some u → cs[j]? = some y → V g w hn u y := by
  refine ⟨(List.range cs.length).map fun j => (w.cell? ⟨b, o + j, none⟩).getD Go.undef, by simp, fun j u hu => ?_, fun j u y hu hy => ?_⟩
  · simp only [List.getElem?_map, Option.map_eq_some_iff] at hu
    obtain ⟨i, hi, rfl⟩ := hu
    rw [List.getElem?_eq_some_iff] at hi
    obtain ⟨hlt, rfl⟩ := hi
    simp only [List.length_range] at hlt
    obtain ⟨v, h1, _⟩ := h j _ (List.getElem?_eq_getElem hlt)
    simp [h1]
  · simp only [List.getElem?_map, Option.map_eq_some_iff] at hu
    obtain ⟨i, hi, rfl⟩ := hu
    rw [List.getElem?_eq_some_iff] at hi
    obtain ⟨hlt, rfl⟩ := hi
    obtain ⟨v, h1, h2⟩ := h j y hy
    simp [h1]
    exact h2

theorem V.oneCell {v : Value} {z : PV} (h : V g w hn v z) (hs : storable z = true) : v.oneCell' = true := by
  cases h <;> first | rfl | (cases hs; done) | skip
  rename_i h; cases v <;> first | rfl | (cases h; done) | (cases hs; done)

/-- What is appended. -/
theorem content_src {st : St} (R : Rel g w tm st.fr st.hp) {v : Value} {x : PV} {n size : Nat} {cs : List PV} (hx : Slot g w st.hp.length tm t v x) (h : content st x = some (n, cs)) (hlen : cs.length = n * size) (hst : cs.all storable = true)
    {U e' : TypeId} (hU : P.underlying U = some (.slice e')) : ∃ news, Src P size U v n news w ∧ ∀ (j : Nat) (u : Value) (y : PV), news[j]? = some u → cs[j]? = some y → V g w st.hp.length u y := by
  rcases content_sound R hx h with ⟨rfl, rfl, a, cap, rfl⟩ | ⟨b, o, cap, rfl, hle, hc⟩
  · refine ⟨[], ?_, fun j u y hu => by simp at hu⟩
    cases a with
    | none => exact Src.ofNil w hU cap
    | some a => exact Src.ofSlice w hU a 0 cap [] (by simp) (fun j u hu => by simp at hu) (fun u hu => by cases hu)
  · obtain ⟨vs, h1, h2, h3⟩ := hc.vals
    refine ⟨vs, Src.ofSlice w hU ⟨b, o, none⟩ n cap vs (by rw [h1, hlen]) (fun j u hu => ?_) (fun u hu => ?_), h3⟩
    · rw [addr_add]; exact h2 j u hu
    · obtain ⟨j, hj, rfl⟩ := List.mem_iff_getElem.1 hu
      have hj' : j < cs.length := by omega
      exact (h3 j _ _ (List.getElem?_eq_getElem hj) (List.getElem?_eq_getElem hj')).oneCell (List.all_eq_true.1 hst _ (List.getElem_mem hj'))

theorem append_get {α β : Type} {cs : List α} {ys : List β} {f : β → α} {j : Nat} {y : α} (h : (cs ++ ys.map f)[j]? = some y) : cs[j]? = some y ∨ ∃ z, cs.length ≤ j ∧ ys[j - cs.length]? = some z ∧ y = f z := by
  rw [List.getElem?_append] at h
  split at h
  · exact .inl h
  · simp only [List.getElem?_map, Option.map_eq_some_iff] at h
    obtain ⟨z, h1, h2⟩ := h
    exact .inr ⟨z, by omega, h1, h2.symm⟩

/-- An append grows: a new row. -/
theorem appendGrow {base : Nat} {dd : Bool} (R : Rel g w tm fr hp) {T U ty e : TypeId} {i : TypeInfo} {z : Value} (hT : P.underlying T = some (.slice e)) (hi : P.info? e = some i) (hz : i.zero = some z) (hzs : z.cells.size = i.size)
    {a0 : Option Addr} {n cap k : Nat} {cs ys : List PV} (hlen : cs.length = n * i.size) (hys : ys.length = k * i.size) {olds : List Value} (hol : olds.length = cs.length)
    (hold : (Builtin.firstCells i.size n (.slice a0 n cap)).run P w.drew = .ok olds.toArray w.drew) (holdV : ∀ (j : Nat) (u : Value) (y : PV), olds[j]? = some u → cs[j]? = some y → V g w hp.length u y)
    {x : Value} {news : List Value} (hs : Src P i.size U x k news w) (hnV : ∀ (j : Nat) (u : Value) (y : PV), news[j]? = some u → ys[j]? = some y → V g w hp.length u y)
    (hg : cap < n + k) (hfit : (n + k) * i.bytes ≤ 140737488355328) (hby : 0 < i.bytes) :
    ∃ v' w', (Builtin.append_ #[T, U] ty #[.slice a0 n cap, x]).run P w = .ok v' w' ∧ (∃ g', Rel g' w' tm fr hp ∧ X base dd g w hp g' w' hp ∧ ResV g' w' hp.length v' (.sl (.mu i.size) (n + k) (cs ++ ys.map outNil))) ∧
      ∃ g', Rel g' w' tm fr hp ∧ X base dd g w hp g' w' hp ∧ ResV g' w' hp.length v' (.sl (.ow i.size) (n + k) (cs ++ ys.map outNil)) := by
  have hmul : n + k ≤ (n + k) * i.bytes := Nat.le_mul_of_pos_right _ hby
  have hrun := run_append_grow_src (P := P) w T U ty e i z hT hi hz a0 n cap olds hold x k news hs hg (by omega) (growslice_fits hg hfit)
  have hnl := hs.newsLen
  have hge := grownCap_ge w (n + k) cap e
  let gc := grownCap w (n + k) cap e
  let cells : Array Value := (olds ++ news).toArray ++ Builtin.zeroCells z.cells (gc - (n + k))
  have hgd : Grow w w.drew := Grow.drew w
  have Rd : Rel g w.drew tm fr hp := R.grow hgd
  have e0 : Ext0 g w hp.length g w.drew hp.length := ⟨fun _ _ h => ⟨h, rfl⟩, fun _ _ => rfl, fun _ _ => rfl, Nat.le_refl _⟩
  have hcs : ∀ (j : Nat) (y : PV), (cs ++ ys.map outNil)[j]? = some y → ∃ u, cells[j]? = some u ∧ V g w.drew hp.length u y := by
    intro j y hy
    rcases append_get hy with h | ⟨z', h1, h2, rfl⟩
    · have hlt := lt_of_some h
      have hlt' : j < olds.length := by omega
      refine ⟨olds[j], ?_, (holdV j _ y (List.getElem?_eq_getElem hlt') h).mono e0⟩
      simp only [cells]
      rw [Array.getElem?_append_left (by simp; omega)]
      simp only [List.getElem?_toArray]
      rw [List.getElem?_append_left hlt']
      exact List.getElem?_eq_getElem hlt'
    · have hlt := lt_of_some h2
      have hlt' : j - cs.length < news.length := by omega
      refine ⟨news[j - cs.length], ?_, ((hnV _ _ z' (List.getElem?_eq_getElem hlt') h2).mono e0).outNil⟩
      simp only [cells]
      rw [Array.getElem?_append_left (by simp; omega)]
      simp only [List.getElem?_toArray]
      rw [List.getElem?_append_right (by omega), hol]
      exact List.getElem?_eq_getElem hlt'
  have hL : (cs ++ ys.map outNil).length = (n + k) * i.size := by simp [hlen, hys, Nat.add_mul]
  have hsz : gc * i.size ≤ cells.size := by
    simp only [cells, Array.size_append, List.size_toArray, List.length_append, size_zeroCells, hzs]
    rw [hol, hlen, hnl, ← Nat.add_mul, ← Nat.add_mul]
    exact Nat.mul_le_mul_right _ (by simp only [gc]; omega)
  have hmu := newResV (hn := hp.length) Rd (cells := cells) (n := n + k) (cap := gc) (sz := i.size) hge hL hsz (.inl (by omega)) hcs e
  have hgr : Grow w (w.drew.alloc (.cells cells e)) := hgd.trans (Grow.alloc _ _)
  have R2 : Rel g (w.drew.alloc (.cells cells e)) tm fr hp := R.grow hgr
  have x1 : X base false g w hp g (w.drew.alloc (.cells cells e)) hp := X.grow R hgr
  refine ⟨_, _, hrun, ⟨g, R2, x1.weaken (by simp), hmu⟩, ?_⟩
  obtain ⟨hb, hlt, room, himm, hc⟩ := newFacts (hn := hp.length) Rd (cells := cells) (cap := gc) (sz := i.size) hsz hcs e
  have hex : ∀ j, j < (cs ++ ys.map outNil).length → ((w.drew.alloc (.cells cells e)).cell? ⟨w.drew.heap.size, 0 + j, none⟩).isSome = true := fun j hj => by
    obtain ⟨u, h1, _⟩ := hc j _ (List.getElem?_eq_getElem hj); rw [h1]; rfl
  obtain ⟨R3, x3⟩ := R2.freezeNone (base := base) (d := dd) hb 0 _ hex
  refine ⟨_, R3, by simpa using x1.trans x3, .ow hb hlt hge hL room (fun j hj => .inr ⟨rfl, by omega, by omega⟩) (fun j hj => ?_) (hc.mono (freeze_e0 _ _ _) fun _ _ => rfl) (.inl (by omega))⟩
  rcases hj with hj | ⟨_, h1, h2⟩
  · exact (himm _ hj).elim
  · exact h2

/-- Nothing is appended, or there is room. -/
theorem appendRes {base : Nat} {dd : Bool} (R : Rel g w tm fr hp) {T U ty e : TypeId} {i : TypeInfo} {z : Value} (hT : P.underlying T = some (.slice e)) (hi : P.info? e = some i) (hz : i.zero = some z) (hzs : z.cells.size = i.size)
    {v : Value} {tg : Tag} {n k : Nat} {cs ys : List PV} (h : ResV g w hp.length v (.sl tg n cs)) (htg : tg ≠ .sh) (hsz : ∀ s, tg = .mu s ∨ tg = .ow s → s = i.size ∨ (s = 0 ∧ n = 0)) (hlen : cs.length = n * i.size) (hys : ys.length = k * i.size)
    {x : Value} {news : List Value} (hs : Src P i.size U x k news w) (hnV : ∀ (j : Nat) (u : Value) (y : PV), news[j]? = some u → ys[j]? = some y → V g w hp.length u y)
    (hfit : (n + k) * i.bytes ≤ 140737488355328) (hby : 0 < i.bytes) {tg' : Tag} (htg' : tg' = .mu i.size ∧ ((n = 0 ∧ tg = .fr) ∨ ∃ s, tg = .mu s) ∨ tg' = .ow i.size ∧ ∀ s, tg ≠ .mu s) :
    ∃ v' w', (Builtin.append_ #[T, U] ty #[v, x]).run P w = .ok v' w' ∧ ∃ g', Rel g' w' tm fr hp ∧ X base dd g w hp g' w' hp ∧ ResV g' w' hp.length v' (.sl tg' (n + k) (cs ++ ys.map outNil)) := by
  have hnl := hs.newsLen
  -- a way that grows
  have grow : ∀ {a0 : Option Addr} {cap : Nat} {olds : List Value}, v = .slice a0 n cap → olds.length = cs.length → (Builtin.firstCells i.size n (.slice a0 n cap)).run P w.drew = .ok olds.toArray w.drew →
      (∀ (j : Nat) (u : Value) (y : PV), olds[j]? = some u → cs[j]? = some y → V g w hp.length u y) → cap < n + k →
      ∃ v' w', (Builtin.append_ #[T, U] ty #[v, x]).run P w = .ok v' w' ∧ ∃ g', Rel g' w' tm fr hp ∧ X base dd g w hp g' w' hp ∧ ResV g' w' hp.length v' (.sl tg' (n + k) (cs ++ ys.map outNil)) := by
    intro a0 cap olds hv hol hold holdV hg
    subst hv
    obtain ⟨v', w', hrun, hm, ho⟩ := appendGrow (base := base) (dd := dd) (ty := ty) R hT hi hz hzs hlen hys hol hold holdV hs hnV hg hfit hby
    rcases htg' with ⟨rfl, _⟩ | ⟨rfl, _⟩
    · exact ⟨v', w', hrun, hm⟩
    · exact ⟨v', w', hrun, ho⟩
  -- nothing comes to it
  have none' : ∀ {a0 : Option Addr} {cap : Nat}, v = .slice a0 n cap → n ≤ cap → k = 0 → (∃ g', Rel g' w tm fr hp ∧ X base dd g w hp g' w hp ∧ ResV g' w hp.length v (.sl tg' n cs)) →
      ∃ v' w', (Builtin.append_ #[T, U] ty #[v, x]).run P w = .ok v' w' ∧ ∃ g', Rel g' w' tm fr hp ∧ X base dd g w hp g' w' hp ∧ ResV g' w' hp.length v' (.sl tg' (n + k) (cs ++ ys.map outNil)) := by
    intro a0 cap hv hle hk hR
    subst hv hk
    have hy0 : ys = [] := List.eq_nil_of_length_eq_zero (by simpa using hys)
    have hn0 : news = [] := List.eq_nil_of_length_eq_zero (by simpa using hnl)
    subst hy0 hn0
    refine ⟨_, _, run_append_nothing (P := P) w T U ty e i hT hi a0 n cap hle x hs, ?_⟩
    simpa using hR
  have oldsOf : ∀ {b o cap : Nat}, Cells g w hp.length b o cs → ∃ olds : List Value, olds.length = cs.length ∧ (Builtin.firstCells i.size n (.slice (some ⟨b, o, none⟩) n cap)).run P w.drew = .ok olds.toArray w.drew ∧
      ∀ (j : Nat) (u : Value) (y : PV), olds[j]? = some u → cs[j]? = some y → V g w hp.length u y := fun {b o cap} hc => by
    obtain ⟨vs, h1, h2, h3⟩ := hc.vals
    refine ⟨vs, h1, run_firstCells_some w.drew i.size n ⟨b, o, none⟩ n cap vs (by rw [h1, hlen]) (fun j u hu => ?_), h3⟩
    rw [addr_add]; exact h2 j u hu
  have olds0 : ∀ {a0 : Option Addr} {cap : Nat}, n = 0 → cs = [] → (Builtin.firstCells i.size n (.slice a0 n cap)).run P w.drew = .ok ([] : List Value).toArray w.drew := fun {a0 cap} hn hc => by
    subst hn hc
    cases a0 with
    | none => exact run_firstCells_none w.drew i.size 0 0 cap
    | some a => exact run_firstCells_some w.drew i.size 0 a 0 cap [] (by simp) (fun j u hu => by simp at hu)
  -- a row that owns its room
  have room' : ∀ {b o cap sz : Nat}, v = .slice (some ⟨b, o, none⟩) n cap → g.own b = none → (∀ j, j < cap * sz → (w.cell? ⟨b, o + j, none⟩).isSome = true ∧ w.frozen? ⟨b, o + j, none⟩ = false) → sz = i.size → n + k ≤ cap →
      (∀ j, j < cs.length + news.length → cs.length ≤ j → ¬ g.imm b (o + j)) → Cells g w hp.length b o cs →
      ∃ w', (Builtin.append_ #[T, U] ty #[v, x]).run P w = .ok (.slice (some ⟨b, o, none⟩) (n + k) cap) w' ∧ Rel g w' tm fr hp ∧ X base dd g w hp g w' hp ∧ Ext0 g w hp.length g w' hp.length ∧ w'.heap.size = w.heap.size ∧
        (∀ j, (w'.cell? ⟨b, j, none⟩).isSome = (w.cell? ⟨b, j, none⟩).isSome ∧ w'.frozen? ⟨b, j, none⟩ = w.frozen? ⟨b, j, none⟩) ∧ Cells g w' hp.length b o (cs ++ ys.map outNil) := by
    intro b o cap sz hv hb room hsz hle himm hc
    subst hv hsz
    have hin : ∀ j, j < news.length → n * i.size + j < cap * i.size := fun j hj => by
      have : (n + k) * i.size ≤ cap * i.size := Nat.mul_le_mul_right _ hle
      rw [Nat.add_mul] at this
      omega
    have hcell : ∀ j, j < news.length → (w.cell? ⟨b, o + n * i.size + j, none⟩).isSome = true ∧ w.frozen? ⟨b, o + n * i.size + j, none⟩ = false := fun j hj => by
      have := room (n * i.size + j) (hin j hj)
      rwa [← Nat.add_assoc] at this
    have hni : ∀ j, j < news.length → ¬ g.imm b (o + n * i.size + j) := fun j hj => by
      have := himm (n * i.size + j) (by omega) (by omega)
      rwa [← Nat.add_assoc] at this
    have hrun := run_append_room_src (P := P) w T U ty e i hT hi b o n cap x k news hs hle (fun j hj => (hcell j hj).1) (fun j hj => (hcell j hj).2)
    obtain ⟨R', X'⟩ := R.pokeNone (base := base) (d := dd) hb (fun j hj => (hcell j hj).1) hni
    have e0 : Ext0 g w hp.length g (w.setCells b (o + n * i.size) news) hp.length := poke_e0 _ _ _ hni
    refine ⟨_, hrun, R', X', e0, (setCells_rest b news _ w).2.2.2.1, fun j => ⟨poke_there _ _ _ (fun j hj => (hcell j hj).1) _ _, World.frozen?_setCells b news _ w _⟩, fun j y hy => ?_⟩
    rcases append_get hy with h | ⟨z', h1, h2, rfl⟩
    · obtain ⟨u, h3, h4⟩ := hc j y h
      refine ⟨u, ?_, h4.mono e0⟩
      rw [poke_cell]
      · exact h3
      · rintro ⟨_, h5, _⟩
        have := lt_of_some h
        omega
    · have hlt := lt_of_some h2
      have hlt' : j - cs.length < news.length := by omega
      refine ⟨news[j - cs.length], ?_, ((hnV _ _ z' (List.getElem?_eq_getElem hlt') h2).mono e0).outNil⟩
      have := poke_in (w := w) b (o + n * i.size) news (fun j hj => (hcell j hj).1) (j - cs.length) _ (List.getElem?_eq_getElem hlt')
      rwa [show o + n * i.size + (j - cs.length) = o + j by omega] at this
  have hL : (cs ++ ys.map outNil).length = (n + k) * i.size := by simp [hlen, hys, Nat.add_mul]
  cases h with
  | of h =>
    cases h with
    | sl0 a _ =>
      rcases Nat.eq_zero_or_pos k with hk | hk
      · exact none' rfl (Nat.le_refl _) hk ⟨g, R, X.refl _ _ _ _ _, .of (.sl0 _ _)⟩
      · exact grow rfl rfl (olds0 rfl rfl) (fun j u y hu => by simp at hu) (by omega)
    | sh0 a cap => exact (htg rfl).elim
    | sl _ b o _ cap _ f htg2 hle hc hv =>
      rcases htg2 with rfl | ⟨rfl, rfl⟩
      · exact (htg rfl).elim
      · have hC : Cells g w hp.length b o cs := fun j y hy => ⟨f j, (hc j y hy).2, hv j y hy⟩
        have hI : ImmC g b o cs.length := fun j hj => (hc j _ (List.getElem?_eq_getElem hj)).1
        rcases Nat.eq_zero_or_pos k with hk | hk
        · refine none' rfl (Nat.le_refl _) hk ⟨g, R, X.refl _ _ _ _ _, ?_⟩
          rcases htg' with ⟨rfl, ⟨h, _⟩ | ⟨s, h⟩⟩ | ⟨rfl, _⟩
          · subst h
            have : cs = [] := List.eq_nil_of_length_eq_zero (by simpa using hlen)
            subst this
            exact .of (.sl0 _ _)
          · cases h
          · exact .full hI hC
        · obtain ⟨olds, h1, h2, h3⟩ := oldsOf (cap := cap) hC
          exact grow rfl h1 h2 h3 (by omega)
  | @full b o _ sz _ hI hC =>
    rcases Nat.eq_zero_or_pos k with hk | hk
    · refine none' rfl (Nat.le_refl _) hk ⟨g, R, X.refl _ _ _ _ _, ?_⟩
      rcases htg' with ⟨rfl, ⟨_, h⟩ | ⟨s, h⟩⟩ | ⟨rfl, _⟩
      · cases h
      · cases h
      · exact .full hI hC
    · obtain ⟨olds, h1, h2, h3⟩ := oldsOf (cap := n) hC
      exact grow rfl h1 h2 h3 (by omega)
  | @mu b o _ cap sz _ hb hlt hle hlen' room hi' hC h0 =>
    rcases Nat.lt_or_ge cap (n + k) with hg | hg
    · obtain ⟨olds, h1, h2, h3⟩ := oldsOf (cap := cap) hC
      exact grow rfl h1 h2 h3 hg
    · have hs' : sz = i.size := by
        rcases hsz sz (.inl rfl) with h | ⟨h1, h2⟩
        · exact h
        · subst h1 h2; simp at h0
      obtain ⟨w', hrun, R', X', e0, hsz', hsame, hC'⟩ := room' rfl hb room hs' hg (fun j _ _ => hi' _) hC
      refine ⟨_, w', hrun, g, R', X', ?_⟩
      rcases htg' with ⟨rfl, _⟩ | ⟨rfl, h⟩
      · subst hs'
        exact .mu hb (by rw [hsz']; exact hlt) hg hL (fun j hj => by rw [(hsame _).1, (hsame _).2]; exact room j hj) hi' hC' (h0.elim (fun h => .inl (by omega)) .inr)
      · exact (h sz rfl).elim
  | @ow b o _ cap sz _ hb hlt hle hlen' room hi' hx hC h0 =>
    rcases Nat.lt_or_ge cap (n + k) with hg | hg
    · obtain ⟨olds, h1, h2, h3⟩ := oldsOf (cap := cap) hC
      exact grow rfl h1 h2 h3 hg
    · have hs' : sz = i.size := by
        rcases hsz sz (.inr rfl) with h | ⟨h1, h2⟩
        · exact h
        · subst h1 h2; simp at h0
      obtain ⟨w', hrun, R', X', e0, hsz', hsame, hC'⟩ := room' rfl hb room hs' hg (fun j _ h2 hj => by have := hx _ hj; omega) hC
      refine ⟨_, w', hrun, ?_⟩
      subst hs'
      rcases htg' with ⟨rfl, ⟨_, h⟩ | ⟨s, h⟩⟩ | ⟨rfl, h⟩
      · cases h
      · cases h
      · have hex : ∀ j, j < (cs ++ ys.map outNil).length → (w'.cell? ⟨b, o + j, none⟩).isSome = true := fun j hj => by
          obtain ⟨u, h1, _⟩ := hC' j _ (List.getElem?_eq_getElem hj); rw [h1]; rfl
        obtain ⟨R3, x3⟩ := R'.freezeNone (base := base) (d := dd) hb o _ hex
        refine ⟨_, R3, by simpa using X'.trans x3, .ow hb (by rw [hsz']; exact hlt) hg hL (fun j hj => by rw [(hsame _).1, (hsame _).2]; exact room j hj) (fun j hj => .inr ⟨rfl, by omega, by omega⟩) (fun j hj => ?_) (hC'.mono (freeze_e0 _ _ _) fun _ _ => rfl) (h0.elim (fun h => .inl (by omega)) .inr)⟩
        rcases hj with hj | ⟨_, h1, h2⟩
        · have := hx j hj; simp; omega
        · exact h2

theorem elemT_spec {T e : TypeId} (h : elemT P T = some e) : P.underlying T = some (.slice e) := by
  unfold elemT at h
  split at h
  · rename_i hu; cases h; exact hu
  · cases h
theorem fits_spec {e : TypeId} {m : Nat} (h : fits P e m = true) : ∃ i z, P.info? e = some i ∧ i.zero = some z ∧ z.cells.size = i.size ∧ m * i.bytes ≤ 140737488355328 ∧ 0 < i.bytes ∧ sizeT P e = i.size := by
  unfold fits at h
  split at h
  · rename_i i z hi hz
    simp only [decide_eq_true_eq] at h
    unfold zeroT at hz
    rw [hi] at hz
    simp only at hz
    split at hz
    · rename_i v hv
      cases hz
      refine ⟨i, v, hi, hv, by simpa using h.2.2, h.1, h.2.1, by simp [sizeT, hi]⟩
    · cases hz
  · cases h

theorem appendExec {a : Act} {o : Oper} {c : Call} (ho : o.op = .call c) (hc : c.callee = .builtin .append) {x y : Operand} (hargs : c.args.toList = [x, y]) {T U : TypeId} (hT : c.argTypes.toList = [T, U]) {v : Value} {w' : World}
    (h : (Builtin.append_ #[T, U] o.type #[a.eval x, a.eval y]).run P w = .ok v w') : (execOp a.eval o).run P w = .ok (.value v) w' := by
  have e1 : c.args = #[x, y] := by rw [← Array.toArray_toList (xs := c.args), hargs]
  have e2 : c.argTypes = #[T, U] := by rw [← Array.toArray_toList (xs := c.argTypes), hT]
  have h1 : ∀ cs args, builtin .append c.argTypes o.type cs args = (do pure (.value (← Builtin.append_ c.argTypes o.type args)) : Sem Next) := fun _ _ => rfl
  simp only [execOp, ho, resolve, hc, invoke, Sem.run_bind, Sem.run_pure, Result.andThen_ok]
  rw [h1, e1, e2]
  have e3 : #[x, y].map a.eval = #[a.eval x, a.eval y] := by simp
  rw [e3]
  simp only [Sem.run_bind, h, Result.andThen_ok, Sem.run_pure]

/-- The slice stands at a place. -/
theorem appendGoOK {st st1 : St} {a : Act} (R : Rel g w a.tmps st.fr st.hp) {o : Oper} (hd : ∀ d, o.dst = some d → d < a.tmps.size) {c : Call} (ho : o.op = .call c) (hc : c.callee = .builtin .append)
    {x y : Operand} (hargs : c.args.toList = [x, y]) {T U e e' : TypeId} (hT : c.argTypes.toList = [T, U]) (he : P.underlying T = some (.slice e)) (hU : P.underlying U = some (.slice e'))
    {k : Nat} {ys : List PV} (hy : content st (opv st.fr y) = some (k, ys)) (hys : ys.length = k * sizeT P e) (hst : ys.all storable = true) {r : Root} {pre : Option Nat} (hv : valAt g w a.tmps r pre = some (a.eval x))
    {z : PV} (h : appendGo P st e k ys r pre = some (st1, z)) : StepOK P a o st (setSlot st1 o.dst z) g w := by
  unfold appendGo at h
  split at h
  · rename_i tg n cs hn
    split at h
    · rename_i hcond
      obtain ⟨hlen, hf⟩ := hcond
      obtain ⟨i, zv, hi, hz, hzs, hfit, hby, hsi⟩ := fits_spec hf
      obtain ⟨⟨ty, hys0⟩, _⟩ := opv_sound R a rfl y
      rw [hsi] at hlen hys
      obtain ⟨news, hsrc, hnV⟩ := content_src (w := w) R hys0 hy hys hst hU
      obtain ⟨htg, u, hu, hL⟩ := navS_at R hn
      rw [hv] at hu; cases hu
      obtain ⟨R1, f, S1, m, e1⟩ := moveOut_sound R hn
      rw [← S1.base] at m
      rw [← e1] at hL
      obtain ⟨g2, R2, X2, hres, hkeep, _⟩ := R1.release f m hL
      have fin : ∀ {tg' : Tag}, (∀ s, tg = .mu s ∨ tg = .ow s → s = i.size ∨ (s = 0 ∧ n = 0)) → (tg' = .mu i.size ∧ ((n = 0 ∧ tg = .fr) ∨ ∃ s, tg = .mu s) ∨ tg' = .ow i.size ∧ ∀ s, tg ≠ .mu s) →
          StepOK P a o st (setSlot (moveOut st r pre) o.dst (.sl tg' (n + k) (cs ++ ys.map outNil))) g w := fun {tg'} h1 h2 => by
        obtain ⟨v', w', hrun, g3, R3, X3, hres3⟩ := appendRes (base := (moveOut st r pre).base) (dd := (moveOut st r pre).dirty) (ty := o.type) R2 he hi hz hzs hres htg.1 h1 hlen hys hsrc (fun j u y h1 h2 => hkeep _ _ (by rw [e1]; exact hnV j u y h1 h2)) hfit hby h2
        obtain ⟨g4, R4, S4⟩ := R3.landDst (a := a) (st := moveOut st r pre) (dst := o.dst) hd hres3
        exact Runs.value (appendExec ho hc hargs hT hrun) ⟨g4, R4, (S1.trans (StepR.ofX rfl rfl (X2.trans X3) (by simp))).trans S4⟩
      split at h
      · split at h
        · rename_i s hs
          cases h
          rw [hsi] at hs ⊢
          exact fin (fun s' h => by rcases h with h | h <;> cases h; exact hs) (.inl ⟨rfl, .inr ⟨s, rfl⟩⟩)
        · cases h
      · split at h
        · rename_i s hs
          cases h
          rw [hsi] at hs ⊢
          exact fin (fun s' h => by rcases h with h | h <;> cases h; exact hs) (.inr ⟨rfl, fun s h => by cases h⟩)
        · cases h
      · cases h
    · cases h
  · cases h

theorem appendOK {st st1 : St} {a : Act} (R : Rel g w a.tmps st.fr st.hp) {o : Oper} (hd : ∀ d, o.dst = some d → d < a.tmps.size) {c : Call} (ho : o.op = .call c) (hc : c.callee = .builtin .append)
    {x y : Operand} (hargs : c.args.toList = [x, y]) {T U : TypeId} (hT : c.argTypes.toList = [T, U]) (hU : (elemT P U).isSome = true) {v : PV} (h : appendOp P st T x (opv st.fr y) = some (st1, v)) : StepOK P a o st (setSlot st1 o.dst v) g w := by
  obtain ⟨e', hU⟩ := Option.isSome_iff_exists.1 hU
  have hU := elemT_spec hU
  unfold appendOp at h
  split at h
  · rename_i e k ys he hy
    have he := elemT_spec he
    split at h
    · rename_i hcond
      obtain ⟨hys, hst⟩ := hcond
      obtain ⟨⟨tx, hx⟩, _⟩ := opv_sound R a rfl x
      split at h
      · rename_i r pre hxo
        rw [hxo] at hx
        exact appendGoOK R hd ho hc hargs hT he hU hy hys hst hx.hd_inv h
      · rename_i n cs hxo
        split at h
        · rename_i hcond
          obtain ⟨hlen, hf⟩ := hcond
          cases h
          obtain ⟨i, zv, hi, hz, hzs, hfit, hby, hsi⟩ := fits_spec hf
          obtain ⟨⟨ty, hys0⟩, _⟩ := opv_sound R a rfl y
          rw [hsi] at hlen hys ⊢
          obtain ⟨news, hsrc, hnV⟩ := content_src (w := w) R hys0 hy hys hst hU
          rw [hxo] at hx
          have hres : ResV g w st.hp.length (a.eval x) (.sl .fr n cs) := .of (hx.sl_inv.toV fun s n' xs => by simp)
          obtain ⟨v', w', hrun, g3, R3, X3, hres3⟩ := appendRes (base := st.base) (dd := st.dirty) (ty := o.type) R he hi hz hzs hres (by simp) (fun s h => by rcases h with h | h <;> cases h) hlen hys hsrc hnV hfit hby (tg' := if n = 0 then .mu i.size else .ow i.size) (by
            by_cases h0 : n = 0
            · exact .inl ⟨by simp [h0], .inl ⟨h0, rfl⟩⟩
            · exact .inr ⟨by simp [h0], fun s h => by cases h⟩)
          obtain ⟨g4, R4, S4⟩ := R3.landDst (a := a) (st := st) (dst := o.dst) hd hres3
          exact Runs.value (appendExec ho hc hargs hT hrun) ⟨g4, R4, (StepR.ofX rfl rfl X3 id).trans S4⟩
        · cases h
      · split at h
        · rename_i t
          exact appendGoOK R hd ho hc hargs hT he hU hy hys hst rfl h
        · cases h
      · cases h
    · cases h
  · cases h
end
end Go.PS
end

section
/-
  Slices that lie in other memory: an append onto one of them.
-/
namespace Go.PS
section
variable {g g' g1 g2 : G} {w w' w1 w2 : World} {hn hn' : Nat} {tm : Array Value} {fr fr' : Fr} {hp hp' hp1 hp2 : Heap} {P : Program} {t : Nat}

theorem rowAlive_same {i j s n s' n' : Nat} {p : Option Nat} (h : hp[i]? = some (.row s n p)) : rowAlive (hp.set i (.row s' n' p)) j = rowAlive hp j := by
  unfold rowAlive
  rw [Bool.eq_iff_iff, List.all_eq_true, List.all_eq_true]
  constructor
  · intro H x hx
    obtain ⟨k, hk, rfl⟩ := List.getElem_of_mem hx
    by_cases e : i = k
    · subst e
      have h1 := H _ (List.mem_of_getElem (i := i) (h := by rw [List.length_set]; exact hk) rfl)
      rw [List.getElem_set_self] at h1
      rw [List.getElem?_eq_getElem hk] at h
      rw [Option.some.inj h]; cases p <;> exact h1
    · exact H _ (List.mem_of_getElem (i := k) (h := by rw [List.length_set]; exact hk) (by rw [List.getElem_set_ne e]))
  · intro H x hx
    obtain ⟨k, hk, rfl⟩ := List.getElem_of_mem hx
    rw [List.length_set] at hk
    by_cases e : i = k
    · subst e
      rw [List.getElem_set_self]
      have h1 := H _ (List.getElem_mem hk)
      rw [List.getElem?_eq_getElem hk] at h
      rw [Option.some.inj h] at h1; cases p <;> exact h1
    · rw [List.getElem_set_ne e]; exact H _ (List.getElem_mem hk)

theorem Rel.setRow (R : Rel g w tm fr hp) {i s n s' : Nat} {p : Option Nat} (h : hp[i]? = some (.row s n p)) (ho : s' = 0 ∨ rowAlive hp i = false) : Rel g w tm fr (hp.set i (.row s' n p)) := by
  refine ⟨fun t => by rw [List.length_set]; exact R.slots t, fun j cs hj => ?_, fun j ks vs hj => ?_, R.immCell, R.ownLt, R.live, R.size, fun j s1 n1 p1 hj => ?_, fun j T e bs hj => ?_⟩
  · rw [List.length_set]
    rw [List.getElem?_set] at hj
    split at hj
    · split at hj <;> cases hj
    · exact R.heap j cs hj
  · rw [List.length_set]
    rw [List.getElem?_set] at hj
    split at hj
    · split at hj <;> cases hj
    · exact R.maps j ks vs hj
  · rw [List.getElem?_set] at hj
    split at hj
    · rename_i e; subst e
      split at hj
      · cases hj
        refine ⟨(R.rows.1 i _ _ _ h).1, fun h0 ha => ?_⟩
        rw [rowAlive_same h] at ha
        rcases ho with ho | ho
        · omega
        · rw [ho] at ha; cases ha
      · cases hj
    · exact ⟨(R.rows.1 j _ _ _ hj).1, fun h0 ha => (R.rows.1 j _ _ _ hj).2 h0 (by rw [rowAlive_same h] at ha; exact ha)⟩
  · rw [List.getElem?_set] at hj
    split at hj
    · split at hj <;> cases hj
    · exact R.rows.2 j T e bs hj

/-- The storage of a row is given free. -/
theorem Rel.freeRow {base : Nat} {d : Bool} (R : Rel g w tm fr hp) {i n : Nat} {p : Option Nat} (h : hp[i]? = some (.row 0 n p)) {b : Nat} (how : g.own b = some (.obj i)) (hd : d = false → base ≤ i) :
    Rel (g.free b) w tm fr hp ∧ X base d g w hp (g.free b) w hp := by
  have fs : ∀ b' k, g.own b' = some k → k ≠ .obj i → SameBlk g w (g.free b) w b' := fun b' k hk hne =>
    ⟨by simp only [G.free]; rw [if_neg]; rintro rfl; rw [how] at hk; cases hk; exact hne rfl, rfl, fun _ => Iff.rfl⟩
  have e0 : Ext0 g w hp.length (g.free b) w hp.length := ⟨fun _ _ h => ⟨h, rfl⟩, fun _ _ => rfl, fun _ _ => rfl, Nat.le_refl _⟩
  have c : Chg (fun r pre => r = .heap i ∧ pre = none) (fun _ _ => False) g w hp.length (g.free b) w hp.length :=
    ⟨e0, fun _ _ _ => rfl, fun b' r pre hb' _ => (fs b' _ hb' (by simp)).same _, fun b' t hb' _ => (fs b' _ hb' (by simp)).same _,
      fun b' j hb' hC => (fs b' _ hb' (fun e => by cases e; exact hC ⟨rfl, rfl⟩)).same _⟩
  refine ⟨R.change c (fun t _ => ⟨fun h => (by cases h.1), fun cs _ j y _ _ => ⟨fun h => (by cases h.1), fun _ _ _ _ _ _ _ _ => id⟩, fun _ _ _ _ _ _ _ _ => id⟩)
    (fun t r pre hr hC => by obtain ⟨rfl, rfl⟩ := hC; have := (R.ref_ok hr).2; have := (R.rows.1 i _ _ _ h).1; omega)
    (fun t r pre _ u hu => by cases pre <;> cases r <;> exact hu)
    (fun j cs hc => ⟨fun e => (by cases e.1; rw [h] at hc; cases hc), fun q y _ _ => ⟨fun e => (by cases e.2), fun _ _ _ _ _ _ _ _ => id⟩, fun _ _ _ _ _ _ _ => id⟩)
    (fun j ks vs hc => ⟨fun e => (by cases e.1; rw [h] at hc; cases hc), fun _ _ _ _ h => h⟩) R.immCell
    (fun b' k hk => by
      simp only [G.free] at hk
      split at hk
      · cases hk
      · exact R.ownLt _ _ hk)
    (fun j s n q hj h0 _ e => by cases e.1; rw [h] at hj; cases hj; omega)
    (fun j T e bs hj b' hb' => fs b' _ hb' (fun e => by cases e; rw [h] at hj; cases hj)), e0, rfl, rfl, rfl, Nat.le_refl _, fun b' hb' => ?_, fun hd' j hj => ⟨rfl, fun _ => rfl, fun b' hb' => ?_⟩⟩
  · rcases hb' with h | h <;> exact fs b' _ h (by simp)
  · rcases hb' with h | ⟨_, h⟩
    · exact fs b' _ h (fun e => by cases e; have := hd hd'; omega)
    · exact fs b' _ h (by simp)

/-- The ghost with a new row's storage. -/
def G.row (g : G) (b : Nat) (own : Bool) (i : Nat) (l : Nat × Nat) (cap : Nat) : G :=
  { g with own := fun b' => if own = true ∧ b' = b then some (.obj i) else g.own b', loc := fun r pre => if r = .heap i ∧ pre = none then l else g.loc r pre, cap := fun j => if j = i then cap else g.cap j }

theorem Rel.landRow0 {base : Nat} {d : Bool} (R : Rel g w tm fr hp) {b o m cap s : Nat} {xs : List PV} (par : Option Nat) (hbase : base ≤ hp.length) (own : Bool) (hown : own = true → g.own b = none ∧ b < w.heap.size)
    (hI : ImmC g b o xs.length) (hC : Cells g w hp.length b o xs) (hle : m ≤ cap) (hm : 0 < m)
    (hr : (own = false ∧ cap = m) ∨ (own = true ∧ (∀ j, j < cap * s → (w.cell? ⟨b, o + j, none⟩).isSome = true ∧ w.frozen? ⟨b, o + j, none⟩ = false) ∧ ∀ j, g.imm b j → j < o + m * s)) :
    ∃ g', Rel g' w tm fr (hp ++ [.row s m par]) ∧ X base d g w hp g' w (hp ++ [.row s m par]) ∧ V g' w (hp.length + 1) (.slice (some ⟨b, o, none⟩) m cap) (.rf hp.length m xs) := by
  have os : ∀ b' k, g.own b' = some k → SameBlk g w (g.row b own hp.length (b, o) cap) w b' := fun b' k hk =>
    ⟨(by simp only [G.row]; rw [if_neg]; rintro ⟨ho, rfl⟩; rw [(hown ho).1] at hk; cases hk), rfl, fun _ => Iff.rfl⟩
  have hloc : ∀ i, i < hp.length → ∀ pre, (g.row b own hp.length (b, o) cap).loc (.heap i) pre = g.loc (.heap i) pre := fun i hi pre => by
    simp only [G.row]; rw [if_neg]; rintro ⟨e, _⟩; cases e; omega
  have e0 : Ext0 g w hp.length (g.row b own hp.length (b, o) cap) w hp.length :=
    ⟨fun _ _ h => ⟨h, rfl⟩, fun i hi => hloc i hi none, fun i hi => by simp only [G.row]; rw [if_neg (by omega)], Nat.le_refl _⟩
  have c : Chg (fun r pre => r = .heap hp.length ∧ pre = none) (fun _ _ => False) g w hp.length (g.row b own hp.length (b, o) cap) w hp.length :=
    ⟨e0, fun r pre hC => by simp only [G.row]; rw [if_neg hC], fun b' r pre hb' _ => (os b' _ hb').same _, fun b' t hb' _ => (os b' _ hb').same _, fun b' j hb' _ => (os b' _ hb').same _⟩
  have R2 : Rel (g.row b own hp.length (b, o) cap) w tm fr hp :=
    R.change c (fun t _ => ⟨fun h => (by cases h.1), fun cs _ j y _ _ => ⟨fun h => (by cases h.1), fun _ _ _ _ _ _ _ _ => id⟩, fun _ _ _ _ _ _ _ _ => id⟩)
      (fun t r pre hr hC => by obtain ⟨rfl, rfl⟩ := hC; have := R.ref_lt hr; omega)
      (fun t r pre h u hu => valAt_ref R h hu (fun _ _ => by simp only [G.row]; rw [if_neg]; rintro ⟨rfl, _⟩; have := R.ref_lt h; omega) (fun _ _ => rfl))
      (fun j cs hc => ⟨fun e => (by cases e.1; have := lt_of_some hc; omega), fun q y _ _ => ⟨fun e => (by cases e.2), fun _ _ _ _ _ _ _ _ => id⟩, fun _ _ _ _ _ _ _ => id⟩)
      (fun j ks vs hc => ⟨fun e => (by cases e.1; have := lt_of_some hc; omega), fun _ _ _ _ h => h⟩) R.immCell
      (fun b' k hk => by
        simp only [G.row] at hk
        split at hk
        · rename_i h; obtain ⟨h1, rfl⟩ := h; exact (hown h1).2
        · exact R.ownLt _ _ hk)
      (fun j s n q hj _ _ e => by cases e.1; have := lt_of_some hj; omega)
      (fun j T e bs _ b' hb' => os b' _ hb')
  have hcap : (g.row b own hp.length (b, o) cap).cap hp.length = cap := by simp [G.row]
  have hl0 : (g.row b own hp.length (b, o) cap).loc (.heap hp.length) none = (b, o) := by simp [G.row]
  have R3 := R2.push (b := b) (nd := .row s m par) ⟨by rw [hcap]; omega, by
    rcases hr with ⟨_, h⟩ | ⟨h1, h2, h3⟩
    · exact .inl (hcap.trans h)
    · exact .inr ⟨b, o, hl0, by simp [G.row, h1], by rw [hcap]; exact h2, h3⟩⟩
  refine ⟨_, R3, ⟨⟨e0.imm, e0.loc, e0.cap, by simp⟩, rfl, rfl, rfl, Nat.le_refl _, fun b' hb' => ?_, fun hd i hi => ⟨by rw [List.getElem?_append_left (by omega)], fun pre => hloc i (by omega) pre, fun b' hb' => ?_⟩⟩, ?_⟩
  · rcases hb' with h | h <;> exact os b' _ h
  · rcases hb' with h | ⟨_, h⟩ <;> exact os b' _ h
  · exact V.rf_of (Nat.lt_succ_self _) hl0 hcap hle hm hI (hC.mono ⟨e0.imm, e0.loc, e0.cap, Nat.le_succ _⟩ fun _ _ => rfl)

theorem Rel.landRow {base : Nat} {d : Bool} (R : Rel g w tm fr hp) {m s : Nat} {xs : List PV} {v : Value} {tg : Tag} (par : Option Nat) (hbase : base ≤ hp.length) (h : ResV g w hp.length v (.sl tg m xs)) (htg : tg = .mu s ∨ tg = .ow s) (hm : 0 < m) :
    ∃ g', Rel g' w tm fr (hp ++ [.row s m par]) ∧ X base d g w hp g' w (hp ++ [.row s m par]) ∧ V g' w (hp.length + 1) v (.rf hp.length m xs) := by
  cases h with
  | of hV =>
    cases hV with
    | sl0 a tg => omega
    | sh0 a cap => omega
    | sl tg b o n cap cs f ht hle hc hv => rcases ht with rfl | ⟨rfl, _⟩ <;> rcases htg with e | e <;> cases e
  | @mu b o n cap sz cs hb hlt hle hlen room hi hc h0 =>
    have es : sz = s := by rcases htg with e | e <;> cases e; rfl
    subst es
    have hex : ∀ j, j < xs.length → (w.cell? ⟨b, o + j, none⟩).isSome = true := fun j hj => by
      obtain ⟨u, h1, _⟩ := hc j _ (List.getElem?_eq_getElem hj); rw [h1]; rfl
    obtain ⟨R1, X1⟩ := R.freezeNone (base := base) (d := d) hb o xs.length hex
    obtain ⟨g', R2, X2, hV⟩ := R1.landRow0 (base := base) (d := d) (s := sz) par hbase true (fun _ => ⟨hb, hlt⟩) (fun j hj => .inr ⟨rfl, by omega, by omega⟩) (hc.mono (freeze_e0 b o xs.length) fun _ _ => rfl) hle hm (.inr ⟨rfl, room, fun j hj => by
      rcases hj with hj | ⟨_, h1, h2⟩
      · exact (hi j hj).elim
      · omega⟩)
    exact ⟨g', R2, by simpa using X1.trans X2, hV⟩
  | @ow b o n cap sz cs hb hlt hle hlen room hi hx hc h0 =>
    have es : sz = s := by rcases htg with e | e <;> cases e; rfl
    subst es
    exact R.landRow0 par hbase true (fun _ => ⟨hb, hlt⟩) hi hc hle hm (.inr ⟨rfl, room, fun j hj => by have := hx j hj; omega⟩)
  | full hi hc => exact R.landRow0 par hbase false (fun h => by cases h) hi hc (Nat.le_refl _) hm (.inl ⟨rfl, rfl⟩)

theorem rowDead (hp : Heap) (i s m : Nat) : rowAlive (hp ++ [.row s m (some i)]) i = false := by
  unfold rowAlive
  rw [List.all_append]
  simp

theorem appendNestOK {st st1 : St} {a : Act} (R : Rel g w a.tmps st.fr st.hp) (hb : st.base ≤ st.hp.length) {o : Oper} (hd : ∀ d, o.dst = some d → d < a.tmps.size) {c : Call} (ho : o.op = .call c) (hc : c.callee = .builtin .append)
    {x y : Operand} (hargs : c.args.toList = [x, y]) {T U : TypeId} (hT : c.argTypes.toList = [T, U]) (hU : (elemT P U).isSome = true) {z : PV} (h : appendNest P st T (opv st.fr x) (opv st.fr y) = some (st1, z)) : StepOK P a o st (setSlot st1 o.dst z) g w := by
  obtain ⟨e', hU⟩ := Option.isSome_iff_exists.1 hU
  have hU := elemT_spec hU
  unfold appendNest at h
  split at h
  · rename_i e k ys he hy
    have he := elemT_spec he
    split at h
    · rename_i hcond
      obtain ⟨hys, hst, hs0, hk0⟩ := hcond
      obtain ⟨⟨tx, hx⟩, _⟩ := opv_sound R a rfl x
      obtain ⟨⟨ty, hys0⟩, _⟩ := opv_sound R a rfl y
      split at h
      · rename_i i n cs hxo
        rw [hxo] at hx
        split at h
        · rename_i s m p hrow
          split at h
          · rename_i hcd
            obtain ⟨rfl, hs, hlen, hal, hf⟩ := hcd
            cases h
            obtain ⟨it, zv, hi, hz, hzs, hfit, hby, hsi⟩ := fits_spec hf
            obtain ⟨b, oo, cap, hv, hle, hn0, hin, ⟨hloc, hcap⟩, hI, hC⟩ := hx.rf_inv.rf_row
            have hlt := lt_of_some hrow
            have hh0 : (st.hp.set i (.row 0 m p)).length = st.hp.length := List.length_set
            have R0 := R.setRow hrow (s' := 0) (.inl rfl)
            have hrow0 : (st.hp.set i (.row 0 m p))[i]? = some (.row 0 m p) := List.getElem?_set_self hlt
            have hdd : (st.dirty || decide (i < st.base)) = false → st.base ≤ i := fun h => by
              rw [Bool.or_eq_false_iff] at h
              have := of_decide_eq_false h.2; omega
            have X0 : X st.base (st.dirty || decide (i < st.base)) g w st.hp g w (st.hp.set i (.row 0 m p)) :=
              ⟨⟨fun _ _ h => ⟨h, rfl⟩, fun _ _ => rfl, fun _ _ => rfl, by rw [hh0]; exact Nat.le_refl _⟩, rfl, rfl, rfl, Nat.le_refl _, fun _ _ => SameBlk.refl _ _ _, fun hd' j hj => ⟨by
                have := hdd hd'
                rw [List.getElem?_set_ne (by omega)], fun _ => rfl, fun _ _ => SameBlk.refl _ _ _⟩⟩
            have release : ∃ g1, Rel g1 w a.tmps st.fr (st.hp.set i (.row 0 m p)) ∧ X st.base (st.dirty || decide (i < st.base)) g w (st.hp.set i (.row 0 m p)) g1 w (st.hp.set i (.row 0 m p)) ∧
                ResV g1 w (st.hp.set i (.row 0 m p)).length (a.eval x) (.sl (.ow s) m cs) ∧ ∀ u y, V g w st.hp.length u y → V g1 w (st.hp.set i (.row 0 m p)).length u y := by
              rcases (R.rows.1 i s m p hrow).2 (by omega) hal with hfu | ⟨b', o', hl, how, hroom, hx'⟩
              · have ec : cap = m := by rw [← hcap, hfu]
                subst ec
                refine ⟨g, R0, X.refl _ _ _ _ _, ?_, fun u y h => by rw [hh0]; exact h⟩
                rw [hh0, hv]; exact .full hI hC
              · rw [hloc] at hl; cases hl
                obtain ⟨R1, X1⟩ := R0.freeRow hrow0 how hdd
                have e0 : Ext0 g w st.hp.length (g.free b) w st.hp.length := ⟨fun _ _ h => ⟨h, rfl⟩, fun _ _ => rfl, fun _ _ => rfl, Nat.le_refl _⟩
                refine ⟨g.free b, R1, X1, ?_, fun u y h => by rw [hh0]; exact h.mono e0⟩
                rw [hh0, hv]
                exact .ow (by simp [G.free]) (R.ownLt _ _ how) hle hlen (by rw [hcap] at hroom; exact hroom) hI (fun j hj => by have := hx' j hj; omega) (hC.mono e0 fun _ _ => rfl) (.inl hn0)
            obtain ⟨g1, R1, X1, hres, keep⟩ := release
            have hys' := hys
            rw [hsi] at hys'
            have hs' : s = it.size := hs.trans hsi
            subst hs'
            obtain ⟨news, hsrc, hnV⟩ := content_src (w := w) R hys0 hy hys' hst hU
            obtain ⟨v', w', hrun, g2, R2, X2, hres2⟩ := appendRes (base := st.base) (dd := st.dirty || decide (i < st.base)) (ty := o.type) R1 he hi hz hzs hres (by simp) (fun s' h => by rcases h with h | h <;> cases h; exact .inl rfl) hlen hys' hsrc (fun j u y h1 h2 => keep _ _ (hnV j u y h1 h2)) hfit hby (tg' := .ow it.size) (.inr ⟨rfl, fun s h => by cases h⟩)
            obtain ⟨g3, R3, X3, hV3⟩ := R2.landRow (base := st.base) (d := st.dirty || decide (i < st.base)) (some i) (by rw [hh0]; exact hb) hres2 (.inr rfl) (by omega)
            have hrow3 : (st.hp.set i (.row 0 m p) ++ [.row it.size (m + k) (some i)])[i]? = some (.row 0 m p) := by rw [List.getElem?_append_left (by rw [hh0]; exact hlt)]; exact hrow0
            have R4 := R3.setRow (s' := it.size) hrow3 (.inr (rowDead _ _ _ _))
            have ehp : (st.hp.set i (.row 0 m p) ++ [Node.row it.size (m + k) (some i)]).set i (.row it.size m p) = st.hp ++ [.row it.size (m + k) (some i)] := by
              rw [List.set_append_left _ _ (by rw [hh0]; exact hlt), List.set_set]
              congr 1
              apply List.ext_getElem?
              intro q
              by_cases hq : i = q
              · subst hq; rw [List.getElem?_set_self hlt]; exact hrow.symm
              · rw [List.getElem?_set_ne hq]
            rw [ehp] at R4
            rw [hh0] at hV3
            have XT := ((X0.trans X1).trans X2).trans X3
            have XF : X st.base (st.dirty || decide (i < st.base)) g w st.hp g3 w' (st.hp ++ [.row it.size (m + k) (some i)]) := by
              simp only [Bool.or_self] at XT
              exact ⟨⟨XT.e0.imm, XT.e0.loc, XT.e0.cap, by simp⟩, XT.os, XT.tape, XT.out, XT.size, XT.far, fun hdf j hj => ⟨by rw [List.getElem?_append_left (by omega)], (XT.clean hdf j hj).2.1, (XT.clean hdf j hj).2.2⟩⟩
            have S : StepR st { st with hp := st.hp ++ [.row it.size (m + k) (some i)], dirty := st.dirty || decide (i < st.base) } g w g3 w' := ⟨rfl, fun h => by simp [h], XF⟩
            have hVf : V g3 w' (st.hp ++ [Node.row it.size (m + k) (some i)]).length v' (.rf st.hp.length (m + k) (cs ++ ys.map outNil)) := by
              rw [List.length_append]; exact hV3
            exact Runs.value (appendExec ho hc hargs hT hrun) ⟨g3, Rel.putFlat (st := { st with hp := st.hp ++ [.row it.size (m + k) (some i)], dirty := st.dirty || decide (i < st.base) }) R4 hd (fun t => hVf.slot t) hVf.lv, S.setSlot _ _⟩
          · cases h
        · cases h
      · rename_i hxo
        rw [hxo] at hx
        split at h
        · rename_i hf
          cases h
          obtain ⟨it, zv, hi, hz, hzs, hfit, hby, hsi⟩ := fits_spec hf
          have hV0 : V g w st.hp.length (a.eval x) (.sl (.mu 0) 0 []) := lasting_V hx.sl_inv rfl
          rw [hsi] at hys ⊢
          obtain ⟨news, hsrc, hnV⟩ := content_src (w := w) R hys0 hy hys hst hU
          obtain ⟨v', w', hrun, g2, R2, X2, hres2⟩ := appendRes (base := st.base) (dd := st.dirty) (ty := o.type) (n := 0) (cs := []) R he hi hz hzs (.of hV0) (by simp) (fun s' h => by rcases h with h | h <;> cases h; exact .inr ⟨rfl, rfl⟩) (by simp) hys hsrc hnV (by rw [Nat.zero_add]; exact hfit) hby (tg' := .mu it.size) (.inl ⟨rfl, .inr ⟨0, rfl⟩⟩)
          rw [Nat.zero_add, List.nil_append] at hres2
          obtain ⟨g3, R3, X3, hV3⟩ := R2.landRow (base := st.base) (d := st.dirty) none hb hres2 (.inl rfl) hk0
          have XF : X st.base st.dirty g w st.hp g3 w' (st.hp ++ [.row it.size k none]) := by simpa using X2.trans X3
          have S : StepR st { st with hp := st.hp ++ [.row it.size k none] } g w g3 w' := ⟨rfl, id, XF⟩
          have hVf : V g3 w' (st.hp ++ [Node.row it.size k none]).length v' (.rf st.hp.length k (ys.map outNil)) := by
            rw [List.length_append]; exact hV3
          exact Runs.value (appendExec ho hc hargs hT hrun) ⟨g3, Rel.putFlat (st := { st with hp := st.hp ++ [.row it.size k none] }) R3 hd (fun t => hVf.slot t) hVf.lv, S.setSlot _ _⟩
        · cases h
      · cases h
    · cases h
  · cases h
end
end Go.PS
end

section
/-
  The built-in copy; bytes of a text; loads.
-/
namespace Go.PS
section
variable {g g' g1 g2 : G} {w w' w1 w2 : World} {hn hn' : Nat} {tm : Array Value} {fr fr' : Fr} {hp hp' hp1 hp2 : Heap} {P : Program} {t : Nat}

/-- Values that last, written into a variable's cells. -/
theorem storeVals (P : Program) {st : St} (R : Rel g w tm st.fr st.hp) {r : Root} {cs : List PV} (hr : rootPV st r = .box cs) {vs : List Value} {ys : List PV} (hlen : vs.length = ys.length)
    (hV : ∀ (j : Nat) (v : Value) (y : PV), vs[j]? = some v → ys[j]? = some y → V g w st.hp.length v y) (hst : ys.all storable = true) (off : Nat) (hle : off + ys.length ≤ cs.length) :
    let st' := putRoot { st with fr := killFr (.subs r) st.fr } r (.box (splice cs off ys))
    ∃ b g' , g.loc r none = (b, 0) ∧ (∀ j, j < vs.length → (w.cell? ⟨b, off + j, none⟩).isSome = true ∧ w.frozen? ⟨b, off + j, none⟩ = false) ∧ Rel g' (w.setCells b off vs) tm st'.fr st'.hp ∧ StepR st st' g w g' (w.setCells b off vs) := by
  intro st'
  let t0 := tm.size
  have hg : get st.fr t0 = .undef := by
    by_cases h : get st.fr t0 = .undef
    · exact h
    · exact (Nat.lt_irrefl _ (R.size t0 h)).elim
  have hr0 : ∀ t' pre, refOf (get st.fr t') ≠ some (.slot t0, pre) := fun t' pre e => by
    have := R.live t' t0 pre e
    rw [hg] at this
    cases pre <;> cases this
  have T : TakenV g w st.hp.length tm st.fr st.hp st.base st.dirty [(t0, .nilp)] (.agg vs.toArray) (.agg ys) :=
    .agg t0 vs.toArray ys hg hr0 (by simpa using hlen) (fun j v y h1 h2 => .of (hV j v y (by simpa using h1) h2)) fun d hd e => by
      subst e; simp [get] at hd
  obtain ⟨b, g2, w2, hl, hcs, rfl, hthere, hone, R2, S2⟩ := storeBox (P := P) R T hst hr off hle (.subs r) (fun j _ => by simp [Kill.hits]) 0
  exact ⟨b, g2, hl, fun j hj => hthere j (by simpa [Value.cells] using hj), by simpa [Value.cells, retag, cellsOf] using R2, by simpa [Value.cells, retag, cellsOf] using S2⟩

/-- What a copy reads, from the front. -/
theorem copySrc_sound {st : St} (R : Rel g w tm st.fr st.hp) {e : TypeId} {v : Value} {x : PV} {k : Nat} {ys : List PV} (hx : Slot g w st.hp.length tm t v x) (h : copySrc P e st x = some (k, ys)) (hlen : ys.length = k * sizeT P e) (hst : ys.all storable = true) :
    (Builtin.lenOf v).run P w = .ok k w ∧ ∀ m, m ≤ k → ∃ news : List Value, news.length = m * sizeT P e ∧ (Builtin.firstCells (sizeT P e) m v).run P w = .ok news.toArray w ∧ (∀ u ∈ news, u.oneCell' = true) ∧
      ∀ (j : Nat) (u : Value) (y : PV), news[j]? = some u → (ys.take (m * sizeT P e))[j]? = some y → V g w st.hp.length u y := by
  have slice : ∀ {x : PV}, Slot g w st.hp.length tm t v x → content st x = some (k, ys) → (Builtin.lenOf v).run P w = .ok k w ∧ ∀ m, m ≤ k → ∃ news : List Value, news.length = m * sizeT P e ∧ (Builtin.firstCells (sizeT P e) m v).run P w = .ok news.toArray w ∧ (∀ u ∈ news, u.oneCell' = true) ∧
      ∀ (j : Nat) (u : Value) (y : PV), news[j]? = some u → (ys.take (m * sizeT P e))[j]? = some y → V g w st.hp.length u y := by
    intro x hx h
    rcases content_sound R hx h with ⟨rfl, rfl, a, cap, rfl⟩ | ⟨b, o, cap, rfl, hle, hc⟩
    · refine ⟨rfl, fun m hm => ⟨[], (by have : m = 0 := (by omega); subst this; simp), ?_, (fun u hu => by cases hu), fun j u y hu => by simp at hu⟩⟩
      have : m = 0 := by omega
      subst this
      cases a with
      | none => exact run_firstCells_none w _ 0 0 cap
      | some a => exact run_firstCells_some w _ 0 a 0 cap [] (by simp) (fun j u hu => by simp at hu)
    · refine ⟨rfl, fun m hm => ?_⟩
      obtain ⟨vs, h1, h2, h3⟩ := hc.vals
      have hms : m * sizeT P e ≤ ys.length := by rw [hlen]; exact Nat.mul_le_mul_right _ hm
      have hl : (vs.take (m * sizeT P e)).length = m * sizeT P e := by rw [List.length_take]; omega
      have hsub : ∀ (j : Nat) (u : Value), (vs.take (m * sizeT P e))[j]? = some u → vs[j]? = some u := fun j u hu => by
        rw [List.getElem?_take] at hu; split at hu
        · exact hu
        · cases hu
      refine ⟨vs.take (m * sizeT P e), hl, run_firstCells_some w _ m ⟨b, o, none⟩ k cap _ hl (fun j u hu => ?_), fun u hu => ?_, fun j u y hu hy => ?_⟩
      · rw [addr_add]; exact h2 j u (hsub j u hu)
      · obtain ⟨j, hj, rfl⟩ := List.mem_iff_getElem.1 (List.mem_of_mem_take hu)
        have hj' : j < ys.length := by omega
        exact (h3 j _ _ (List.getElem?_eq_getElem hj) (List.getElem?_eq_getElem hj')).oneCell (List.all_eq_true.1 hst _ (List.getElem_mem hj'))
      · refine h3 j u y (hsub j u hu) ?_
        rw [List.getElem?_take] at hy; split at hy
        · exact hy
        · cases hy
  unfold copySrc at h
  split at h
  · rename_i s
    split at h
    · rename_i he
      cases h
      obtain ⟨b, rfl, rfl⟩ := hx.str_inv
      rw [he] at hlen ⊢
      refine ⟨by rw [size_toList]; rfl, fun m hm => ⟨((b.extract 0 m).data.toList.map fun c => Value.int .u8 c.toNat), ?_, ?_, fun u hu => ?_, fun j u y hu hy => ?_⟩⟩
      · have : b.data.toList.length = b.size := by rw [Array.length_toList]; rfl
        simp only [List.length_map, Array.length_toList, ByteArray.data_extract, Array.size_extract, Nat.mul_one]
        have : b.data.size = b.size := rfl
        simp at hm
        omega
      · simp only [Builtin.firstCells, Sem.run_pure, ByteArray.data_extract]
        congr 1
        apply Array.ext'
        simp
      · obtain ⟨_, _, rfl⟩ := List.mem_map.1 hu; rfl
      · simp only [ByteArray.data_extract, Array.toList_extract, List.extract_eq_take_drop, List.drop_zero, Nat.sub_zero, List.getElem?_map, Option.map_eq_some_iff, List.getElem?_take, Nat.mul_one] at hu
        obtain ⟨c, hc, rfl⟩ := hu
        rw [List.getElem?_take, Nat.mul_one] at hy
        split at hc
        · rename_i hlt
          rw [if_pos hlt] at hy
          simp only [ofBytes, List.getElem?_map, hc, Option.map_some, Option.some.injEq] at hy
          subst hy
          exact .int _ _
        · cases hc
    · cases h
  · exact slice hx h

theorem copyExec {a : Act} {o : Oper} {c : Call} (ho : o.op = .call c) (hc : c.callee = .builtin .copy) {x y : Operand} (hargs : c.args.toList = [x, y]) {T U : TypeId} (hT : c.argTypes.toList = [T, U]) {v : Value} {w' : World}
    (h : (Builtin.copy_ #[T, U] o.type #[a.eval x, a.eval y]).run P w = .ok v w') : (execOp a.eval o).run P w = .ok (.value v) w' := by
  have e1 : c.args = #[x, y] := by rw [← Array.toArray_toList (xs := c.args), hargs]
  have e2 : c.argTypes = #[T, U] := by rw [← Array.toArray_toList (xs := c.argTypes), hT]
  have h1 : ∀ cs args, builtin .copy c.argTypes o.type cs args = (do pure (.value (← Builtin.copy_ c.argTypes o.type args)) : Sem Next) := fun _ _ => rfl
  simp only [execOp, ho, resolve, hc, invoke, Sem.run_bind, Sem.run_pure, Result.andThen_ok]
  rw [h1, e1, e2]
  have e3 : #[x, y].map a.eval = #[a.eval x, a.eval y] := by simp
  rw [e3]
  simp only [Sem.run_bind, h, Result.andThen_ok, Sem.run_pure]

/-- The model's copy, where the cells that it writes are there. -/
theorem run_copy_to {T U ty e : TypeId} {i : TypeInfo} (hT : P.underlying T = some (.slice e)) (hi : P.info? e = some i) {b o n cap k : Nat} {x : Value} (hl : (Builtin.lenOf x).run P w = .ok k w) {news : List Value}
    (hf : (Builtin.firstCells i.size (min k n) x).run P w = .ok news.toArray w) (hone : ∀ u ∈ news, u.oneCell' = true) (hthere : ∀ j, j < news.length → (w.cell? ⟨b, o + j, none⟩).isSome = true ∧ w.frozen? ⟨b, o + j, none⟩ = false) :
    (Builtin.copy_ #[T, U] ty #[.slice (some ⟨b, o, none⟩) n cap, x]).run P w = .ok (.int .i64 (min k n : Nat)) (w.setCells b o news) := by
  have hst := run_storeCells_cells (P := P) b o news 0 w (by simpa using fun j hj => (hthere j hj).1) (by simpa using fun j hj => (hthere j hj).2) hone
  simp only [Nat.add_zero] at hst
  have hf' : (Builtin.firstCells i.size (Nat.min k n) x).run P w = .ok news.toArray w := hf
  simp [Builtin.copy_, run_underlying hT, sizeOf, typeInfo, hi, hl, hf', hst, goInt]
/-- Nothing is copied into an empty slice. -/
theorem run_copy_empty {T U ty e : TypeId} {i : TypeInfo} (hT : P.underlying T = some (.slice e)) (hi : P.info? e = some i) {a : Option Addr} {cap k : Nat} {x : Value} (hl : (Builtin.lenOf x).run P w = .ok k w)
    (hf : (Builtin.firstCells i.size 0 x).run P w = .ok #[] w) : (Builtin.copy_ #[T, U] ty #[.slice a 0 cap, x]).run P w = .ok (.int .i64 0) w := by
  have h0 : Nat.min k 0 = 0 := by simp [Nat.min_def]
  cases a <;> simp [Builtin.copy_, run_underlying hT, sizeOf, typeInfo, hi, hl, h0, hf, goInt, storeCells]

theorem copyOK {st st1 : St} {a : Act} (Tb : Tabs P) (R : Rel g w a.tmps st.fr st.hp) {o : Oper} (hd : ∀ d, o.dst = some d → d < a.tmps.size) {c : Call} (ho : o.op = .call c) (hc : c.callee = .builtin .copy)
    {x y : Operand} (hargs : c.args.toList = [x, y]) {T U : TypeId} (hT : c.argTypes.toList = [T, U]) {n : Nat} (h : copyOp P st T (opv st.fr x) (opv st.fr y) = some (st1, n)) : StepOK P a o st (setSlot st1 o.dst (.int .i64 n)) g w := by
  unfold copyOp at h
  split at h
  · cases h
  · rename_i e he
    have he := elemT_spec he
    obtain ⟨i, hi⟩ := Tb.slice _ _ he
    have hsi : sizeT P e = i.size := by simp [sizeT, hi]
    split at h
    · cases h
    · rename_i k ys hsrc
      split at h
      · rename_i hcond
        obtain ⟨hlen, hst⟩ := hcond
        obtain ⟨⟨tx, hx⟩, _⟩ := opv_sound R a rfl x
        obtain ⟨⟨ty, hy⟩, _⟩ := opv_sound R a rfl y
        obtain ⟨hlof, hfirst⟩ := copySrc_sound (P := P) R hy hsrc hlen hst
        have empty : ∀ {a0 : Option Addr} {cap : Nat}, a.eval x = .slice a0 0 cap → (Builtin.copy_ #[T, U] o.type #[a.eval x, a.eval y]).run P w = .ok (.int .i64 0) w := fun {a0 cap} hv => by
          obtain ⟨news, h1, h2, _, _⟩ := hfirst 0 (by omega)
          have : news = [] := List.eq_nil_of_length_eq_zero (by simpa using h1)
          subst this
          rw [hsi] at h2
          rw [hv]
          exact run_copy_empty he hi hlof h2
        have done' : ∀ {g' : G} {w' : World} {m : Nat} {st2 : St}, (Builtin.copy_ #[T, U] o.type #[a.eval x, a.eval y]).run P w = .ok (.int .i64 (m : Nat)) w' → Rel g' w' a.tmps st2.fr st2.hp → StepR st st2 g w g' w' → StepOK P a o st (setSlot st2 o.dst (.int .i64 m)) g w := fun {g' w' m st2} hrun R2 S2 =>
          Runs.value (copyExec ho hc hargs hT hrun) ⟨g', R2.putFlat hd (fun t => (V.int _ _).slot t) (V.int (g := g') (w := w') (hn := st2.hp.length) _ _).lv, S2.setSlot _ _⟩
        -- the copy into a place
        have main : ∀ {r : Root} {pre : Option Nat} {off m : Nat} {b oo cap : Nat} {st2 : St}, copyTo st r pre off (ys.take (min k m * sizeT P e)) = some st2 → a.eval x = .slice (some ⟨b, oo + off, none⟩) m cap → g.loc r pre = (b, oo) → StepOK P a o st (setSlot st2 o.dst (.int .i64 (min k m : Nat))) g w := by
          intro r pre off m b oo cap st2 hcp hv hloc
          obtain ⟨news, hn1, hn2, hn3, hn4⟩ := hfirst (min k m) (Nat.min_le_left _ _)
          have hml : (ys.take (min k m * sizeT P e)).length = min k m * sizeT P e := by
            rw [List.length_take, hlen]
            have : min k m * sizeT P e ≤ k * sizeT P e := Nat.mul_le_mul_right _ (Nat.min_le_left _ _)
            omega
          have hnl : news.length = (ys.take (min k m * sizeT P e)).length := by rw [hn1, hml]
          have hst' : (ys.take (min k m * sizeT P e)).all storable = true := List.all_eq_true.2 fun z hz => List.all_eq_true.1 hst z (List.mem_of_mem_take hz)
          unfold copyTo at hcp
          split at hcp
          · rename_i s n cs hnav
            split at hcp
            · rename_i hle
              cases hcp
              have hlenO : news.length = ((ys.take (min k m * sizeT P e)).map outCell).length := by simpa using hnl
              have hVO : ∀ (j : Nat) (v : Value) (z : PV), news[j]? = some v → ((ys.take (min k m * sizeT P e)).map outCell)[j]? = some z → V g w st.hp.length v z := fun j v z h1 h2 => by
                simp only [List.getElem?_map, Option.map_eq_some_iff] at h2
                obtain ⟨z', h3, rfl⟩ := h2
                exact (hn4 j v z' h1 h3).outCell
              rcases Nat.eq_zero_or_pos news.length with h0 | h0
              · have hnn : news = [] := List.eq_nil_of_length_eq_zero h0
                have hyy : ys.take (min k m * sizeT P e) = [] := List.eq_nil_of_length_eq_zero (by omega)
                subst hnn
                have hrun : (Builtin.copy_ #[T, U] o.type #[a.eval x, a.eval y]).run P w = .ok (.int .i64 (min k m : Nat)) (w.setCells b (oo + off) []) := by
                  rw [hv]
                  exact run_copy_to he hi hlof (by rw [← hsi]; exact hn2) hn3 (fun j hj => by simp at hj)
                rw [hyy, List.map_nil, splice_nil]
                obtain ⟨d1, d2, d3, d4⟩ := put_dirty (st := st) (r := r) (pre := pre) (x := .sl (.mu s) n cs)
                exact done' (w' := w) hrun (R.putNode hnav fun u hu => hu) ⟨d1, d2, put_X⟩
              · obtain ⟨b', o', hl, hthere, R2, S2⟩ := storeRow R hnav hlenO hVO off (by simpa using hle) (by omega)
                rw [hloc] at hl; cases hl
                refine done' (w' := w.setCells b (oo + off) news) ?_ R2 S2
                rw [hv]
                exact run_copy_to he hi hlof (by rw [← hsi]; exact hn2) hn3 hthere
            · cases hcp
          · rename_i cs hnav
            split at hcp
            · rename_i hle
              cases hcp
              have hpre : pre = none ∧ rootPV st r = .box cs := by
                unfold nav at hnav
                split at hnav
                · rename_i hr; cases hnav; exact ⟨rfl, hr⟩
                · cases hnav
                · cases hnav
                · split at hnav <;> cases hnav
                · cases hnav
              obtain ⟨rfl, hr⟩ := hpre
              obtain ⟨b', g2, hl, hthere, R2, S2⟩ := storeVals P R hr hnl hn4 hst' off hle
              rw [hloc] at hl; cases hl
              rw [Nat.zero_add] at hv
              refine done' (w' := w.setCells b off news) ?_ R2 S2
              rw [hv]
              exact run_copy_to he hi hlof (by rw [← hsi]; exact hn2) hn3 hthere
            · cases hcp
          · cases hcp
        -- an empty place
        have main0 : ∀ {r : Root} {pre : Option Nat} {off : Nat} {a0 : Option Addr} {cap : Nat} {st2 : St}, copyTo st r pre off (ys.take (min k 0 * sizeT P e)) = some st2 → a.eval x = .slice a0 0 cap → StepOK P a o st (setSlot st2 o.dst (.int .i64 (min k 0 : Nat))) g w := by
          intro r pre off a0 cap st2 hcp hv
          have h0 : min k 0 = 0 := by simp
          rw [h0] at hcp ⊢
          simp only [Nat.zero_mul, List.take_zero] at hcp
          have hrun := empty hv
          unfold copyTo at hcp
          split at hcp
          · rename_i s n cs hnav
            split at hcp
            · cases hcp
              rw [List.map_nil, splice_nil]
              obtain ⟨d1, d2, d3, d4⟩ := put_dirty (st := st) (r := r) (pre := pre) (x := .sl (.mu s) n cs)
              exact done' (w' := w) (m := 0) hrun (R.putNode hnav fun u hu => hu) ⟨d1, d2, put_X⟩
            · cases hcp
          · rename_i cs hnav
            split at hcp
            · cases hcp
              rw [splice_nil]
              have hr : rootPV st r = .box cs := by
                unfold nav at hnav
                split at hnav
                · rename_i hr; cases hnav; exact hr
                · cases hnav
                · cases hnav
                · split at hnav <;> cases hnav
                · cases hnav
              have hr' := rootPV_killFr (k := .subs r) hr
              have R2 := Rel.putBox (st := { st with fr := killFr (.subs r) st.fr }) (R.kill (.subs r)) hr' (cs' := cs) (fun _ _ h => h)
              obtain ⟨d1, d2, d3⟩ := putRoot_dirty (st := { st with fr := killFr (.subs r) st.fr }) (r := r) (x := .box cs)
              exact done' (w' := w) (m := 0) hrun R2 ⟨d1, d2, putRoot_X (st := { st with fr := killFr (.subs r) st.fr })⟩
            · cases hcp
          · cases hcp
        split at h
        · rename_i r pre hxo
          rw [hxo] at hx
          split at h
          · rename_i tg m cs hn
            simp only [Option.map_eq_some_iff, Prod.mk.injEq] at h
            obtain ⟨st2, hcp, rfl, rfl⟩ := h
            obtain ⟨htg, hL⟩ := hd_at R hx hn
            generalize hv : a.eval x = v at hL
            cases hL with
            | of hV =>
              cases hV with
              | sl0 a0 _ => exact main0 hcp hv
              | sh0 a0 cap => simp at htg
              | sl tg b oo n cap cs f htg2 => rcases htg2 with rfl | ⟨rfl, _⟩ <;> simp at htg
            | mu how hl hle hlen2 room hi2 hc2 h0 => exact main (off := 0) hcp hv hl
            | ow how hl hle hlen2 room hi2 hx2 hc2 h0 => exact main (off := 0) hcp hv hl
            | full hl hi2 hc2 => exact main (off := 0) hcp hv hl
          · cases h
        · rename_i r pre off sz m hxo
          rw [hxo] at hx
          split at h
          · simp only [Option.map_eq_some_iff, Prod.mk.injEq] at h
            obtain ⟨st2, hcp, rfl, rfl⟩ := h
            rcases hx.vw_inv with ⟨rfl, a0, cap, hv⟩ | ⟨b, oo, cap, hloc, hv, _⟩
            · exact main0 hcp hv
            · exact main hcp hv hloc
          · cases h
        · rename_i hxo
          cases h
          rw [hxo] at hx
          rcases hx.sl_inv.row with ⟨_, _, a0, cap, hv, _⟩ | ⟨b, oo, cap, hv, _⟩
          · exact done' (m := 0) (empty hv) R (StepR.refl _ _ _)
          · exact done' (m := 0) (empty hv) R (StepR.refl _ _ _)
        · cases h
      · cases h

/-! ### The built-in clear. -/
theorem clearExec {a : Act} {o : Oper} {c : Call} (ho : o.op = .call c) (hc : c.callee = .builtin .clear) {x : Operand} (hargs : c.args.toList = [x]) {T : TypeId} (hT : c.argTypes.toList = [T]) {v : Value} {w' : World}
    (h : (Builtin.clear_ #[T] o.type #[a.eval x]).run P w = .ok v w') : (execOp a.eval o).run P w = .ok (.value v) w' := by
  have e1 : c.args = #[x] := by rw [← Array.toArray_toList (xs := c.args), hargs]
  have e2 : c.argTypes = #[T] := by rw [← Array.toArray_toList (xs := c.argTypes), hT]
  have h1 : ∀ cs args, builtin .clear c.argTypes o.type cs args = (do pure (.value (← Builtin.clear_ c.argTypes o.type args)) : Sem Next) := fun _ _ => rfl
  simp only [execOp, ho, resolve, hc, invoke, Sem.run_bind, Sem.run_pure, Result.andThen_ok]
  rw [h1, e1, e2]
  have e3 : #[x].map a.eval = #[a.eval x] := by simp
  rw [e3]
  simp only [Sem.run_bind, h, Result.andThen_ok, Sem.run_pure]
theorem run_clear {T ty e : TypeId} (hT : P.underlying T = some (.slice e)) {zv : Value} (hz : (zeroValue e).run P w = .ok zv w) {b o n cap : Nat} (hn : n ≠ 0) {news : List Value} (hnews : (Builtin.zeroCells zv.cells n).toList = news)
    (hone : ∀ u ∈ news, u.oneCell' = true) (hthere : ∀ j, j < news.length → (w.cell? ⟨b, o + j, none⟩).isSome = true ∧ w.frozen? ⟨b, o + j, none⟩ = false) :
    (Builtin.clear_ #[T] ty #[.slice (some ⟨b, o, none⟩) n cap]).run P w = .ok (.tuple #[]) (w.setCells b o news) := by
  have hst := run_storeCells_cells (P := P) b o news 0 w (by simpa using fun j hj => (hthere j hj).1) (by simpa using fun j hj => (hthere j hj).2) hone
  simp only [Nat.add_zero] at hst
  obtain ⟨m, rfl⟩ : ∃ m, n = m + 1 := ⟨n - 1, by omega⟩
  simp [Builtin.clear_, run_underlying hT, hz, hnews, hst]
theorem clearOK {st st1 : St} {a : Act} (Tb : Tabs P) (R : Rel g w a.tmps st.fr st.hp) {o : Oper} (hd : ∀ d, o.dst = some d → d < a.tmps.size) {c : Call} (ho : o.op = .call c) (hc : c.callee = .builtin .clear)
    {x : Operand} (hargs : c.args.toList = [x]) {T : TypeId} (hT : c.argTypes.toList = [T]) (h : clearOp P st T (opv st.fr x) = some st1) : StepOK P a o st (setSlot st1 o.dst (.raw (.tuple #[]))) g w := by
  unfold clearOp at h
  split at h
  · rename_i e r pre off sz n he hxo
    have he := elemT_spec he
    obtain ⟨⟨tx, hx⟩, _⟩ := opv_sound R a rfl x
    rw [hxo] at hx
    split at h
    · rename_i z s k cs hz hnav
      split at h
      · rename_i hcond
        obtain ⟨hsz, hzl, hpos, hle, hsto⟩ := hcond
        cases h
        obtain ⟨zv, hz1, hz2, hz3⟩ := zero_sound (g := g) (w := w) (hn := st.hp.length) hz
        have hVzs := (VL.outCells (g := g) (w := w) (hn := st.hp.length) (zs := zv.cells) (z := z) ⟨hz2, hz3⟩).zeros n
        rw [List.length_map, hzl] at hVzs
        have hn0 : n ≠ 0 := by rintro rfl; simp at hpos
        rcases hx.vw_inv with ⟨rfl, a0, cap, hv⟩ | ⟨b, oo, cap, hloc, hv, _⟩
        · exact (hn0 rfl).elim
        · have hzc : (Builtin.zeroCells zv.cells n) = (Array.range (n * sizeT P e)).map (zv.cells[· % zv.cells.size]!) := by
            unfold Builtin.zeroCells
            rw [hz2, hzl]
          obtain ⟨hl1, hl2⟩ := hVzs
          have hlen : (Builtin.zeroCells zv.cells n).toList.length = (List.replicate n (z.map outCell)).flatten.length := by
            rw [hzc, Array.length_toList]; exact hl1
          have hV : ∀ (j : Nat) (v : Value) (y : PV), (Builtin.zeroCells zv.cells n).toList[j]? = some v → (List.replicate n (z.map outCell)).flatten[j]? = some y → V g w st.hp.length v y := fun j v y h1 h2 => by
            rw [hzc, Array.getElem?_toList] at h1
            exact hl2 j v y h1 h2
          have hfl : (List.replicate n (z.map outCell)).flatten.length = n * sizeT P e := by rw [flatten_length, List.length_map, hzl]
          have hsto' : (List.replicate n (z.map outCell)).flatten.all storable = true := List.all_eq_true.2 fun y hy => by
            obtain ⟨l, hl, hyl⟩ := List.mem_flatten.1 hy
            rw [(List.mem_replicate.1 hl).2] at hyl
            exact List.all_eq_true.1 hsto y hyl
          obtain ⟨b', o', hl, hthere, R2, S2⟩ := storeRow R hnav hlen hV off (by rw [hfl]; exact hle) (by rw [hfl]; exact hpos)
          rw [hloc] at hl; cases hl
          have hone : ∀ u ∈ (Builtin.zeroCells zv.cells n).toList, u.oneCell' = true := fun u hu => by
            obtain ⟨j, hj, rfl⟩ := List.mem_iff_getElem.1 hu
            have hj' : j < (List.replicate n (z.map outCell)).flatten.length := by rw [← hlen]; exact hj
            exact (hV j _ _ (List.getElem?_eq_getElem hj) (List.getElem?_eq_getElem hj')).oneCell (List.all_eq_true.1 hsto' _ (List.getElem_mem hj'))
          refine Runs.value (clearExec ho hc hargs hT (by rw [hv]; exact run_clear he (hz1 w) hn0 rfl hone hthere)) ⟨_, R2.putFlat hd (fun t => (V.raw _ rfl).slot t) (V.raw (g := g) (w := w) (hn := st.hp.length) _ rfl).lv, S2.setSlot _ _⟩
      · cases h
    · cases h
  · cases h
end
end Go.PS
end

section
/-
  A function that sorts rows in place, by a key: what is asked of it, and the evaluator's step.
-/
namespace Go.PS
section
variable {g g' g1 g2 : G} {w w' w1 w2 : World} {hn hn' : Nat} {tm : Array Value} {fr fr' : Fr} {hp hp' hp1 hp2 : Heap} {P : Program} {t : Nat}

theorem intsOf_spec : ∀ {cs : List PV} {l : List Int}, intsOf cs = some l → cs = l.map (.int .i64)
  | [], l, h => by cases h; rfl
  | c :: r, l, h => by
    unfold intsOf at h
    split at h
    · rename_i e; cases e
    · rename_i n r' e
      cases e
      split at h
      · rename_i l' hl
        cases h
        rw [intsOf_spec hl]; rfl
      · cases h
    · cases h
theorem chunk_flatten (s : Nat) : ∀ (n : Nat) (l : List Int), l.length = n * s → (chunk s n l).flatten = l
  | 0, l, h => by
    have : l = [] := List.eq_nil_of_length_eq_zero (by simpa using h)
    subst this; rfl
  | n + 1, l, h => by
    rw [chunk, List.flatten_cons, chunk_flatten s n (l.drop s) (by rw [List.length_drop, h, Nat.succ_mul]; omega), List.take_append_drop]
theorem chunk_length (s : Nat) : ∀ (n : Nat) (l : List Int), (chunk s n l).length = n
  | 0, _ => rfl
  | n + 1, l => by rw [chunk, List.length_cons, chunk_length s n]
theorem chunk_row (s : Nat) : ∀ (n : Nat) (l : List Int), l.length = n * s → ∀ r ∈ chunk s n l, r.length = s
  | 0, _, _, r, hr => by cases hr
  | n + 1, l, h, r, hr => by
    rw [chunk] at hr
    rcases List.mem_cons.1 hr with rfl | hr
    · rw [List.length_take, h, Nat.succ_mul]; omega
    · exact chunk_row s n _ (by rw [List.length_drop, h, Nat.succ_mul]; omega) r hr
theorem insK_perm (key : Nat) (r : List Int) : ∀ l : List (List Int), (insK key r l).Perm (r :: l)
  | [] => .refl _
  | x :: xs => by
    unfold insK
    split
    · exact .refl _
    · exact ((insK_perm key r xs).cons x).trans (.swap r x xs)
theorem sortK_perm (key : Nat) : ∀ l : List (List Int), (sortK key l).Perm l
  | [] => .refl _
  | r :: rs => (insK_perm key r _).trans ((sortK_perm key rs).cons r)
theorem flatten_len {s : Nat} : ∀ {L : List (List Int)}, (∀ r ∈ L, r.length = s) → L.flatten.length = L.length * s
  | [], _ => by simp
  | r :: rs, h => by
    rw [List.flatten_cons, List.length_append, h r (by simp), flatten_len fun x hx => h x (by simp [hx]), List.length_cons, Nat.succ_mul]; omega

/-- What is asked of a function f that sorts rows of s numbers by the closure g, which compares their key-th numbers. -/
structure SortAt (P : Program) (f g s key : Nat) : Prop where
  enters : ∀ us w, (callFunc f us).run P w = .ok (.enter f us) w
  none : ∀ a cap w, Calls P f #[.slice a 0 cap, .func (.func g) #[] #[]] w fun e w' => e = .returned (.tuple #[]) ∧ w' = w
  some : ∀ (rows : List (List Int)) (b off cap : Nat) (w : World), (∀ r ∈ rows, r.length = s) → (rows.map (keyI key)).Nodup → key < s → 0 < rows.length → rows.length ≤ 1000 →
    (∀ (j : Nat) (v : Int), rows.flatten[j]? = Option.some v → w.cell? ⟨b, off + j, Option.none⟩ = Option.some (.int .i64 v) ∧ w.frozen? ⟨b, off + j, Option.none⟩ = false) → b < w.heap.size →
    Calls P f #[.slice (Option.some ⟨b, off, Option.none⟩) rows.length cap, .func (.func g) #[] #[]] w fun e w' => e = .returned (.tuple #[]) ∧
      ∃ m os, w' = { w.setCells b off ((sortK key rows).flatten.map (Value.int .i64)) with drawn := m, heap := (w.setCells b off ((sortK key rows).flatten.map (Value.int .i64))).heap ++ os }

def extSem : Nat → Array Value → Sem Value
  | 0 => Extern.MathFloatBits.float64frombits
  | 1 => Extern.MathFloatBits.float64bits
  | _ => fun _ => stuck ""
/-- What is asked of a function without code. -/
def ExtAt (P : Program) (f e : Nat) : Prop := ∀ us w, (callFunc f us).run P w = (do pure (.value (← extSem e us)) : Sem Next).run P w
theorem extOK {st : St} {a : Act} (R : Rel g w a.tmps st.fr st.hp) {f : FuncId} {e : Nat} (he : ExtAt P f e) {o : Oper} (hd : ∀ d, o.dst = some d → d < a.tmps.size) {c : Call} (ho : o.op = .call c) {fo : Operand} (hc : c.callee = .value fo)
    {cap : List PV} (hf : opv st.fr fo = .fn f cap) {z : PV} (h : extOp e cap (c.args.toList.map (opv st.fr)) = some z) : StepOK P a o st (setSlot st o.dst z) g w := by
  have key : ∃ v, (extSem e (c.args.map a.eval)).run P w = .ok v w ∧ V g w st.hp.length v z ∧ cap = [] := by
    unfold extOp at h
    split at h
    · split at h
      · rename_i n hargs
        cases h
        have hxs : ∃ x0, c.args.toList = [x0] ∧ opv st.fr x0 = .int .u64 n := by
          cases hl : c.args.toList with
          | nil => simp [hl] at hargs
          | cons x0 r0 => cases r0 with
            | nil => simp [hl] at hargs; exact ⟨x0, rfl, hargs⟩
            | cons y0 r0 => simp [hl] at hargs
        obtain ⟨x0, hl, e1⟩ := hxs
        obtain ⟨⟨tx, hx⟩, _⟩ := opv_sound R a rfl x0
        rw [e1] at hx
        have hv := hx.int_inv
        have e3 : c.args.map a.eval = #[.int .u64 n] := by
          apply Array.ext'
          rw [Array.toList_map, hl, List.map_cons, hv]; rfl
        exact ⟨_, by rw [e3]; rfl, .raw _ rfl, rfl⟩
      · rename_i b hargs
        cases h
        have hxs : ∃ x0, c.args.toList = [x0] ∧ opv st.fr x0 = .raw (.float .f64 b) := by
          cases hl : c.args.toList with
          | nil => simp [hl] at hargs
          | cons x0 r0 => cases r0 with
            | nil => simp [hl] at hargs; exact ⟨x0, rfl, hargs⟩
            | cons y0 r0 => simp [hl] at hargs
        obtain ⟨x0, hl, e1⟩ := hxs
        obtain ⟨⟨tx, hx⟩, _⟩ := opv_sound R a rfl x0
        rw [e1] at hx
        have hv := hx.raw_inv
        have e3 : c.args.map a.eval = #[.float .f64 b] := by
          apply Array.ext'
          rw [Array.toList_map, hl, List.map_cons, hv]; rfl
        exact ⟨_, by rw [e3]; rfl, .int _ _, rfl⟩
      · cases h
    · cases h
  obtain ⟨v, h1, h2, rfl⟩ := key
  obtain ⟨⟨tf, hfs⟩, _⟩ := opv_sound R a rfl fo
  rw [hf] at hfs
  obtain ⟨cv, hcv, hsz, _⟩ := hfs.fn_inv
  have hcv0 : cv = #[] := Array.eq_empty_of_size_eq_zero (by simpa using hsz)
  subst hcv0
  have hexec : (execOp a.eval o).run P w = .ok (.value v) w := by
    simp only [execOp, ho, resolve, hc, hcv, Deferred.ofValue, Sem.run_bind, Sem.run_pure, Result.andThen_ok, invoke, Array.append_empty]
    rw [he]
    simp only [Array.empty_append, Sem.run_bind, h1, Result.andThen_ok, Sem.run_pure]
  exact Runs.value hexec ⟨g, R.putFlat hd (fun t => h2.slot t) h2.lv, (StepR.refl _ _ _).setSlot _ _⟩

theorem sortOK {st st' : St} {a : Act} (R : Rel g w a.tmps st.fr st.hp) {f : FuncId} {k : Nat × Nat × Nat} (hs : SortAt P f k.1 k.2.1 k.2.2) {o : Oper} (hd : ∀ d, o.dst = some d → d < a.tmps.size) {c : Call} {fo : Operand} (ho : o.op = .call c) (hc : c.callee = .value fo)
    {cap : List PV} (hf : opv st.fr fo = .fn f cap) (h : sortOp st k cap c.args.toList o.dst = some st') : StepOK P a o st st' g w := by
  unfold sortOp at h
  split at h
  · rename_i x y hargs
    split at h
    · rename_i r pre fg hx hy
      split at h
      · rename_i s n cs hnav
        split at h
        · rename_i l hl
          split at h
          · rename_i hcond
            obtain ⟨rfl, rfl, hkey, hlen, hn, hnd⟩ := hcond
            cases h
            have hcs := intsOf_spec hl
            have hll : l.length = n * k.2.1 := by rw [← hlen, hcs]; simp
            obtain ⟨⟨tf, hsf⟩, _⟩ := opv_sound R a rfl fo
            rw [hf] at hsf
            obtain ⟨cv, hfv, hcv, _⟩ := hsf.fn_inv
            have hcv0 : cv = #[] := Array.eq_empty_of_size_eq_zero (by simpa using hcv)
            subst hcv0
            obtain ⟨⟨ty, hsy⟩, _⟩ := opv_sound R a rfl y
            rw [hy] at hsy
            obtain ⟨cw, hgv, hcw, _⟩ := hsy.fn_inv
            have hcw0 : cw = #[] := Array.eq_empty_of_size_eq_zero (by simpa using hcw)
            subst hcw0
            obtain ⟨⟨tx, hsx⟩, _⟩ := opv_sound R a rfl x
            rw [hx] at hsx
            have hns : navS st r pre = some (.mu k.2.1, n, cs) := by unfold navS; rw [hnav]
            obtain ⟨_, hL⟩ := hd_at R hsx hns
            have hexec : (execOp a.eval o).run P w = .ok (.enter f #[a.eval x, a.eval y]) w := by
              simp only [execOp, ho, resolve, hc, hfv, Deferred.ofValue, Sem.run_bind, Sem.run_pure, Result.andThen_ok, invoke]
              have he : (#[] ++ c.args.map a.eval) ++ #[] = #[a.eval x, a.eval y] := by
                have e1 : c.args = #[x, y] := by rw [← Array.toArray_toList (xs := c.args), hargs]
                rw [e1]; simp
              rw [he]
              exact hs.enters _ _
            have done' : ∀ {g' : G} {w' : World} {st2 : St}, Rel g' w' a.tmps st2.fr st2.hp → StepR st st2 g w g' w' → ∃ g', Rel g' w' (a.put o.dst (.tuple #[])).tmps (setSlot st2 o.dst (.tup [])).fr (setSlot st2 o.dst (.tup [])).hp ∧ StepR st (setSlot st2 o.dst (.tup [])) g w g' w' := fun {g' w' st2} R2 S2 =>
              ⟨g', R2.putFlat hd (fun t => .tup rfl fun j v y h1 h2 => by simp at h2) (fun t pre h => by cases h), S2.setSlot _ _⟩
            rcases Nat.eq_zero_or_pos n with h0 | h0
            · subst h0
              have hc0 : cs = [] := List.eq_nil_of_length_eq_zero (by simpa using hlen)
              subst hc0
              have hv : ∃ a0 cap, a.eval x = .slice a0 0 cap := by
                generalize a.eval x = v at hL
                cases hL with
                | of hV =>
                  cases hV with
                  | sl0 a0 _ => exact ⟨_, _, rfl⟩
                  | sl tg b oo n cap cs f htg2 => rcases htg2 with h | ⟨h, _⟩ <;> cases h
                | mu how hl hle hlen2 room hi2 hc2 h0 => exact ⟨_, _, rfl⟩
              obtain ⟨a0, cp, hv⟩ := hv
              refine Runs.enter hexec ?_
              rw [hv, hgv]
              refine (hs.none a0 cp w).mono fun e w' ⟨he, hw⟩ => ⟨_, he, ?_⟩
              subst hw
              obtain ⟨d1, d2, d3, d4⟩ := put_dirty (st := st) (r := r) (pre := pre) (x := .sl (.mu k.2.1) 0 [])
              exact done' (R.putNode hnav fun u hu => hu) ⟨d1, d2, put_X⟩
            · generalize hrows : chunk k.2.1 n l = rows at hnd ⊢
              have hrl : ∀ r ∈ rows, r.length = k.2.1 := by rw [← hrows]; exact chunk_row _ _ _ hll
              have hrn : rows.length = n := by rw [← hrows]; exact chunk_length _ _ _
              have hrf : rows.flatten = l := by rw [← hrows]; exact chunk_flatten _ _ _ hll
              have hsl : (sortK k.2.2 rows).flatten.length = n * k.2.1 := by
                rw [flatten_len fun r hr => hrl r ((sortK_perm _ _).mem_iff.1 hr), (sortK_perm _ _).length_eq, hrn]
              have hpos : 0 < n * k.2.1 := Nat.mul_pos h0 (by omega)
              have hns2 := hns
              generalize hv : a.eval x = v at hL hsx hexec
              cases hL with
              | of hV =>
                cases hV with
                | sl0 a0 _ => exact (Nat.lt_irrefl _ h0).elim
                | sl tg b oo n cap cs f htg2 => rcases htg2 with h | ⟨h, _⟩ <;> cases h
              | @mu b oo _ cp _ _ how hloc hle hlen2 room hi2 hc2 hh0 =>
                obtain ⟨b', o', hl', hthere, R2, S2⟩ := storeRow R hnav (vs := (sortK k.2.2 rows).flatten.map (Value.int .i64)) (ys := (sortK k.2.2 rows).flatten.map (PV.int .i64)) (by rw [List.length_map, List.length_map])
                  (fun j v y h1 h2 => by
                    simp only [List.getElem?_map, Option.map_eq_some_iff] at h1 h2
                    obtain ⟨z, h3, rfl⟩ := h1
                    obtain ⟨z', h4, rfl⟩ := h2
                    rw [h3] at h4; cases h4
                    exact .int _ _) 0 (by rw [List.length_map, hsl, hlen]; omega) (by rw [List.length_map, hsl]; exact hpos)
                rw [hloc] at hl'; cases hl'
                have hsp : splice cs 0 ((sortK k.2.2 rows).flatten.map (PV.int .i64)) = (sortK k.2.2 rows).flatten.map (PV.int .i64) := by
                  apply List.ext_getElem?
                  intro j
                  rw [splice_get _ _ _ _ (by rw [List.length_map, hsl, hlen]; omega)]
                  simp only [Nat.zero_le, true_and, Nat.zero_add, Nat.sub_zero]
                  split
                  · rfl
                  · rename_i hj
                    rw [List.length_map, hsl] at hj
                    rw [List.getElem?_eq_none (by omega), List.getElem?_eq_none (by rw [List.length_map, hsl]; omega)]
                rw [hsp] at R2 S2
                simp only [Nat.add_zero] at R2 S2
                refine Runs.enter hexec ?_
                rw [hgv, ← hrn]
                refine (hs.some rows b oo cp w hrl hnd hkey (by omega) (by omega) (fun j v hj => ?_) (R.ownLt _ _ how)).mono fun e w' ⟨he, m, os, hw⟩ => ⟨_, he, ?_⟩
                · rw [hrf] at hj
                  have hjl := (List.getElem?_eq_some_iff.1 hj).1
                  obtain ⟨u, h1, h2⟩ := hc2 j (.int .i64 v) (by rw [hcs, List.getElem?_map, hj]; rfl)
                  cases h2
                  exact ⟨h1, (room j (by rw [hll] at hjl; exact Nat.lt_of_lt_of_le hjl (Nat.mul_le_mul_right _ hle))).2⟩
                · generalize w.setCells b oo ((sortK k.2.2 rows).flatten.map (Value.int .i64)) = wm at hw R2 S2
                  have hg : Grow wm w' := by
                    subst hw
                    exact ⟨rfl, rfl, rfl, by simp, fun b hb => by simp [Array.getElem?_append, hb]⟩
                  rw [hrn]
                  exact done' (R2.grow hg) (S2.trans ⟨rfl, id, X.grow R2 hg |>.weaken fun h => rfl⟩)
          · cases h
        · cases h
      · cases h
    · cases h
  · cases h
end
end Go.PS
end

section
/-
  Builders: what is asked of their methods, and the evaluator's step.
-/
namespace Go.PS
section
variable {g g' g1 g2 : G} {w w' w1 w2 : World} {hn hn' : Nat} {tm : Array Value} {fr fr' : Fr} {hp hp' hp1 hp2 : Heap} {P : Program} {t : Nat}

/-- What stands of a builder behind a call. -/
structure Wrote (w : World) (b : Nat) (v : Value) (T e : TypeId) (bs : List UInt8) (w' : World) : Prop where
  here : ∃ p' v', w'.heap[b]? = some (.cells #[p', v'] T (0, 0)) ∧ (p' = .pointer none ∨ p' = .pointer (some ⟨b, 0, none⟩)) ∧ w'.ownsRowF 0 e 1 v' bs.length (bs.map fun c => .int .u8 c.toNat) ∧
    v'.ownBlock ≠ some b ∧ (v'.ownBlock = v.ownBlock ∨ ∀ k, v'.ownBlock = some k → w.heap.size ≤ k)
  kept : ∀ k o, w.heap[k]? = some o → k ≠ b → v.ownBlock ≠ some k → w'.heap[k]? = some o
  os : w'.os = w.os
  tape : w'.tape = w.tape
  out : w'.output = w.output
  size : w.heap.size ≤ w'.heap.size

/-- What is asked of a builder's method. -/
structure BldAt (P : Program) (f : Nat) (k : Nat × TypeId × TypeId) : Prop where
  enters : ∀ us w, (callFunc f us).run P w = .ok (.enter f us) w
  byte : k.1 = 0 → ∀ (w : World) (b : Nat) (p v : Value) (bs : List UInt8), w.heap[b]? = some (.cells #[p, v] k.2.1 (0, 0)) → (p = .pointer none ∨ p = .pointer (some ⟨b, 0, none⟩)) →
    w.ownsRowF 0 k.2.2 1 v bs.length (bs.map fun c => .int .u8 c.toNat) → v.ownBlock ≠ some b → ∀ c : Int, 0 ≤ c → c < 256 → bs.length + 1 ≤ 140737488355328 →
    Calls P f #[.pointer (some ⟨b, 0, none⟩), .int .u8 c] w fun e' w' => e' = .returned .nilIface ∧ Wrote w b v k.2.1 k.2.2 (bs ++ [UInt8.ofNat c.toNat]) w'
  text : k.1 = 1 → ∀ (w : World) (b : Nat) (p v : Value) (bs : List UInt8), w.heap[b]? = some (.cells #[p, v] k.2.1 (0, 0)) → (p = .pointer none ∨ p = .pointer (some ⟨b, 0, none⟩)) →
    w.ownsRowF 0 k.2.2 1 v bs.length (bs.map fun c => .int .u8 c.toNat) → v.ownBlock ≠ some b → ∀ s : ByteArray, bs.length + s.size ≤ 140737488355328 →
    Calls P f #[.pointer (some ⟨b, 0, none⟩), .string s] w fun e' w' => e' = .returned (.tuple #[.int .i64 s.size, .nilIface]) ∧ Wrote w b v k.2.1 k.2.2 (bs ++ s.data.toList) w'
  all : k.1 = 2 → ∀ (w : World) (b : Nat) (p v : Value) (bs : List UInt8), w.heap[b]? = some (.cells #[p, v] k.2.1 (0, 0)) → (p = .pointer none ∨ p = .pointer (some ⟨b, 0, none⟩)) →
    w.ownsRowF 0 k.2.2 1 v bs.length (bs.map fun c => .int .u8 c.toNat) → v.ownBlock ≠ some b → 0 < bs.length →
    Calls P f #[.pointer (some ⟨b, 0, none⟩)] w fun e' w' => e' = .returned (.string ⟨bs.toArray⟩) ∧ Wrote w b v k.2.1 k.2.2 bs w'

/-- What is asked of calls: those that sort are marked, and those of functions without code. -/
structure CallS (P : Program) (own : FuncId → Option Nat) (callF : CallF) : Prop where
  call : CallSound P callF
  sort : ∀ f k, sortsOf (own f) = some k → SortAt P f k.1 k.2.1 k.2.2
  ext : ∀ f e, extsOf (own f) = some e → ExtAt P f e
  bld : ∀ f k, bldOf (own f) = some k → BldAt P f k
theorem rowAlive_still {i j : Nat} {nd : Node} (h1 : ∀ s n q, hp[i]? ≠ some (.row s n (some q))) (h2 : ∀ s n q, nd ≠ .row s n (some q)) : rowAlive (hp.set i nd) j = rowAlive hp j := by
  unfold rowAlive
  rw [Bool.eq_iff_iff, List.all_eq_true, List.all_eq_true]
  constructor
  · intro H x hx
    obtain ⟨k, hk, rfl⟩ := List.getElem_of_mem hx
    by_cases e : i = k
    · subst e
      have := h1
      rw [List.getElem?_eq_getElem hk] at this
      split
      · rename_i s n q hq; exact absurd (by rw [hq]) (this s n q)
      · rfl
    · exact H _ (List.mem_of_getElem (i := k) (h := by rw [List.length_set]; exact hk) (by rw [List.getElem_set_ne e]))
  · intro H x hx
    obtain ⟨k, hk, rfl⟩ := List.getElem_of_mem hx
    rw [List.length_set] at hk
    by_cases e : i = k
    · subst e
      rw [List.getElem_set_self]
      split
      · rename_i s n q; exact (h2 s n q rfl).elim
      · rfl
    · rw [List.getElem_set_ne e]; exact H _ (List.getElem_mem hk)

/-- A builder's node for one that nothing is known of, and back. -/
theorem Rel.swapNode (R : Rel g w tm fr hp) {i : Nat} {nd nd' : Node} (h : hp[i]? = some nd) (h1 : (∃ T e bs, nd = .bld T e bs) ∨ nd = .row 0 1 none) (h2 : (∃ T e bs, nd' = .bld T e bs ∧ BldC g w i T e bs) ∨ (nd' = .row 0 1 none ∧ 0 < g.cap i)) :
    Rel g w tm fr (hp.set i nd') := by
  have ha : ∀ j, rowAlive (hp.set i nd') j = rowAlive hp j := fun j => rowAlive_still (fun s n q e => by rw [h] at e; rcases h1 with ⟨_, _, _, rfl⟩ | rfl <;> cases e) (fun s n q e => by rcases h2 with ⟨_, _, _, rfl, _⟩ | ⟨rfl, _⟩ <;> cases e)
  refine ⟨fun t => by rw [List.length_set]; exact R.slots t, fun j cs hj => ?_, fun j ks vs hj => ?_, R.immCell, R.ownLt, R.live, R.size, fun j s n p hj => ?_, fun j T e bs hj => ?_⟩
  · rw [List.length_set]
    rw [List.getElem?_set] at hj
    split at hj
    · split at hj
      · rcases h2 with ⟨_, _, _, rfl, _⟩ | ⟨rfl, _⟩ <;> cases hj
      · cases hj
    · exact R.heap j cs hj
  · rw [List.length_set]
    rw [List.getElem?_set] at hj
    split at hj
    · split at hj
      · rcases h2 with ⟨_, _, _, rfl, _⟩ | ⟨rfl, _⟩ <;> cases hj
      · cases hj
    · exact R.maps j ks vs hj
  · rw [List.getElem?_set] at hj
    split at hj
    · rename_i e; subst e
      split at hj
      · rcases h2 with ⟨_, _, _, rfl, _⟩ | ⟨rfl, h0⟩
        · cases hj
        · cases hj; exact ⟨h0, fun h => by omega⟩
      · cases hj
    · exact ⟨(R.rows.1 j _ _ _ hj).1, fun h0 hx => (R.rows.1 j _ _ _ hj).2 h0 (by rw [ha] at hx; exact hx)⟩
  · rw [List.getElem?_set] at hj
    split at hj
    · rename_i e; subst e
      split at hj
      · rcases h2 with ⟨_, _, _, rfl, hb⟩ | ⟨rfl, _⟩
        · cases hj; exact hb
        · cases hj
      · cases hj
    · exact R.rows.2 j T e bs hj

/-- The ghost where the buffer may be another one. -/
def G.buf (g : G) (v : Value) (i : Nat) : G := { g with own := fun k => if v.ownBlock = some k then some (.obj i) else g.own k }

/-- Behind a method's call. -/
theorem Rel.wrote {base : Nat} {dd : Bool} (R : Rel g w tm fr hp) {i b : Nat} {p v : Value} {T e : TypeId} {bs bs' : List UInt8} (hi : hp[i]? = some (.bld T e bs)) (hl : g.loc (.heap i) none = (b, 0)) (ho : g.own b = some (.obj i))
    (hc : 0 < g.cap i) (hm : ∀ j, ¬ g.imm b j) (hb : w.heap[b]? = some (.cells #[p, v] T (0, 0))) (hv : ∀ k, v.ownBlock = some k → k ≠ b ∧ g.own k = some (.obj i) ∧ ∀ j, ¬ g.imm k j)
    (hw : Wrote w b v T e bs' w') (hd : dd = false → base ≤ i) :
    ∃ g', Rel g' w' tm fr (hp.set i (.bld T e bs')) ∧ X base dd g w hp g' w' (hp.set i (.bld T e bs')) := by
  obtain ⟨p', v', hb', hp', hrow, hne, hbuf⟩ := hw.here
  have hlt := lt_of_some hi
  have hown : ∀ k, v'.ownBlock = some k → g.own k = some (.obj i) ∨ w.heap.size ≤ k := fun k hk => by
    rcases hbuf with h | h
    · exact .inl (hv k (h ▸ hk)).2.1
    · exact .inr (h k hk)
  have himm : ∀ k, v'.ownBlock = some k → ∀ j, ¬ g.imm k j := fun k hk j hj => by
    rcases hbuf with h | h
    · exact (hv k (h ▸ hk)).2.2 j hj
    · have := R.lt_imm hj; have := h k hk; omega
  -- a block that is not the builder's
  have sk : ∀ k q, g.own k = some q → q ≠ .obj i → SameBlk g w (g.buf v' i) w' k := fun k q hk hq => by
    refine ⟨?_, ?_, fun _ => Iff.rfl⟩
    · simp only [G.buf]
      rw [if_neg]
      intro h
      rcases hown k h with h' | h'
      · rw [hk] at h'; cases h'; exact hq rfl
      · have := R.ownLt _ _ hk; omega
    · have hlk := R.ownLt _ _ hk
      have := Array.getElem?_eq_getElem hlk
      rw [this]
      exact hw.kept k _ this (fun e => by subst e; rw [ho] at hk; cases hk; exact hq rfl) (fun h => by have := (hv k h).2.1; rw [hk] at this; cases this; exact hq rfl)
  have hic : ∀ b' o, g.imm b' o → w'.cell? ⟨b', o, none⟩ = w.cell? ⟨b', o, none⟩ := fun b' o h => by
    have hlk := R.lt_imm h
    have := Array.getElem?_eq_getElem hlk
    unfold World.cell?
    rw [this, hw.kept b' _ this (fun e => by subst e; exact hm _ h) (fun e => (hv b' e).2.2 _ h)]
  have e0 : Ext0 g w hp.length (g.buf v' i) w' hp.length := ⟨fun b' o h => ⟨h, hic b' o h⟩, fun _ _ => rfl, fun _ _ => rfl, Nat.le_refl _⟩
  have c : Chg (fun r pre => r = .heap i ∧ pre = none) (fun _ _ => False) g w hp.length (g.buf v' i) w' hp.length :=
    ⟨e0, fun _ _ _ => rfl, fun b' r pre h _ => (sk b' _ h (by simp)).same _, fun b' t h _ => (sk b' _ h (by simp)).same _,
      fun b' j h hC => (sk b' _ h (fun e => by cases e; exact hC ⟨rfl, rfl⟩)).same _⟩
  have R0 := R.swapNode hi (.inl ⟨_, _, _, rfl⟩) (nd' := .row 0 1 none) (.inr ⟨rfl, hc⟩)
  have hi0 : (hp.set i (.row 0 1 none))[i]? = some (.row 0 1 none) := List.getElem?_set_self hlt
  have hlen : (hp.set i (.row 0 1 none)).length = hp.length := List.length_set
  have R1 : Rel (g.buf v' i) w' tm fr (hp.set i (.row 0 1 none)) := by
    refine R0.change (by rw [hlen]; exact c) (fun t _ => ⟨fun h => (by cases h.1), fun cs _ j y _ _ => ⟨fun h => (by cases h.1), fun _ _ _ _ _ _ _ _ => id⟩, fun _ _ _ _ _ _ _ _ => id⟩)
      (fun t r pre hr hC => by obtain ⟨rfl, rfl⟩ := hC; have := (R.ref_ok hr).2; omega)
      (fun t r pre hr u hu => valAt_ref R hr hu (fun _ _ => rfl) (fun o ho' => ?_))
      (fun j cs hj => ⟨fun e => (by cases e.1; rw [hi0] at hj; cases hj), fun q y _ _ => ⟨fun e => (by cases e.2), fun _ _ _ _ _ _ _ _ => id⟩, fun _ _ _ _ _ _ _ => id⟩)
      (fun j ks vs hj => ⟨fun e => (by cases e.1; rw [hi0] at hj; cases hj), fun b' es k h1 h2 => ?_⟩)
      (fun b' o h => by rw [hic b' o h]; exact R.immCell b' o h)
      (fun k q hk => ?_)
      (fun j s n q hj h0 _ e => by cases e.1; rw [hi0] at hj; cases hj; omega)
      (fun j T' e' bs'' hj b' h => sk b' _ h (fun e => by cases e; rw [hi0] at hj; cases hj))
    · subst ho'
      obtain ⟨cs, hcs⟩ := Rel.refObj (st := ⟨fr, hp, 0, false⟩) R hr
      obtain ⟨b', hO, _⟩ := Rel.obj (st := ⟨fr, hp, 0, false⟩) R hcs
      have hl' := hO.loc
      rw [hl']
      have := sk b' _ hO.own (fun e => by
        cases r with
        | slot t => cases e
        | heap j => cases e; have := (R.ref_ok hr).2; omega)
      unfold World.cell?
      rw [this.heap]
    · have hj' : j ≠ i := fun e => by subst e; rw [hi0] at hj; cases hj
      rw [(sk b' _ h1 (fun e => by cases e; exact hj' rfl)).heap]; exact h2
    · simp only [G.buf] at hk
      split at hk
      · rename_i h; exact (hrow.lt k h).2
      · exact Nat.lt_of_lt_of_le (R.ownLt _ _ hk) hw.size
  have hB : BldC (g.buf v' i) w' i T e bs' := by
    refine ⟨b, p', v', hl, ?_, hc, hm, hb', hp', hrow, fun k hk => ⟨fun e => by subst e; exact hne hk, ?_, himm k hk⟩⟩
    · simp only [G.buf]; rw [if_neg hne]; exact ho
    · simp only [G.buf]; rw [if_pos hk]
  have R2 := R1.swapNode hi0 (.inr rfl) (nd' := .bld T e bs') (.inl ⟨_, _, _, rfl, hB⟩)
  rw [List.set_set] at R2
  refine ⟨_, R2, ⟨e0.imm, e0.loc, e0.cap, by rw [List.length_set]; exact Nat.le_refl _⟩, hw.os, hw.tape, hw.out, hw.size, fun b' h => ?_, fun hdf j hj => ⟨?_, fun _ => rfl, fun b' h => ?_⟩⟩
  · rcases h with h | h <;> exact sk b' _ h (by simp)
  · have := hd hdf; rw [List.getElem?_set_ne (by omega)]
  · have := hd hdf
    rcases h with h | ⟨_, h⟩
    · exact sk b' _ h (fun e => by cases e; omega)
    · exact sk b' _ h (by simp)


theorem Slot.bp_inv {v : Value} {i t : Nat} (h : Slot g w hn tm t v (.bp i)) : ∃ b, v = .pointer (some ⟨b, 0, none⟩) ∧ i < hn ∧ g.loc (.heap i) none = (b, 0) := by
  cases h with
  | of h => cases h with
    | of h => cases h with
      | bp i b hi hl => exact ⟨b, rfl, hi, hl⟩

theorem bldOK {st st' : St} {a : Act} (R : Rel g w a.tmps st.fr st.hp) {f : FuncId} {k : Nat × TypeId × TypeId} (hB : BldAt P f k) {o : Oper} (hd : ∀ d, o.dst = some d → d < a.tmps.size) {c : Call} {fo : Operand} (ho : o.op = .call c) (hc : c.callee = .value fo)
    {cap : List PV} (hf : opv st.fr fo = .fn f cap) (h : bldOp st k cap c.args.toList o.dst = some st') : StepOK P a o st st' g w := by
  obtain ⟨kk, T, e⟩ := k
  unfold bldOp at h
  split at h
  rotate_left
  · cases h
  rename_i x xs hargs
  obtain ⟨⟨tf, hsf⟩, _⟩ := opv_sound R a rfl fo
  rw [hf] at hsf
  obtain ⟨cv, hfv, hcv, _⟩ := hsf.fn_inv
  have hcv0 : cv = #[] := Array.eq_empty_of_size_eq_zero (by simpa using hcv)
  subst hcv0
  have hexec : (execOp a.eval o).run P w = .ok (.enter f (c.args.map a.eval)) w := by
    simp only [execOp, ho, resolve, hc, hfv, Deferred.ofValue, Sem.run_bind, Sem.run_pure, Result.andThen_ok, invoke]
    have he : (#[] ++ c.args.map a.eval) ++ #[] = c.args.map a.eval := by simp
    rw [he]
    exact hB.enters _ _
  split at h
  rotate_left
  · cases h
  rename_i i hx
  split at h
  rotate_left
  · cases h
  rename_i T' e' bs hi
  split at h
  rotate_left
  · cases h
  rename_i hT
  obtain ⟨rfl, rfl⟩ := hT
  obtain ⟨⟨tx, hsx⟩, _⟩ := opv_sound R a rfl x
  rw [hx] at hsx
  obtain ⟨b, hxv, hlt, hl⟩ := hsx.bp_inv
  obtain ⟨b', p, v, hl', how, hcap, hm, hbk, hp, hrow, hv⟩ := R.rows.2 i _ _ _ hi
  rw [hl] at hl'; cases hl'
  have hne : v.ownBlock ≠ some b := fun h => (hv b h).1 rfl
  have hdd : (st.dirty || decide (i < st.base)) = false → st.base ≤ i := fun h => by
    rw [Bool.or_eq_false_iff] at h
    have := of_decide_eq_false h.2; omega
  have finish : ∀ {w' : World} {bs' : List UInt8} {r : Value} {z : PV}, Wrote w b v T' e' bs' w' → (∀ (g' : G) (hn' : Nat) (tm : Array Value) (t : Nat), Slot g' w' hn' tm t r z) → (∀ r' pre, refOf z ≠ some (r', pre)) →
      ∃ g', Rel g' w' (a.put o.dst r).tmps (setSlot { st with hp := st.hp.set i (.bld T' e' bs'), dirty := st.dirty || decide (i < st.base) } o.dst z).fr (setSlot { st with hp := st.hp.set i (.bld T' e' bs'), dirty := st.dirty || decide (i < st.base) } o.dst z).hp ∧
        StepR st (setSlot { st with hp := st.hp.set i (.bld T' e' bs'), dirty := st.dirty || decide (i < st.base) } o.dst z) g w g' w' := fun {w' bs' r z} hw hs hr => by
    obtain ⟨g', R', X'⟩ := R.wrote (base := st.base) (dd := st.dirty || decide (i < st.base)) hi hl how hcap hm hbk hv hw hdd
    have S : StepR st { st with hp := st.hp.set i (.bld T' e' bs'), dirty := st.dirty || decide (i < st.base) } g w g' w' := ⟨rfl, fun h => by simp [h], X'⟩
    exact ⟨g', Rel.putFlat (st := { st with hp := st.hp.set i (.bld T' e' bs'), dirty := st.dirty || decide (i < st.base) }) R' hd (fun t => hs _ _ _ t) (fun t pre h => (hr _ _ h).elim), S.setSlot _ _⟩
  split at h
  · rename_i n hk hxs
    split at h
    rotate_left
    · cases h
    rename_i hn
    cases h
    have hys : ∃ y, xs = [y] ∧ opv st.fr y = .int .u8 n := by
      cases xs with
      | nil => simp at hxs
      | cons y ys => cases ys with
        | nil => simp at hxs; exact ⟨y, rfl, hxs⟩
        | cons z zs => simp at hxs
    obtain ⟨y, rfl, hy⟩ := hys
    obtain ⟨⟨ty, hsy⟩, _⟩ := opv_sound R a rfl y
    rw [hy] at hsy
    have hyv := hsy.int_inv
    have e1 : c.args.map a.eval = #[.pointer (some ⟨b, 0, none⟩), .int .u8 n] := by
      apply Array.ext'
      rw [Array.toList_map, hargs, List.map_cons, List.map_cons, hxv, hyv]; rfl
    rw [e1] at hexec
    refine Runs.enter hexec ((hB.byte hk w b p v bs hbk hp hrow hne n hn.1 hn.2.1 hn.2.2).mono fun e'' w' ⟨he, hw⟩ => ⟨_, he, ?_⟩)
    exact finish hw (fun _ _ _ t => V.slot (.raw _ rfl) t) (fun _ _ h => by cases h)
  · rename_i s hk hxs
    split at h
    rotate_left
    · cases h
    rename_i hn
    cases h
    have hys : ∃ y, xs = [y] ∧ opv st.fr y = .str s := by
      cases xs with
      | nil => simp at hxs
      | cons y ys => cases ys with
        | nil => simp at hxs; exact ⟨y, rfl, hxs⟩
        | cons z zs => simp at hxs
    obtain ⟨y, rfl, hy⟩ := hys
    obtain ⟨⟨ty, hsy⟩, _⟩ := opv_sound R a rfl y
    rw [hy] at hsy
    obtain ⟨s', hyv, rfl⟩ := hsy.str_inv
    have e1 : c.args.map a.eval = #[.pointer (some ⟨b, 0, none⟩), .string s'] := by
      apply Array.ext'
      rw [Array.toList_map, hargs, List.map_cons, List.map_cons, hxv, hyv]; rfl
    rw [e1] at hexec
    have hsz : s'.data.toList.length = s'.size := by rw [Array.length_toList]; rfl
    refine Runs.enter hexec ((hB.text hk w b p v bs hbk hp hrow hne s' (by rw [← hsz]; exact hn)).mono fun e'' w' ⟨he, hw⟩ => ⟨_, he, ?_⟩)
    refine finish hw (fun _ _ _ t => .tup rfl fun j u y h1 h2 => ?_) (fun _ _ h => by cases h)
    match j, h1, h2 with
    | 0, h1, h2 => simp at h1 h2; subst h1; subst h2; exact .int _ _
    | 1, h1, h2 => simp at h1 h2; subst h1; subst h2; exact .raw _ rfl
    | j + 2, h1, h2 => simp at h1
  · rename_i hk hxs
    split at h
    rotate_left
    · cases h
    rename_i hn
    cases h
    have hys : xs = [] := by cases xs with | nil => rfl | cons y ys => simp at hxs
    subst hys
    have e1 : c.args.map a.eval = #[.pointer (some ⟨b, 0, none⟩)] := by
      apply Array.ext'
      rw [Array.toList_map, hargs, List.map_cons, hxv]; rfl
    rw [e1] at hexec
    refine Runs.enter hexec ((hB.all hk w b p v bs hbk hp hrow hne hn).mono fun e'' w' ⟨he, hw⟩ => ⟨_, he, ?_⟩)
    refine finish hw (fun g' hn' tm t => ?_) (fun _ _ h => by cases h)
    have : V g' w' hn' (.string ⟨bs.toArray⟩) (.str (⟨bs.toArray⟩ : ByteArray).data.toList) := .str _
    exact V.slot (by simpa using this) t
  · cases h
end
end Go.PS
end

section
/-
  A slice of a whole local array that nobody looks at any more.
-/
namespace Go.PS
section
variable {g g' g1 g2 : G} {w w' w1 w2 : World} {hn hn' : Nat} {tm : Array Value} {fr fr' : Fr} {hp hp' hp1 hp2 : Heap} {P : Program} {t : Nat}

/-- The block of a variable that has gone belongs to nobody. -/
theorem Rel.freeBox {base : Nat} {d : Bool} (R : Rel g w tm fr hp) (hB : Bare fr t) {b : Nat} (how : g.own b = some (.box t)) : Rel (g.free b) w tm fr hp ∧ X base d g w hp (g.free b) w hp := by
  have fs : ∀ b' k, g.own b' = some k → k ≠ .box t → SameBlk g w (g.free b) w b' := fun b' k hk hne =>
    ⟨by simp only [G.free]; rw [if_neg]; rintro rfl; rw [how] at hk; cases hk; exact hne rfl, rfl, fun _ => Iff.rfl⟩
  have e0 : Ext0 g w hp.length (g.free b) w hp.length := ⟨fun _ _ h => ⟨h, rfl⟩, fun _ _ => rfl, fun _ _ => rfl, Nat.le_refl _⟩
  have c : Chg (fun r pre => r = .slot t ∧ pre = none) (fun _ _ => False) g w hp.length (g.free b) w hp.length :=
    ⟨e0, fun _ _ _ => rfl, fun b' r pre hb' _ => (fs b' _ hb' (by simp)).same _, fun b' t' hb' hC => (fs b' _ hb' (fun e => by cases e; exact hC ⟨rfl, rfl⟩)).same _,
      fun b' j hb' _ => (fs b' _ hb' (by simp)).same _⟩
  refine ⟨R.change c (fun t' ht => ⟨fun h => (by obtain ⟨e, _⟩ := h; cases e; exact ht hB.1), fun cs _ j y _ _ => ⟨fun h => (by cases h.2), fun _ _ _ _ _ _ _ _ => id⟩, fun _ _ _ _ _ _ _ _ => id⟩)
    (fun t' r pre hr hC => by obtain ⟨rfl, rfl⟩ := hC; exact hB.2 t' none hr)
    (fun t' r pre _ u hu => by cases pre <;> cases r <;> exact hu)
    (fun j cs hc => ⟨fun e => (by cases e.1), fun q y _ _ => ⟨fun e => (by cases e.1), fun _ _ _ _ _ _ _ _ => id⟩, fun _ _ _ _ _ _ _ => id⟩)
    (fun j ks vs hc => ⟨fun e => (by cases e.1), fun _ _ _ _ h => h⟩) R.immCell
    (fun b' k hk => by
      simp only [G.free] at hk
      split at hk
      · cases hk
      · exact R.ownLt _ _ hk)
    (fun j s n q hj h0 _ e => by cases e.1)
    (fun j T e bs hj b' hb' => fs b' _ hb' (by simp)), e0, rfl, rfl, rfl, Nat.le_refl _, fun b' hb' => ?_, fun hd' j hj => ⟨rfl, fun _ => rfl, fun b' hb' => ?_⟩⟩
  · rcases hb' with h | h <;> exact fs b' _ h (by simp)
  · rcases hb' with h | ⟨_, h⟩ <;> exact fs b' _ h (by simp)

theorem plain0_V {r : Root} {pre : Option Nat} {v : Value} {y : PV} (h : L g w hn r pre v y) (hp : plain0 y = true) (g' : G) (w' : World) (hn' : Nat) : V g' w' hn' v y := by
  cases h with
  | of h =>
    cases h with
    | int k n => exact .int k n
    | bool b => exact .bool b
    | str s => exact .str s
    | raw v h => exact .raw v h
    | _ => cases hp
  | _ => cases hp

theorem eatOK (Tb : Tabs P) {st st1 : St} {a : Act} {v0 : PV} (R : Rel g w a.tmps st.fr st.hp) {o : Oper} (hd : ∀ d, o.dst = some d → d < a.tmps.size) {T : TypeId} {x : Operand} (ho : o.op = .slice T x none none none)
    (h : eatBox P st T x = some (st1, v0)) : StepOK P a o st (setSlot st1 o.dst v0) g w := by
  unfold eatBox at h
  split at h
  rotate_left
  · cases h
  rename_i t
  split at h
  rotate_left
  · cases h
  rename_i cs n e hg hT
  split at h
  rotate_left
  · cases h
  rename_i hc
  cases h
  obtain ⟨hlen, hpl, hpos⟩ := hc
  have hz : stepA P st o = some (.vw (.slot t) none (0 + 0 * sizeT P e) (sizeT P e) (n - 0)) := by
    simp only [stepA, ho, opv, hg, Option.map_none, sliceOp, hT]
    have : bounds n none none none = some (0, n, none) := by simp [bounds, lowB]
    rw [this]
  have hm : ¬ makes P st o := by rintro (⟨_, _, _, e⟩ | ⟨_, _, _, e, _⟩) <;> (rw [ho] at e; cases e)
  obtain ⟨u, hrun, hs, _⟩ := stepA_sound Tb rfl R o hz hm
  obtain ⟨b, hO, _⟩ := R.obj (r := .slot t) (cs := cs) (by simp only [rootPV]; exact hg)
  have hu : ∃ cap, n ≤ cap ∧ u = .slice (some ⟨b, 0, none⟩) n cap := by
    have := hs 0
    rw [Nat.zero_mul, Nat.add_zero, Nat.sub_zero] at this
    generalize hy : PV.vw (.slot t) none 0 (sizeT P e) n = y at this
    cases this with
    | of h => cases h with
      | of h => cases h <;> cases hy
      | _ => cases hy
    | vw hl hle hi =>
      cases hy
      rw [hO.loc] at hl
      cases hl
      exact ⟨_, hle, rfl⟩
    | vw0 hi => cases hy; rw [Nat.zero_mul] at hlen; omega
    | _ => cases hy
  obtain ⟨cap, hle, rfl⟩ := hu
  have R1 := R.drop t
  obtain ⟨R2, X2⟩ := R1.freeBox (base := st.base) (d := st.dirty) (bare_drop _ _) hO.own
  have hcell : ∀ j (hj : j < cs.length), ∃ v, w.cell? ⟨b, 0 + j, none⟩ = some v ∧ V (((g.free b).freeze b 0 cs.length)) w st.hp.length v cs[j] := fun j hj => by
    obtain ⟨v, h1, h2⟩ := hO.cells j _ (List.getElem?_eq_getElem hj)
    exact ⟨v, by rw [Nat.zero_add]; exact h1, plain0_V h2 (List.all_eq_true.1 hpl _ (List.getElem_mem hj)) _ _ _⟩
  obtain ⟨R3, X3⟩ := R2.freezeNone (base := st.base) (d := st.dirty) (b := b) (by simp [G.free]) 0 cs.length (fun j hj => by obtain ⟨v, h1, _⟩ := hcell j hj; rw [h1]; rfl)
  have hV : V ((g.free b).freeze b 0 cs.length) w st.hp.length (.slice (some ⟨b, 0, none⟩) n cap) (.sl .sh n cs) :=
    V.sl_of (.inl rfl) hle (fun j hj => .inr ⟨rfl, by omega, by omega⟩) fun j y hy => by
      have hj := lt_of_some hy
      obtain ⟨v, h1, h2⟩ := hcell j hj
      rw [List.getElem?_eq_getElem hj] at hy
      cases hy
      exact ⟨v, h1, h2⟩
  have S : StepR st { st with fr := drop t st.fr } g w ((g.free b).freeze b 0 cs.length) w := (StepR.drop st t).trans (StepR.ofX (st := { st with fr := drop t st.fr }) rfl rfl (by simpa using X2.trans X3) id)
  exact Runs.value hrun ⟨_, Rel.putFlat (st := { st with fr := drop t st.fr }) R3 hd (fun t => hV.slot t) hV.lv, S.setSlot _ _⟩
end
end Go.PS
end

section
/-
  All operations, as the evaluator steps.
-/
namespace Go.PS
section
variable {g g' g1 g2 : G} {w w' w1 w2 : World} {hn hn' : Nat} {tm : Array Value} {fr fr' : Fr} {hp hp' hp1 hp2 : Heap} {P : Program} {t : Nat}

/-- The bytes of a text, as a new row. -/
theorem bytesOK {st : St} {a : Act} (R : Rel g w a.tmps st.fr st.hp) {o : Oper} (hd : ∀ d, o.dst = some d → d < a.tmps.size) {S D e : TypeId} {x : Operand} (ho : o.op = .convert S D x) (hS : P.underlying S = some .string)
    (hD : P.underlying D = some (.slice e)) (he : P.underlying e = some (.int .u8)) {s : List UInt8} (hx : opv st.fr x = .str s) : StepOK P a o st (setSlot st o.dst (.sl (.mu 1) s.length (ofBytes s))) g w := by
  obtain ⟨⟨tx, hs⟩, _⟩ := opv_sound R a rfl x
  rw [hx] at hs
  obtain ⟨b, hv, rfl⟩ := hs.str_inv
  let gc := grownCap w b.size 0 e
  have hge := grownCap_ge w b.size 0 e
  have hrun := run_bytes_of_string (P := P) w S D e b hS hD he
  let cells := bytesRow b gc
  have hexec : (execOp a.eval o).run P w = .ok (.value (.slice (some ⟨w.heap.size, 0, none⟩) b.size gc)) (w.drew.alloc (.cells cells e (cells.size, cells.size + 1))) := by
    simp only [execOp, ho, Sem.run_bind, hv, hrun, Result.andThen_ok, Sem.run_pure]
    rfl
  have hgr : Grow w (w.drew.alloc (.cells cells e (cells.size, cells.size + 1))) := (Grow.drew w).trans (Grow.alloc _ _)
  have R1 := R.grow hgr
  have hcell : ∀ j, (w.drew.alloc (.cells cells e (cells.size, cells.size + 1))).cell? ⟨w.heap.size, j, none⟩ = cells[j]? := fun j => by
    unfold World.cell?
    have : (w.drew.alloc (.cells cells e (cells.size, cells.size + 1))).heap[w.heap.size]? = some (.cells cells e (cells.size, cells.size + 1)) := heap_new w.drew _
    rw [this]; simp
  have hfro : ∀ j, j < cells.size → (w.drew.alloc (.cells cells e (cells.size, cells.size + 1))).frozen? ⟨w.heap.size, j, none⟩ = false := fun j hj => by
    unfold World.frozen?
    have : (w.drew.alloc (.cells cells e (cells.size, cells.size + 1))).heap[w.heap.size]? = some (.cells cells e (cells.size, cells.size + 1)) := heap_new w.drew _
    rw [this]; simp; omega
  have hsz : cells.size = gc := by
    have h1 : b.data.size = b.size := rfl
    simp only [cells, bytesRow, Array.size_append, Array.size_map, Array.size_replicate]
    omega
  have hbl : b.data.toList.length = b.size := by rw [Array.length_toList]; rfl
  have hol : (ofBytes b.data.toList).length = b.size := by simp [ofBytes, hbl]
  have hres : ResV g (w.drew.alloc (.cells cells e (cells.size, cells.size + 1))) st.hp.length (.slice (some ⟨w.heap.size, 0, none⟩) b.size gc) (.sl (.mu 1) b.data.toList.length (ofBytes b.data.toList)) := by
    rw [hbl]
    refine .mu (own_new R (Nat.le_refl _)) (by show _ < (w.drew.alloc _).heap.size; rw [size_alloc]; exact Nat.lt_succ_self _) hge (by rw [hol, Nat.mul_one]) (fun j hj => ?_) (fun j => notImm_new R (Nat.le_refl _) j) (fun j y hy => ?_) (.inr (by omega))
    · rw [Nat.mul_one] at hj
      rw [Nat.zero_add, hcell]
      exact ⟨by rw [Array.getElem?_eq_getElem (by omega)]; rfl, hfro j (by omega)⟩
    · have hlt : j < b.data.size := by have := lt_of_some hy; rw [hol] at this; exact this
      rw [Nat.zero_add, hcell]
      simp only [ofBytes, List.getElem?_map, Option.map_eq_some_iff] at hy
      obtain ⟨c, hc, rfl⟩ := hy
      refine ⟨.int .u8 c.toNat, ?_, .int _ _⟩
      simp only [cells, bytesRow]
      rw [Array.getElem?_append_left (by simpa using hlt)]
      rw [Array.getElem?_toList] at hc
      simp [hc]
  obtain ⟨g3, R3, S3⟩ := R1.landDst (a := a) (st := st) (dst := o.dst) hd hres
  exact Runs.value hexec ⟨g3, R3, (StepR.ofX rfl rfl (X.grow (base := st.base) R hgr) (by simp)).trans S3⟩

theorem conv_bytes {st : St} {s d : TypeId} {x z : PV} (h : conv P st s d x = some z) {e : TypeId} {str : List UInt8} (hd : P.underlying d = some (.slice e)) (hx : x = .str str) :
    P.underlying s = some .string ∧ P.underlying e = some (.int .u8) ∧ z = .sl (.mu 1) str.length (ofBytes str) := by
  subst hx
  unfold conv at h
  rw [hd] at h
  split at h
  · rename_i e1 e2; cases e2
  · cases ‹some (TypeDesc.slice e) = some TypeDesc.string›
  · rename_i hs e1 e2
    cases e1; cases e2
    split at h
    · rename_i he; cases h; exact ⟨hs, he, rfl⟩
    · cases h
  · rename_i e1 e2; cases e2
  · cases h

theorem preShare_sound {st : St} {a : Act} (R : Rel g w a.tmps st.fr st.hp) (dies : Nat → Bool) (x : Operand) : ∃ g', Rel g' w a.tmps (preShare dies st x).fr (preShare dies st x).hp ∧ StepR st (preShare dies st x) g w g' w := by
  unfold preShare
  split
  · split
    · exact ⟨g, R, StepR.refl _ _ _⟩
    · split
      · rename_i st1 y h
        obtain ⟨g', R', S', _⟩ := shareAt_sound R h
        exact ⟨g', R', S'⟩
      · exact ⟨g, R, StepR.refl _ _ _⟩
  · exact ⟨g, R, StepR.refl _ _ _⟩
theorem preShares_sound {a : Act} (dies : Nat → Bool) : ∀ (xs : List (Nat × Operand)) {st : St} {g : G}, Rel g w a.tmps st.fr st.hp →
    ∃ g', Rel g' w a.tmps (xs.foldl (fun st p => preShare dies st p.2) st).fr (xs.foldl (fun st p => preShare dies st p.2) st).hp ∧ StepR st (xs.foldl (fun st p => preShare dies st p.2) st) g w g' w
  | [], st, g, R => ⟨g, R, StepR.refl _ _ _⟩
  | x :: xs, st, g, R => by
    obtain ⟨g1, R1, S1⟩ := preShare_sound R dies x.2
    obtain ⟨g2, R2, S2⟩ := preShares_sound dies xs R1
    exact ⟨g2, R2, S1.trans S2⟩
theorem StepOK.pre {st st1 st' : St} {a : Act} {o : Oper} (S : StepR st st1 g w g1 w) (h : StepOK P a o st1 st' g1 w) : StepOK P a o st st' g w := by
  unfold StepOK Runs at h ⊢
  split <;> simp_all only []
  · obtain ⟨g2, R2, S2⟩ := h; exact ⟨g2, R2, S.trans S2⟩
  · obtain ⟨g2, R2, S2⟩ := h; exact ⟨g2, R2, S.trans S2⟩
  · exact h.mono fun e w'' ⟨v, he, g2, R2, S2⟩ => ⟨v, he, g2, R2, S.trans S2⟩

theorem stepOp_sound (Tb : Tabs P) {st st' : St} {a : Act} (R : Rel g w a.tmps st.fr st.hp) (hb : Bok P st g w) {H : Hint} {own : FuncId → Option Nat} {callF : CallF} (hcall : CallS P own callF) {o : Oper} (hd : ∀ d, o.dst = some d → d < a.tmps.size)
    (h : stepOp P H own callF st o = some st') : StepOK P a o st st' g w := by
  have pure' : ∀ (hm : ¬ makes P st o), (stepA P st o).map (fun v => setSlot st o.dst v) = some st' → StepOK P a o st st' g w := fun hm h => by
    simp only [Option.map_eq_some_iff] at h
    obtain ⟨z, hz, rfl⟩ := h
    exact pureOK Tb R o hd hz hm
  have h0 := h
  cases ho : o.op with
  | assign x =>
    simp only [stepOp, ho] at h
    split at h
    · rename_i t hdst
      obtain ⟨g1, R1, S1⟩ := preShare_sound R H.dies x
      exact StepOK.pre S1 (assignOK R1 hdst (hd t hdst) ho h)
    · cases h
  | store T x y =>
    simp only [stepOp, ho] at h
    obtain ⟨g1, R1, S1⟩ := preShare_sound R H.dies y
    exact StepOK.pre S1 (storeOK R1 hd ho h)
  | alloc T => exact allocOK R hb.1 hd ho h0
  | box T x =>
    simp only [stepOp, ho] at h
    obtain ⟨g1, R1, S1⟩ := preShare_sound R H.dies x
    exact StepOK.pre S1 (boxOK R1 (S1.baseOk hb.1) hd ho h)
  | build T parts =>
    simp only [stepOp, ho] at h
    obtain ⟨g1, R1, S1⟩ := preShares_sound H.dies parts.toList R
    exact StepOK.pre S1 (buildOK Tb R1 hd ho h)
  | buildSlice T n parts => exact buildSliceOK R hd ho h0
  | makeFunc fn first cap =>
    cases fn with
    | func f => exact makeFuncOK R hd ho h0
    | _ => simp [stepOp, ho, stepA] at h
  | makeMap T r => exact makeMapOK R hb.1 hd ho h0
  | lookup T x ix ok =>
    simp only [stepOp, ho] at h
    split at h
    · rename_i z hz
      cases h
      obtain ⟨⟨tx, hx⟩, _⟩ := opv_sound R a rfl x
      obtain ⟨⟨ti, hi⟩, _⟩ := opv_sound R a rfl ix
      obtain ⟨v, h1, h2, h3⟩ := lookup_sound R hx hi hz
      exact Runs.value (v := v) (by simp [execOp, ho, h1]) ⟨g, R.putFlat hd h2 h3, (StepR.refl _ _ _).setSlot _ _⟩
    · cases h
  | mapUpdate T m k x =>
    simp only [stepOp, ho] at h
    split at h
    · rename_i st1 hm
      cases h
      exact mapPutOK R hd (.inl ho) hm
    · cases h
  | insert T m k x =>
    simp only [stepOp, ho] at h
    split at h
    · rename_i st1 hm
      cases h
      exact mapPutOK R hd (.inr ho) hm
    · cases h
  | makeSlice T l c =>
    simp only [stepOp, ho] at h
    split at h
    · rename_i d hdst
      simp only [Option.map_eq_some_iff] at h
      obtain ⟨z, hz, rfl⟩ := h
      exact makeSliceOK R hdst (hd d hdst) ho hz
    · cases h
  | call c =>
    simp only [stepOp, ho] at h
    have hnm : ¬ makes P st o := by
      rintro (⟨_, _, _, e⟩ | ⟨_, _, _, e, _⟩) <;> (rw [ho] at e; cases e)
    cases hc : c.callee with
    | builtin b =>
      simp only [hc] at h
      split at h
      · rename_i e; cases e
        split at h
        · rename_i x y T Ts hargs hT
          split at h
          · rename_i st1 n hop
            cases h
            exact copyOK Tb R hd ho hc hargs hT hop
          · cases h
        · cases h
      · rename_i e; cases e
        split at h
        · rename_i x T hargs hT
          split at h
          · rename_i st1 hop
            cases h
            exact clearOK Tb R hd ho hc hargs hT hop
          · cases h
        · cases h
      · rename_i e; cases e
        split at h
        · rename_i x y T U hargs hT
          split at h
          · rename_i hU
            split at h
            · rename_i st1 v hop
              cases h
              split at hop
              · exact appendNestOK R hb.1 hd ho hc hargs hT hU hop
              · exact appendOK R hd ho hc hargs hT hU hop
            · cases h
          · cases h
        · cases h
      · exact pure' hnm h
      · rename_i e; cases e
      · cases h
    | value fo =>
      simp only [hc] at h
      split at h
      · rename_i f cap hf
        split at h
        · rename_i k hk; exact bldOK R (hcall.bld f k hk) hd ho hc hf h
        · split at h
          · rename_i k hk; exact sortOK R (hcall.sort f k hk) hd ho hc hf h
          · split at h
            · rename_i e he
              simp only [Option.map_eq_some_iff] at h
              obtain ⟨z, hz, rfl⟩ := h
              exact extOK R (hcall.ext f e he) hd ho hc hf hz
            · exact callOK R hb hcall.call hd ho hc hf h
      · cases h
    | invoke r n => simp [hc] at h
  | convert s d x =>
    simp only [stepOp, ho] at h
    by_cases hm : makes P st o
    · rcases hm with ⟨_, _, _, e⟩ | ⟨s', d', x', e, e', str, hd', hx'⟩
      · rw [ho] at e; cases e
      · rw [ho] at e; cases e
        simp only [Option.map_eq_some_iff, stepA, ho] at h
        obtain ⟨z, hz, rfl⟩ := h
        obtain ⟨h1, h2, rfl⟩ := conv_bytes hz hd' hx'
        exact bytesOK R hd ho h1 hd' h2 hx'
    · exact pure' hm h
  | slice T x lo hi mx =>
    have hm : ¬ makes P st o := by rintro (⟨_, _, _, e⟩ | ⟨_, _, _, e, _⟩) <;> (rw [ho] at e; cases e)
    cases lo <;> cases hi <;> cases mx <;> simp only [stepOp, ho] at h <;> first
      | exact pure' hm h
      | (split at h
         · split at h
           · rename_i st1 v hv; cases h; exact eatOK Tb R hd ho hv
           · cases h
         · exact pure' hm h)
  | load T x =>
    simp only [stepOp, ho] at h
    have plain : ∀ {st1 : St} {g1 : G}, Rel g1 w a.tmps st1.fr st1.hp → StepR st st1 g w g1 w → (stepA P st1 o).map (fun v => setSlot st1 o.dst v) = some st' → StepOK P a o st st' g w := fun {st1 g1} R1 S1 h => by
      simp only [Option.map_eq_some_iff] at h
      obtain ⟨z, hz, rfl⟩ := h
      have hm : ¬ makes P st1 o := by rintro (⟨_, _, _, e⟩ | ⟨_, _, _, e, _⟩) <;> (rw [ho] at e; cases e)
      exact StepOK.pre S1 (pureOK Tb R1 o hd hz hm)
    split at h
    · rename_i t0 off0 _
      split at h
      · obtain ⟨g1, R1, S1, _⟩ := shareRange_sound R (.slot t0) off0 (sizeT P T)
        exact plain R1 S1 h
      · exact plain R (StepR.refl _ _ _) h
    · rename_i t0 off0 _
      split at h
      · obtain ⟨g1, R1, S1, _⟩ := shareRange_sound R (.heap t0) off0 (sizeT P T)
        exact plain R1 S1 h
      · exact plain R (StepR.refl _ _ _) h
    · exact plain R (StepR.refl _ _ _) h
  | _ =>
    simp only [stepOp, ho] at h
    refine pure' ?_ h
    rintro (⟨_, _, _, e⟩ | ⟨_, _, _, e, _⟩) <;> (rw [ho] at e; cases e)
end
end Go.PS
end

section
/-
  Regions whose order is given.
-/
namespace Go.PS
section
variable {g g' g1 g2 : G} {w w' w1 w2 : World} {hn hn' : Nat} {tm : Array Value} {fr fr' : Fr} {hp hp' hp1 hp2 : Heap} {P : Program} {t : Nat}

/-- Behind a stretch of the code. -/
structure After (st st' : St) (g : G) (a : Act) (w : World) (a' : Act) (w' : World) : Prop where
  rel : ∃ g', Rel g' w' a'.tmps st'.fr st'.hp ∧ StepR st st' g w g' w'
  size : a'.tmps.size = a.tmps.size
  rest : a'.defers = a.defers

theorem Runs.wp {a : Act} {o : Oper} {K : Value → World → Prop} {next : Act → World → Prop} {Q : Exit → Act → World → Prop} (h : Runs P a o w K) (hK : ∀ v w', K v w' → next (a.put o.dst v) w') : o.wp P a w next Q := by
  unfold Runs at h
  unfold Oper.wp
  generalize (execOp a.eval o).run P w = r at *
  split at h
  · exact hK _ _ h
  · exact hK _ _ h
  · refine Calls.mono h fun e w'' he => ?_
    obtain ⟨v, rfl, hv⟩ := he
    exact hK _ _ hv
  · exact h.elim

theorem wanted_sound (R : Rel g w tm fr hp) {ops : Array Oper} {o : Oper} {b : Bool} (h : wantedP ops fr o = some b) : Region.wanted o (yielded ops tm) = b := by
  unfold wantedP at h
  unfold Region.wanted
  split at h
  · rename_i hg; cases h; simp [hg]
  · rename_i j want hg
    split at h
    · rename_i t hj
      split at h
      · rename_i c hc
        cases h
        have hs := R.slots t
        rw [hc] at hs
        have hv := hs.bool_inv
        have hlt := R.size t (by rw [hc]; simp)
        have hv' : tm[t]? = some (.bool c) := by
          rw [Array.getElem?_eq_getElem hlt]
          simpa [Array.getD, hlt] using hv
        simp [hg, yielded, hj, hv']
      · rename_i cs hc
        cases h
        have hs := R.slots t
        rw [hc] at hs
        have hlt := R.size t (by rw [hc]; simp)
        have hv' : tm[t]? = some (tm.getD t Go.undef) := by
          rw [Array.getElem?_eq_getElem hlt]
          simp [Array.getD, hlt]
        have hv : tm.getD t Go.undef = .tuple cs := by
          generalize tm.getD t Go.undef = v at hs
          cases hs with | of hs => cases hs with | of hs => cases hs; rfl
        rw [hv] at hv'
        simp [hg, yielded, hj, hv']
      · cases h
    · cases h

theorem evalOps_sound (Tb : Tabs P) {H : Hint} {own : FuncId → Option Nat} {callF : CallF} (hcall : CallS P own callF) {ops : Array Oper} {Q : Exit → Act → World → Prop} : ∀ (l : List Oper) {st st' : St} {a : Act} {w : World} {g : G},
    Rel g w a.tmps st.fr st.hp → Bok P st g w → (∀ o ∈ l, ∀ d, o.dst = some d → d < a.tmps.size) → evalOps P H own callF ops l st = some st' →
    (∀ a' w', After st st' g a w a' w' → Q .normal a' w') → wpList P ops Q l a w
  | [], st, st', a, w, g, R, hb, hd, h, hQ => by
    cases h
    exact hQ a w ⟨⟨g, R, StepR.refl _ _ _⟩, rfl, rfl⟩
  | o :: l, st, st', a, w, g, R, hb, hd, h, hQ => by
    have hdo := hd o (by simp)
    have hsz : ∀ v, (a.put o.dst v).tmps.size = a.tmps.size := fun v => by cases o.dst <;> simp [Act.put]
    have hrest : ∀ v, (a.put o.dst v).defers = a.defers := fun v => by cases o.dst <;> rfl
    refine wpList_step fun K hK => ?_
    unfold evalOps at h
    split at h
    · rename_i hw
      rw [wanted_sound R hw]
      simp only [if_true]
      split at h
      · rename_i st1 hs
        refine (stepOp_sound Tb R hb hcall hdo hs).wp fun v w1 ⟨g1, R1, S1⟩ => hK _ _ ?_
        exact evalOps_sound Tb hcall l R1 (S1.bok hb) (fun o' ho' d hd' => by rw [hsz]; exact hd o' (by simp [ho']) d hd') h fun a' w' ⟨⟨g2, R2, S2⟩, h2, h3⟩ =>
          hQ a' w' ⟨⟨g2, R2, S1.trans S2⟩, h2.trans (hsz v), h3.trans (hrest v)⟩
      · cases h
    · rename_i hw
      rw [wanted_sound R hw]
      simp only [Bool.false_eq_true, if_false]
      refine hK _ _ ?_
      have hV : V g w st.hp.length Go.undef (.raw (.tuple #[])) := .raw _ rfl
      have R1 := R.putFlat hdo (fun t => hV.slot t) hV.lv
      have S1 : StepR st (setSlot st o.dst (.raw (.tuple #[]))) g w g w := (StepR.refl _ _ _).setSlot _ _
      exact evalOps_sound Tb hcall l R1 (S1.bok hb) (fun o' ho' d hd' => by rw [hsz]; exact hd o' (by simp [ho']) d hd') h fun a' w' ⟨⟨g2, R2, S2⟩, h2, h3⟩ =>
          hQ a' w' ⟨⟨g2, R2, S1.trans S2⟩, h2.trans (hsz _), h3.trans (hrest _)⟩
    · cases h

theorem evalOps_wp (Tb : Tabs P) {H : Hint} {own : FuncId → Option Nat} {callF : CallF} (hcall : CallS P own callF) {ops : Array Oper} {Q : Exit → Act → World → Prop} {l2 : List Oper} : ∀ (l : List Oper) {st st' : St} {a : Act} {w : World} {g : G},
    Rel g w a.tmps st.fr st.hp → Bok P st g w → (∀ o ∈ l, ∀ d, o.dst = some d → d < a.tmps.size) → evalOps P H own callF ops l st = some st' →
    (∀ a' w', After st st' g a w a' w' → wpList P ops Q l2 a' w') → wpList P ops Q (l ++ l2) a w
  | [], st, st', a, w, g, R, hb, hd, h, hQ => by
    cases h
    rw [List.nil_append]
    exact hQ a w ⟨⟨g, R, StepR.refl _ _ _⟩, rfl, rfl⟩
  | o :: l, st, st', a, w, g, R, hb, hd, h, hQ => by
    have hdo := hd o (by simp)
    have hsz : ∀ v, (a.put o.dst v).tmps.size = a.tmps.size := fun v => by cases o.dst <;> simp [Act.put]
    have hrest : ∀ v, (a.put o.dst v).defers = a.defers := fun v => by cases o.dst <;> rfl
    rw [List.cons_append]
    refine wpList_step fun K hK => ?_
    unfold evalOps at h
    split at h
    · rename_i hw
      rw [wanted_sound R hw]
      simp only [if_true]
      split at h
      · rename_i st1 hs
        refine (stepOp_sound Tb R hb hcall hdo hs).wp fun v w1 ⟨g1, R1, S1⟩ => hK _ _ ?_
        exact evalOps_wp Tb hcall l R1 (S1.bok hb) (fun o' ho' d hd' => by rw [hsz]; exact hd o' (by simp [ho']) d hd') h fun a' w' ⟨⟨g2, R2, S2⟩, h2, h3⟩ =>
          hQ a' w' ⟨⟨g2, R2, S1.trans S2⟩, h2.trans (hsz v), h3.trans (hrest v)⟩
      · cases h
    · rename_i hw
      rw [wanted_sound R hw]
      simp only [Bool.false_eq_true, if_false]
      refine hK _ _ ?_
      have hV : V g w st.hp.length Go.undef (.raw (.tuple #[])) := .raw _ rfl
      have R1 := R.putFlat hdo (fun t => hV.slot t) hV.lv
      have S1 : StepR st (setSlot st o.dst (.raw (.tuple #[]))) g w g w := (StepR.refl _ _ _).setSlot _ _
      exact evalOps_wp Tb hcall l R1 (S1.bok hb) (fun o' ho' d hd' => by rw [hsz]; exact hd o' (by simp [ho']) d hd') h fun a' w' ⟨⟨g2, R2, S2⟩, h2, h3⟩ =>
          hQ a' w' ⟨⟨g2, R2, S1.trans S2⟩, h2.trans (hsz _), h3.trans (hrest _)⟩
    · cases h

theorem shareAt_len {st st1 : St} {r : Root} {pre : Option Nat} {y : PV} (h : shareAt st r pre = some (st1, y)) : st1.hp.length = st.hp.length := by
  unfold shareAt at h
  split at h
  · cases h
    cases pre with
    | none => exact putRoot_length _ _ _
    | some o => exact putRoot_length _ _ _
  · cases h; rfl
  · cases h
theorem shareRange_len {st : St} (r : Root) (off : Nat) : ∀ k, (shareRange st r off k).hp.length = st.hp.length
  | 0 => rfl
  | k + 1 => by
    unfold shareRange
    split
    · rename_i h; rw [shareAt_len h, shareRange_len r off k]
    · exact shareRange_len r off k

/-- A call, run: what it answers, beside what stood ahead of it. -/
theorem callRun {st st1 : St} {a : Act} (R : Rel g w a.tmps st.fr st.hp) {callF : CallF} (hcall : CallSound P callF) (hpin : Pin P g w) {o : Oper} {c : Call} {fo : Operand} (ho : o.op = .call c) (hc : c.callee = .value fo)
    {f : FuncId} {cap vs : List PV} (hf : opv st.fr fo = .fn f cap) (ht : takeArgs st c.args.toList none = some (st1, vs)) {r : PV} {hp' : Heap} {d : Bool} (hcf : callF f (vs ++ cap) st1.hp = some (r, hp', d)) :
    ∃ g1 us, g1.own = g.own ∧ Ext0 g w st.hp.length g1 w st1.hp.length ∧ st1.hp.length = st.hp.length ∧ (execOp a.eval o).run P w = .ok (.enter f us) w ∧
      Calls P f us w fun e w' => ∃ v g', e = .returned v ∧ Rel g' w' #[] [] hp' ∧ X st1.hp.length d g1.hide w st1.hp g' w' hp' ∧ ResV g' w' hp'.length v r := by
  obtain ⟨g1, R1, S1, hlen, ⟨k, hV, hVk⟩, e1, o1⟩ := takeArgs_sound rfl R ht
  obtain ⟨⟨tf, hs⟩, _⟩ := opv_sound R a rfl fo
  rw [hf] at hs
  obtain ⟨cv, hfv, hcs, hcv⟩ := hs.fn_inv
  let us : Array Value := c.args.map a.eval ++ cv
  have hus : us.size = (vs ++ cap).length := by simp [us, hcs]; simpa using hlen.symm
  have hl : vs.length = c.args.size := by simpa using hlen
  have look : ∀ (j : Nat) (u : Value) (y : PV), us[j]? = some u → (vs ++ cap)[j]? = some y → (∃ x, j < c.args.size ∧ c.args.toList[j]? = some x ∧ u = a.eval x ∧ vs[j]? = some y) ∨ (c.args.size ≤ j ∧ V g1 w st1.hp.length u y) := by
    intro j u y hu hy
    simp only [us, Array.getElem?_append, Array.size_map] at hu
    rw [List.getElem?_append] at hy
    by_cases hj : j < c.args.size
    · rw [if_pos hj] at hu
      rw [if_pos (by omega)] at hy
      simp only [Array.getElem?_map, Option.map_eq_some_iff] at hu
      obtain ⟨x, hx, rfl⟩ := hu
      exact .inl ⟨x, hj, by simpa using hx, rfl, hy⟩
    · rw [if_neg hj] at hu
      rw [if_neg (by omega), hl] at hy
      exact .inr ⟨by omega, (hcv _ u y hu hy).mono S1.x.e0⟩
  have hArgs : ArgsV g1.hide w st1.hp.length us (vs ++ cap) := by
    refine ⟨k, fun j u y hj hu hy => ?_, fun u y hu hy => ?_⟩
    · rcases look j u y hu hy with ⟨x, _, hx, rfl, hy'⟩ | ⟨_, h⟩
      · exact (hV j x y hj hx hy').hide
      · exact h.hide
    · rcases look k u y hu hy with ⟨x, _, hx, rfl, hy'⟩ | ⟨_, h⟩
      · exact (hVk x y hx hy').hide
      · exact .of h.hide
  obtain ⟨hrun, hcalls⟩ := hcall f (vs ++ cap) st1.hp r hp' d hcf g1.hide w us R1.hide (hpin.mono S1.x).hide hus hArgs
  refine ⟨g1, us, o1 rfl, S1.x.e0, e1, ?_, hcalls⟩
  simp only [execOp, ho, resolve, hc, hfv, Deferred.ofValue, Sem.run_bind, Sem.run_pure, Result.andThen_ok, invoke]
  have he : (#[] ++ c.args.map a.eval) ++ cv = us := by simp [us]
  rw [he]
  exact hrun

theorem stepLC_sound (Tb : Tabs P) {st st' : St} {a : Act} (R : Rel g w a.tmps st.fr st.hp) (hb : Bok P st g w) {H : Hint} {own : FuncId → Option Nat} {callF : CallF} (hcall : CallS P own callF) {o1 o2 : Oper}
    (hd1 : ∀ d, o1.dst = some d → d < a.tmps.size) (hd2 : ∀ d, o2.dst = some d → d < a.tmps.size) (h : stepLC P H own callF st o1 o2 = some st') :
    o1.guard = none ∧ o2.guard = none ∧ Runs P a o1 w fun v1 w1 => Runs P (a.put o1.dst v1) o2 w1 fun v2 w2 => ∃ g', Rel g' w2 ((a.put o1.dst v1).put o2.dst v2).tmps st'.fr st'.hp ∧ StepR st st' g w g' w2 := by
  unfold stepLC at h
  split at h
  rotate_left
  · cases h
  rename_i T x t c ho1 hdst hg1 ho2 hg2
  split at h
  rotate_left
  · cases h
  rename_i fo hc
  split at h
  · cases h
  rename_i st1 hs
  split at h
  rotate_left
  · cases h
  rename_i f cap hf
  split at h
  rotate_left
  · cases h
  split at h
  · cases h
  rename_i st2 vs ht
  split at h
  rotate_left
  · cases h
  rename_i r hp' hcf
  split at h
  rotate_left
  · cases h
  rename_i hpl
  cases h
  refine ⟨hg1, hg2, ?_⟩
  have hload : ∃ (sts : St) (gs : G) (z : PV), Rel gs w a.tmps sts.fr sts.hp ∧ StepR st sts g w gs w ∧ gs.own = g.own ∧ sts.hp.length = st.hp.length ∧ stepA P sts o1 = some z ∧ st1 = setSlot sts o1.dst z := by
    simp only [stepOp, ho1] at hs
    have plain : ∀ {sts : St} {gs : G}, Rel gs w a.tmps sts.fr sts.hp → StepR st sts g w gs w → gs.own = g.own → sts.hp.length = st.hp.length → (stepA P sts o1).map (fun v => setSlot sts o1.dst v) = some st1 →
        ∃ (sts : St) (gs : G) (z : PV), Rel gs w a.tmps sts.fr sts.hp ∧ StepR st sts g w gs w ∧ gs.own = g.own ∧ sts.hp.length = st.hp.length ∧ stepA P sts o1 = some z ∧ st1 = setSlot sts o1.dst z := fun {sts gs} R1 S1 e l h => by
      simp only [Option.map_eq_some_iff] at h
      obtain ⟨z, hz, rfl⟩ := h
      exact ⟨sts, gs, z, R1, S1, e, l, hz, rfl⟩
    split at hs
    · rename_i t0 off0 _
      split at hs
      · obtain ⟨g1, R1, S1, e⟩ := shareRange_sound R (.slot t0) off0 (sizeT P T)
        exact plain R1 S1 e (shareRange_len _ _ _) hs
      · exact plain R (StepR.refl _ _ _) rfl rfl hs
    · rename_i t0 off0 _
      split at hs
      · obtain ⟨g1, R1, S1, e⟩ := shareRange_sound R (.heap t0) off0 (sizeT P T)
        exact plain R1 S1 e (shareRange_len _ _ _) hs
      · exact plain R (StepR.refl _ _ _) rfl rfl hs
    · exact plain R (StepR.refl _ _ _) rfl rfl hs
  obtain ⟨sts, gs, z, Rs, Ss, es, ls, hz, rfl⟩ := hload
  have hm : ¬ makes P sts o1 := by rintro (⟨_, _, _, e⟩ | ⟨_, _, _, e, _⟩) <;> (rw [ho1] at e; cases e)
  obtain ⟨v1, e1, h2, h3⟩ := stepA_sound Tb rfl Rs o1 hz hm
  refine Runs.value e1 ?_
  have R1 := Rs.putFlat hd1 h2 h3
  have hl1 : (setSlot sts o1.dst z).hp.length = st.hp.length := by rw [(setSlot_rest sts o1.dst z).1]; exact ls
  obtain ⟨g2, us, o2', ext, l2, hexec, hcalls⟩ := callRun R1 hcall.call (hb.2.mono Ss.x) ho2 hc hf ht hcf
  have Rt : Rel g w (a.put o1.dst v1).tmps (setFr st.fr t .undef) st.hp := by
    rw [hdst]
    exact (R.clearSlot (hd1 t hdst) v1).1
  refine Runs.enter hexec (hcalls.mono fun e w' hpost => ?_)
  obtain ⟨v, g', rfl, R', x, hres⟩ := hpost
  refine ⟨v, rfl, ?_⟩
  have ext0 : Ext0 g w st.hp.length g2 w st2.hp.length := by
    have := (Ss.setSlot o1.dst z).x.e0
    exact this.trans ext
  obtain ⟨g0, R0, res0, X0⟩ := plainBack (base := st.base) (d0 := st.dirty) (hp' := hp') Rt (o2'.trans es) ext0 (l2.trans hl1) hb.1 x hres hpl
  have hsz : (a.put o1.dst v1).tmps.size = a.tmps.size := by rw [hdst]; simp [Act.put]
  obtain ⟨g3, R3, S3⟩ := Rel.landDst (a := a.put o1.dst v1) (st := { st with fr := setFr st.fr t .undef }) (dst := o2.dst) R0 (fun d hd => by rw [hsz]; exact hd2 d hd) res0
  exact ⟨g3, R3, StepR.trans (st1 := { st with fr := setFr st.fr t .undef }) ⟨rfl, id, X0⟩ S3⟩

theorem evalOpsL_sound (Tb : Tabs P) {H : Hint} {own : FuncId → Option Nat} {callF : CallF} (hcall : CallS P own callF) {ops : Array Oper} {Q : Exit → Act → World → Prop} {k : Nat} {l : List Oper} {st st' : St} {a : Act} {w : World} {g : G}
    (R : Rel g w a.tmps st.fr st.hp) (hb : Bok P st g w) (hd : ∀ o ∈ l, ∀ d, o.dst = some d → d < a.tmps.size) (h : evalOpsL P H own callF ops k l st = some st')
    (hQ : ∀ a' w', After st st' g a w a' w' → Q .normal a' w') : wpList P ops Q l a w := by
  unfold evalOpsL at h
  split at h
  · cases h
  rename_i st1 h1
  split at h
  rotate_left
  · cases h
  rename_i o1 o2 rest hdrop
  split at h
  · cases h
  rename_i st2 h2
  have hl : l = l.take k ++ (o1 :: o2 :: rest) := by rw [← hdrop]; exact (List.take_append_drop k l).symm
  rw [hl] at hd ⊢
  refine evalOps_wp Tb hcall (l.take k) R hb (fun o ho d hod => hd o (by simp [ho]) d hod) h1 fun a1 w1 A1 => ?_
  obtain ⟨⟨g1, R1, S1⟩, s1, r1⟩ := A1
  obtain ⟨q1, q2, hrun⟩ := stepLC_sound Tb R1 (S1.bok hb) hcall (fun d hod => by rw [s1]; exact hd o1 (by simp) d hod) (fun d hod => by rw [s1]; exact hd o2 (by simp) d hod) h2
  have hsz : ∀ (a : Act) (o : Option Nat) v, (a.put o v).tmps.size = a.tmps.size := fun a o v => by cases o <;> simp [Act.put]
  have hrest : ∀ (a : Act) (o : Option Nat) v, (a.put o v).defers = a.defers := fun a o v => by cases o <;> rfl
  refine wpList_step fun K hK => ?_
  have hw1 : Region.wanted o1 (yielded ops a1.tmps) = true := by unfold Region.wanted; rw [q1]
  rw [hw1]
  simp only [if_true]
  refine hrun.wp fun v1 w2 hrun2 => hK _ _ ?_
  refine wpList_step fun K2 hK2 => ?_
  have hw2 : Region.wanted o2 (yielded ops (a1.put o1.dst v1).tmps) = true := by unfold Region.wanted; rw [q2]
  rw [hw2]
  simp only [if_true]
  refine hrun2.wp fun v2 w3 ⟨g3, R3, S3⟩ => hK2 _ _ ?_
  exact evalOps_sound Tb hcall rest R3 ((S1.trans S3).bok hb) (fun o ho d hod => by rw [hsz, hsz, s1]; exact hd o (by simp [ho]) d hod) h fun a' w' ⟨⟨g4, R4, S4⟩, h4, h5⟩ =>
    hQ a' w' ⟨⟨g4, R4, (S1.trans S3).trans S4⟩, (h4.trans (hsz _ _ _)).trans ((hsz _ _ _).trans s1), (h5.trans (hrest _ _ _)).trans ((hrest _ _ _).trans r1)⟩
end
end Go.PS
end

section
/-
  Code.
-/
namespace Go.PS
section
variable {g g' g1 g2 : G} {w w' w1 w2 : World} {hn hn' : Nat} {tm : Array Value} {fr fr' : Fr} {hp hp' hp1 hp2 : Heap} {P : Program} {t : Nat}

theorem get_map (f : Nat → PV) : ∀ (keep : List Nat) (t : Nat), get (keep.map fun t => (t, f t)) t = if t ∈ keep then f t else .undef
  | [], t => rfl
  | k :: ks, t => by
    rw [List.map_cons, get_cons, get_map f ks t]
    by_cases h : k = t
    · subst h; simp
    · rw [if_neg h]
      by_cases h2 : t ∈ ks
      · simp [h2]
      · rw [if_neg h2, if_neg (by simp [h2, Ne.symm h])]

theorem keepRef_cases (keep : List Nat) (v : PV) : keepRef keep v = v ∨ keepRef keep v = .undef := by
  cases v with
  | ptr r pre off => cases r <;> simp [keepRef, Decidable.em]
  | hd r pre => cases r <;> simp [keepRef, Decidable.em]
  | vw r pre off sz n => cases r <;> simp [keepRef, Decidable.em]
  | _ => exact .inl rfl
theorem keepRef_ref {keep : List Nat} {v : PV} {t : Nat} {pre : Option Nat} (h : refOf (keepRef keep v) = some (.slot t, pre)) : refOf v = some (.slot t, pre) ∧ t ∈ keep := by
  cases v with
  | ptr r p off => cases r <;> simp only [keepRef] at h <;> (try split at h) <;> simp_all [refOf]
  | hd r p => cases r <;> simp only [keepRef] at h <;> (try split at h) <;> simp_all [refOf]
  | vw r p off sz n => cases r <;> simp only [keepRef] at h <;> (try split at h) <;> simp_all [refOf]
  | _ => cases h
theorem keepRef_rooty {keep : List Nat} {v : PV} (h : rooty v = true) : keepRef keep v = v := by
  cases v <;> first | rfl | cases h

theorem softAll_sound : ∀ (xs : List (Nat × Option Nat)) {st : St} {g : G}, Rel g w tm st.fr st.hp →
    ∃ g', Rel g' w tm (softAll xs st).fr (softAll xs st).hp ∧ StepR st (softAll xs st) g w g' w
  | [], st, g, R => ⟨g, R, StepR.refl _ _ _⟩
  | x :: xs, st, g, R => by
    have h1 : ∃ g', Rel g' w tm (soft1 st x).fr (soft1 st x).hp ∧ StepR st (soft1 st x) g w g' w := by
      unfold soft1
      split
      · rename_i st1 y h
        obtain ⟨g', R', S', _⟩ := shareAt_sound R h
        exact ⟨g', R', S'⟩
      · exact ⟨g, R, StepR.refl _ _ _⟩
    obtain ⟨g1, R1, S1⟩ := h1
    obtain ⟨g2, R2, S2⟩ := softAll_sound xs R1
    exact ⟨g2, R2, S1.trans S2⟩
theorem canon_sound {st : St} (R : Rel g w tm st.fr st.hp) (keep : List Nat) : Rel g w tm (canon keep st).fr (canon keep st).hp ∧ StepR st (canon keep st) g w g w := by
  refine ⟨?_, ⟨rfl, id, X.refl _ _ _ _ _⟩⟩
  show Rel g w tm (keep.map fun t => (t, keepRef keep (get st.fr t))) st.hp
  refine R.weaken (fun t => ?_) (fun t t' pre h => ?_)
  · rw [get_map]; split
    · exact keepRef_cases _ _
    · exact .inr rfl
  · rw [get_map] at h ⊢
    split at h
    · obtain ⟨h1, h2⟩ := keepRef_ref h
      rw [if_pos h2]
      exact keepRef_rooty (rooty_of_rootOk (R.live t t' pre h1))
    · cases h

theorem After.trans {st st1 st2 : St} {a a1 a2 : Act} (h : After st st1 g a w a1 w1) (h' : ∀ g1, Rel g1 w1 a1.tmps st1.fr st1.hp → StepR st st1 g w g1 w1 → After st1 st2 g1 a1 w1 a2 w2) : After st st2 g a w a2 w2 := by
  obtain ⟨⟨g1, R1, S1⟩, h2, h3⟩ := h
  obtain ⟨⟨g2, R2, S2⟩, h4, h5⟩ := h' g1 R1 S1
  exact ⟨⟨g2, R2, S1.trans S2⟩, h4.trans h2, h5.trans h3⟩

def exOf : Ex → Exit
  | .normal => .normal
  | .exit id => .exit id
  | .goto l => .goto l
  | .ret => .ret

def wfOps (n : Nat) (ops : List Oper) : Bool := ops.all fun o => match o.dst with | some d => decide (d < n) | none => true
theorem wfOps_spec {n : Nat} {ops : List Oper} (h : wfOps n ops = true) : ∀ o ∈ ops, ∀ d, o.dst = some d → d < n := fun o ho d hd => by
  have := List.all_eq_true.1 h o ho
  simpa [hd] using this
def wfCode (H : Hint) (n : Nat) : Code → Bool
  | .region id ops dr => wfOps n ops.toList && (!dr || drawChk ops (H.free id) (H.pairs id))
  | .seq a b => wfCode H n a && wfCode H n b
  | .cond _ a b => wfCode H n a && wfCode H n b
  | .block _ c | .loop c | .scope c => wfCode H n c
  | _ => true

theorem then_of {next : Act → World → Prop} {Q : Exit → Act → World → Prop} {e : Ex} {a : Act} {w : World} (h : e = .normal → next a w) (h' : e ≠ .normal → Q (exOf e) a w) : Exit.then next Q (exOf e) a w := by
  cases e with
  | normal => exact h rfl
  | exit id => exact h' (by simp)
  | goto l => exact h' (by simp)
  | ret => exact h' (by simp)

/-- What a region that asks for its order may do. -/
def DrawOK (P : Program) (H : Hint) (own : FuncId → Option Nat) (callF : CallF) (n : Nat) : Prop :=
  ∀ (id : Nat) (ops : Array Oper) (st st' : St) (a : Act) (w : World) (g : G) (Q : Exit → Act → World → Prop), wfOps n ops.toList = true → drawChk ops (H.free id) (H.pairs id) = true → a.tmps.size = n → Rel g w a.tmps st.fr st.hp → Bok P st g w →
    evalDraw P H own callF id ops st = some st' → (∀ a' w', After st st' g a w a' w' → Q .normal a' w') → (Code.region id ops true).wp P Q a w

theorem hasLabel_find (l : Nat) : ∀ c : Code, hasLabel l c = (findLabel c l).isSome
  | .seq a b => by
    simp only [hasLabel, findLabel, hasLabel_find l a, hasLabel_find l b]
    cases findLabel a l <;> simp
  | .label l' => by simp only [hasLabel, findLabel]; split <;> simp_all
  | .skip | .region .. | .cond .. | .block .. | .loop .. | .rangeFunc .. | .exit _ | .scope _ | .goto _ | .ret | .refuse _ => rfl

def Code.jumps (P : Program) (body : Code) (Q : Exit → Act → World → Prop) : Nat → Code → Act → World → Prop
  | 0, _, _, _ => False
  | n + 1, c, a, w => c.wp P (fun e a w => match e with
    | .goto l => (match findLabel body l with
      | some rest => Code.jumps P body Q n rest a w
      | none => Q (.goto l) a w)
    | e => Q e a w) a w

theorem wp_scope_jumps {body : Code} {Q : Exit → Act → World → Prop} {a : Act} (n : Nat) (h : Code.jumps P body Q n body a w) : (Code.scope body).wp P Q a w := by
  intro b k cs
  have key : ∀ n c a w, Code.jumps P body Q n c a w → ∃ e a' w', Q e a' w' ∧ Arrives P (lone (b.at a (.code c :: .inScope body :: k)) cs w) b k cs e a' w' := by
    intro n
    induction n with
    | zero => intro c a w h; exact h.elim
    | succ n ih =>
      intro c a w h
      obtain ⟨e, a₁, w₁, hq, harr⟩ := h b (.inScope body :: k) cs
      cases e with
      | normal => exact ⟨.normal, a₁, w₁, hq, Steps.trans harr (.one step_inScope)⟩
      | exit id => exact ⟨.exit id, a₁, w₁, hq, fun k' hk => harr k' (by simp [exitTo, hk])⟩
      | goto l =>
        simp only at hq
        cases hf : findLabel body l with
        | none =>
          rw [hf] at hq
          exact ⟨.goto l, a₁, w₁, hq, fun k' hk => harr k' (by simp [gotoIn, hf, hk])⟩
        | some rest =>
          rw [hf] at hq
          obtain ⟨e₂, a₂, w₂, hq₂, harr₂⟩ := ih rest a₁ w₁ hq
          exact ⟨e₂, a₂, w₂, hq₂, .of_steps (harr _ (by simp [gotoIn, hf])) harr₂⟩
      | ret => exact ⟨_, a₁, w₁, hq, harr⟩
      | panic ch => exact ⟨_, a₁, w₁, hq, harr⟩
      | outgrown => exact ⟨_, a₁, w₁, hq, harr⟩
  obtain ⟨e, a', w', hq, harr⟩ := key n body a w h
  exact ⟨e, a', w', hq, .of_steps (.one step_scope) harr⟩

theorem jumps_of {body : Code} {Q : Exit → Act → World → Prop} {e : Ex} {a : Act} {n : Nat} (h : ∀ l, e = .goto l → (match findLabel body l with | some rest => Code.jumps P body Q n rest a w | none => Q (.goto l) a w)) (h' : (∀ l, e ≠ .goto l) → Q (exOf e) a w) :
    (fun (e : Exit) a w => match e with
    | .goto l => (match findLabel body l with
      | some rest => Code.jumps P body Q n rest a w
      | none => Q (.goto l) a w)
    | e => Q e a w) (exOf e) a w := by
  cases e with
  | normal => exact h' (by simp)
  | exit id => exact h' (by simp)
  | goto l => exact h l rfl
  | ret => exact h' (by simp)

mutual
theorem evalCode_sound (Tb : Tabs P) {H : Hint} {own : FuncId → Option Nat} {callF : CallF} (hcall : CallS P own callF) {nt : Nat} (hdraw : DrawOK P H own callF nt) (n : Nat) : ∀ (c : Code) {st st' : St} {e : Ex} {a : Act} {w : World} {g : G} {Q : Exit → Act → World → Prop},
    wfCode H nt c = true → a.tmps.size = nt → Rel g w a.tmps st.fr st.hp → Bok P st g w → evalCode P H own callF n c none st = some (e, st') →
    (∀ a' w', After st st' g a w a' w' → Q (exOf e) a' w') → c.wp P Q a w
  | .seq x y, st, st', e, a, w, g, Q, hwf, hn, R, hb, h, hQ => by
    simp only [wfCode, Bool.and_eq_true] at hwf
    unfold evalCode at h
    split at h
    · rename_i st1 h1
      refine wp_seq (evalCode_sound Tb hcall hdraw n x hwf.1 hn R hb h1 fun a1 w1 A1 => ?_)
      obtain ⟨⟨g1, R1, S1⟩, h2, h3⟩ := A1
      exact evalCode_sound Tb hcall hdraw n y hwf.2 (h2.trans hn) R1 (S1.bok hb) h fun a2 w2 ⟨⟨g2, R2, S2⟩, h4, h5⟩ => hQ a2 w2 ⟨⟨g2, R2, S1.trans S2⟩, h4.trans h2, h5.trans h3⟩
    · rename_i hne
      refine wp_seq (evalCode_sound Tb hcall hdraw n x hwf.1 hn R hb h fun a1 w1 A1 => then_of (fun he => ?_) fun _ => hQ a1 w1 A1)
      subst he
      exact (hne _ h).elim
  | .skip, st, st', e, a, w, g, Q, hwf, hn, R, hb, h, hQ => by
    simp only [evalCode, Option.some.injEq, Prod.mk.injEq] at h
    obtain ⟨rfl, rfl⟩ := h
    exact wp_skip (hQ a w ⟨⟨g, R, StepR.refl _ _ _⟩, rfl, rfl⟩)
  | .label l, st, st', e, a, w, g, Q, hwf, hn, R, hb, h, hQ => by
    simp only [evalCode, Option.some.injEq, Prod.mk.injEq] at h
    obtain ⟨rfl, rfl⟩ := h
    exact wp_label (hQ a w ⟨⟨g, R, StepR.refl _ _ _⟩, rfl, rfl⟩)
  | .exit id, st, st', e, a, w, g, Q, hwf, hn, R, hb, h, hQ => by
    simp only [evalCode, Option.some.injEq, Prod.mk.injEq] at h
    obtain ⟨rfl, rfl⟩ := h
    exact wp_exit (hQ a w ⟨⟨g, R, StepR.refl _ _ _⟩, rfl, rfl⟩)
  | .goto l, st, st', e, a, w, g, Q, hwf, hn, R, hb, h, hQ => by
    simp only [evalCode, Option.some.injEq, Prod.mk.injEq] at h
    obtain ⟨rfl, rfl⟩ := h
    exact wp_goto (hQ a w ⟨⟨g, R, StepR.refl _ _ _⟩, rfl, rfl⟩)
  | .ret, st, st', e, a, w, g, Q, hwf, hn, R, hb, h, hQ => by
    simp only [evalCode, Option.some.injEq, Prod.mk.injEq] at h
    obtain ⟨rfl, rfl⟩ := h
    exact wp_ret (hQ a w ⟨⟨g, R, StepR.refl _ _ _⟩, rfl, rfl⟩)
  | .region id ops dr, st, st', e, a, w, g, Q, hwf, hn, R, hb, h, hQ => by
    simp only [wfCode, Bool.and_eq_true, Bool.or_eq_true, Bool.not_eq_true'] at hwf
    simp only [evalCode] at h
    split at h
    · rename_i st1 h1
      simp only [Option.some.injEq, Prod.mk.injEq] at h
      obtain ⟨rfl, rfl⟩ := h
      have fin : ∀ a' w', After st st1 g a w a' w' → Q .normal a' w' := fun a' w' ⟨⟨g1, R1, S1⟩, h2, h3⟩ => by
        obtain ⟨g2, R2, S2⟩ := softAll_sound (H.soft id) R1
        obtain ⟨R3, S3⟩ := canon_sound R2 (H.keep id)
        exact hQ a' w' ⟨⟨g2, R3, S1.trans (S2.trans S3)⟩, h2, h3⟩
      cases dr with
      | true =>
        rcases hwf.2 with h' | h'
        · cases h'
        · exact hdraw id ops st st1 a w g Q hwf.1 h' hn R hb (by simpa using h1) fin
      | false =>
        simp only [Bool.false_eq_true, if_false] at h1
        cases hz : H.lazy id with
        | none =>
          rw [hz] at h1
          exact wp_region_list (evalOps_sound Tb hcall ops.toList R hb (by rw [hn]; exact wfOps_spec hwf.1) h1 fin)
        | some k =>
          rw [hz] at h1
          exact wp_region_list (evalOpsL_sound Tb hcall R hb (by rw [hn]; exact wfOps_spec hwf.1) h1 fin)
    · cases h
  | .cond c x y, st, st', e, a, w, g, Q, hwf, hn, R, hb, h, hQ => by
    simp only [wfCode, Bool.and_eq_true] at hwf
    obtain ⟨⟨tc, hc⟩, _⟩ := opv_sound R a rfl c
    simp only [evalCode] at h
    split at h
    · rename_i hb'; rw [hb'] at hc
      exact wp_cond_true hc.bool_inv (evalCode_sound Tb hcall hdraw n x hwf.1 hn R hb h hQ)
    · rename_i hb'; rw [hb'] at hc
      exact wp_cond_false hc.bool_inv (evalCode_sound Tb hcall hdraw n y hwf.2 hn R hb h hQ)
    · cases h
  | .block id b, st, st', e, a, w, g, Q, hwf, hn, R, hb, h, hQ => by
    simp only [wfCode] at hwf
    simp only [evalCode] at h
    refine wp_block ?_
    split at h
    · rename_i id' st1 h1
      refine evalCode_sound Tb hcall hdraw n b hwf hn R hb h1 fun a1 w1 A1 => ?_
      simp only [exOf, Exit.inBlock]
      split at h
      · rename_i he; subst he; cases h; simp only [if_true]; exact hQ a1 w1 A1
      · rename_i he; cases h; rw [if_neg he]; exact hQ a1 w1 A1
    · rename_i hne
      refine evalCode_sound Tb hcall hdraw n b hwf hn R hb h fun a1 w1 A1 => ?_
      cases e with
      | exit id' => exact (hne _ _ h).elim
      | normal => exact hQ a1 w1 A1
      | goto l => exact hQ a1 w1 A1
      | ret => exact hQ a1 w1 A1
  | .loop b, st, st', e, a, w, g, Q, hwf, hn, R, hb, h, hQ => by
    simp only [wfCode] at hwf
    simp only [evalCode] at h
    refine wp_loop_rounds n ?_
    have key : ∀ (k : Nat) {st : St} {a : Act} {w : World} {g : G}, a.tmps.size = nt → Rel g w a.tmps st.fr st.hp → Bok P st g w →
        iter (fun st => evalCode P H own callF n b none (canon (H.head (firstReg b)) st)) k st = some (e, st') → (∀ a' w', After st st' g a w a' w' → Q (exOf e) a' w') → Code.rounds P b Q k a w := by
      intro k
      induction k with
      | zero => intro st a w g _ _ _ h; cases h
      | succ k ih =>
        intro st a w g hn R hb h hQ
        unfold iter at h
        obtain ⟨R0, S0⟩ := canon_sound R (H.head (firstReg b))
        have hb0 := S0.bok hb
        split at h
        · rename_i st1 h1
          refine evalCode_sound Tb hcall hdraw n b hwf hn R0 hb0 h1 fun a1 w1 A1 => ?_
          obtain ⟨⟨g1, R1, S1⟩, h2, h3⟩ := A1
          exact ih (h2.trans hn) R1 (S1.bok hb0) h fun a2 w2 ⟨⟨g2, R2, S2⟩, h4, h5⟩ => hQ a2 w2 ⟨⟨g2, R2, (S0.trans S1).trans S2⟩, h4.trans h2, h5.trans h3⟩
        · rename_i hne
          refine evalCode_sound Tb hcall hdraw n b hwf hn R0 hb0 h fun a1 w1 ⟨⟨g1, R1, S1⟩, h2, h3⟩ => then_of (fun he => ?_) fun _ => hQ a1 w1 ⟨⟨g1, R1, S0.trans S1⟩, h2, h3⟩
          subst he
          exact (hne _ h).elim
    exact key n hn R hb h hQ
  | .scope b, st, st', e, a, w, g, Q, hwf, hn, R, hb, h, hQ => by
    simp only [wfCode] at hwf
    simp only [evalCode] at h
    refine wp_scope_jumps n ?_
    have key : ∀ (k : Nat) (j : Option Nat) (c : Code) {st : St} {a : Act} {w : World} {g : G}, (j = none ∧ c = b ∨ ∃ l, j = some l ∧ findLabel b l = some c) → a.tmps.size = nt → Rel g w a.tmps st.fr st.hp → Bok P st g w →
        scopeIter (evalCode P H own callF n b) (fun l => hasLabel l b) H.head k j st = some (e, st') → (∀ a' w', After st st' g a w a' w' → Q (exOf e) a' w') → Code.jumps P b Q k c a w := by
      intro k
      induction k with
      | zero => intro j c st a w g _ _ _ _ h; cases h
      | succ k ih =>
        intro j c st a w g hj hn R hb h hQ
        unfold scopeIter at h
        have run : ∀ {e1 : Ex} {st1 : St} {Q1 : Exit → Act → World → Prop}, evalCode P H own callF n b j st = some (e1, st1) → (∀ a' w', After st st1 g a w a' w' → Q1 (exOf e1) a' w') → c.wp P Q1 a w := fun {e1 st1 Q1} h1 hQ1 => by
          rcases hj with ⟨rfl, rfl⟩ | ⟨l, rfl, hf⟩
          · exact evalCode_sound Tb hcall hdraw n c hwf hn R hb h1 hQ1
          · exact evalFrom_sound Tb hcall hdraw n b l c hf hwf hn R hb h1 hQ1
        unfold Code.jumps
        split at h
        · rename_i l st1 h1
          refine run h1 fun a1 w1 A1 => ?_
          simp only [exOf]
          split at h
          · rename_i hl
            rw [hasLabel_find] at hl
            obtain ⟨rest, hr⟩ := Option.isSome_iff_exists.1 hl
            rw [hr]
            obtain ⟨⟨g1, R1, S1⟩, h2, h3⟩ := A1
            obtain ⟨R2, S2⟩ := canon_sound R1 (H.head (1000 + l))
            exact ih (some l) rest (.inr ⟨l, rfl, hr⟩) (h2.trans hn) R2 (S2.bok (S1.bok hb)) h fun a2 w2 ⟨⟨g2, R3, S3⟩, h4, h5⟩ => hQ a2 w2 ⟨⟨g2, R3, (S1.trans S2).trans S3⟩, h4.trans h2, h5.trans h3⟩
          · rename_i hl
            rw [hasLabel_find] at hl
            have hr : findLabel b l = none := by simpa using hl
            rw [hr]
            simp only [Option.some.injEq, Prod.mk.injEq] at h
            obtain ⟨rfl, rfl⟩ := h
            exact hQ a1 w1 A1
        · rename_i hne
          refine run h fun a1 w1 A1 => jumps_of (fun l he => ?_) fun _ => hQ a1 w1 A1
          subst he
          exact (hne _ _ h).elim
    exact key n none b (.inl ⟨rfl, rfl⟩) hn R hb h hQ
  | .rangeFunc .., st, st', e, a, w, g, Q, hwf, hn, R, hb, h, hQ => by simp [evalCode] at h
  | .refuse _, st, st', e, a, w, g, Q, hwf, hn, R, hb, h, hQ => by simp [evalCode] at h

theorem evalFrom_sound (Tb : Tabs P) {H : Hint} {own : FuncId → Option Nat} {callF : CallF} (hcall : CallS P own callF) {nt : Nat} (hdraw : DrawOK P H own callF nt) (n : Nat) : ∀ (c : Code) (l : Nat) (rest : Code) {st st' : St} {e : Ex} {a : Act} {w : World} {g : G} {Q : Exit → Act → World → Prop},
    findLabel c l = some rest → wfCode H nt c = true → a.tmps.size = nt → Rel g w a.tmps st.fr st.hp → Bok P st g w → evalCode P H own callF n c (some l) st = some (e, st') →
    (∀ a' w', After st st' g a w a' w' → Q (exOf e) a' w') → rest.wp P Q a w
  | .seq x y, l, rest, st, st', e, a, w, g, Q, hf, hwf, hn, R, hb, h, hQ => by
    simp only [wfCode, Bool.and_eq_true] at hwf
    unfold evalCode at h
    rw [hasLabel_find] at h
    simp only [findLabel] at hf
    split at hf
    · rename_i r1 hf1
      cases hf
      rw [hf1] at h
      simp only [Option.isSome_some, if_true] at h
      split at h
      · rename_i st1 h1
        refine wp_seq (evalFrom_sound Tb hcall hdraw n x l r1 hf1 hwf.1 hn R hb h1 fun a1 w1 A1 => ?_)
        obtain ⟨⟨g1, R1, S1⟩, h2, h3⟩ := A1
        exact evalCode_sound Tb hcall hdraw n y hwf.2 (h2.trans hn) R1 (S1.bok hb) h fun a2 w2 ⟨⟨g2, R2, S2⟩, h4, h5⟩ => hQ a2 w2 ⟨⟨g2, R2, S1.trans S2⟩, h4.trans h2, h5.trans h3⟩
      · rename_i hne
        refine wp_seq (evalFrom_sound Tb hcall hdraw n x l r1 hf1 hwf.1 hn R hb h fun a1 w1 A1 => then_of (fun he => ?_) fun _ => hQ a1 w1 A1)
        subst he
        exact (hne _ h).elim
    · rename_i hf1
      rw [hf1] at h
      simp only [Option.isSome_none, Bool.false_eq_true, if_false] at h
      exact evalFrom_sound Tb hcall hdraw n y l rest hf hwf.2 hn R hb h hQ
  | .label l', l, rest, st, st', e, a, w, g, Q, hf, hwf, hn, R, hb, h, hQ => by
    simp only [findLabel] at hf
    split at hf
    · rename_i he
      cases hf
      have he : l' = l := by simpa using he
      simp only [evalCode, he, if_true, Option.some.injEq, Prod.mk.injEq] at h
      obtain ⟨rfl, rfl⟩ := h
      exact wp_skip (hQ a w ⟨⟨g, R, StepR.refl _ _ _⟩, rfl, rfl⟩)
    · cases hf
  | .skip, _, _, _, _, _, _, _, _, _, hf, _, _, _, _, _, _ => by cases hf
  | .region .., _, _, _, _, _, _, _, _, _, hf, _, _, _, _, _, _ => by cases hf
  | .cond .., _, _, _, _, _, _, _, _, _, hf, _, _, _, _, _, _ => by cases hf
  | .block .., _, _, _, _, _, _, _, _, _, hf, _, _, _, _, _, _ => by cases hf
  | .loop .., _, _, _, _, _, _, _, _, _, hf, _, _, _, _, _, _ => by cases hf
  | .rangeFunc .., _, _, _, _, _, _, _, _, _, hf, _, _, _, _, _, _ => by cases hf
  | .exit _, _, _, _, _, _, _, _, _, _, hf, _, _, _, _, _, _ => by cases hf
  | .scope _, _, _, _, _, _, _, _, _, _, hf, _, _, _, _, _, _ => by cases hf
  | .goto _, _, _, _, _, _, _, _, _, _, hf, _, _, _, _, _, _ => by cases hf
  | .ret, _, _, _, _, _, _, _, _, _, hf, _, _, _, _, _, _ => by cases hf
  | .refuse _, _, _, _, _, _, _, _, _, _, hf, _, _, _, _, _, _ => by cases hf
end
end
end Go.PS
end

section
/-
  Regions that ask for their order: what an operation's answer hangs on.
-/
namespace Go.PS
section
variable {g g' g1 g2 : G} {w w' w1 w2 : World} {hn hn' : Nat} {tm : Array Value} {fr fr' : Fr} {hp hp' hp1 hp2 : Heap} {P : Program} {t : Nat} {st s2 : St}

def SameRoot (st s2 : St) (v : PV) : Prop := ∀ r pre, refOf v = some (r, pre) → rootPV s2 r = rootPV st r

theorem nav_same {r : Root} {pre : Option Nat} (h : rootPV s2 r = rootPV st r) : nav s2 r pre = nav st r pre := by unfold nav; rw [h]
theorem navS_same {r : Root} {pre : Option Nat} (h : rootPV s2 r = rootPV st r) : navS s2 r pre = navS st r pre := by unfold navS; rw [nav_same h]
theorem content_same {x : PV} (h : SameRoot st s2 x) : content s2 x = content st x := by
  cases x with
  | hd r pre => simp only [content]; rw [navS_same (h r pre rfl)]
  | vw r pre off sz n => simp only [content]; rw [nav_same (h r pre rfl)]
  | _ => rfl
theorem lenOf_same {x : PV} (h : SameRoot st s2 x) : lenOf s2 x = lenOf st x := by
  cases x with
  | hd r pre => simp only [lenOf]; rw [navS_same (h r pre rfl)]
  | _ => rfl
theorem load_same {T : TypeId} {x : PV} (h : SameRoot st s2 x) : load P s2 T x = load P st T x := by
  cases x with
  | ptr r pre off => simp only [load]; rw [nav_same (h r pre rfl)]
  | _ => rfl
theorem sliceOp_same {T : TypeId} {x : PV} {lo hi mx : Option PV} (h : SameRoot st s2 x) : sliceOp P s2 T x lo hi mx = sliceOp P st T x lo hi mx := by
  unfold sliceOp
  cases P.underlying T with
  | none => rfl
  | some d => cases d <;> cases x <;> first | rfl | (simp only; rw [navS_same (h _ _ rfl)])
theorem indexAddr_same {T : TypeId} {x i : PV} (h : SameRoot st s2 x) : indexAddr P s2 T x i = indexAddr P st T x i := by
  unfold indexAddr
  cases i with
  | int k n =>
    simp only
    cases P.underlying T with
    | none => rfl
    | some d => cases d <;> cases x <;> first | rfl | (simp only; rw [navS_same (h _ _ rfl)])
  | _ => rfl
theorem conv_same {S D : TypeId} {x : PV} (h : SameRoot st s2 x) : conv P s2 S D x = conv P st S D x := by
  unfold conv
  cases P.underlying S with
  | none => rfl
  | some d => cases P.underlying D with
    | none => cases d <;> rfl
    | some d' => cases d <;> cases d' <;> cases x <;> first | rfl | (simp only; rw [content_same h])

theorem seen_tmp (fr : Fr) (t : Nat) : seen (.tmp t) (opv fr (.tmp t)) = viewSlot t (get fr t) := by
  show viewSlot t (match get fr t with | .box _ => .ptr (.slot t) none 0 | v => v) = _
  generalize get fr t = v
  cases v <;> rfl
theorem seen_same {x : Operand} (h : SameRoot st s2 (opv st.fr x)) (hm : ∀ t, x = .tmp t → get s2.fr t = get st.fr t) : SameRoot st s2 (seen x (opv st.fr x)) := by
  cases x with
  | tmp t =>
    have hg := hm t rfl
    have slot : rootPV s2 (.slot t) = rootPV st (.slot t) := by simp only [rootPV]; exact hg
    rw [seen_tmp]
    intro r pre hr
    have h : SameRoot st s2 (match get st.fr t with | .box _ => .ptr (.slot t) none 0 | v => v) := h
    cases hv : get st.fr t with
    | sl tg n cs =>
      rw [hv] at hr
      cases tg <;> first | (cases hr; done) | (cases hr; exact slot)
    | box cs => rw [hv] at hr; cases hr; exact slot
    | agg cs => rw [hv] at hr; cases hr
    | _ => rw [hv] at h hr; exact h r pre hr
  | _ => exact h
/-- The pure operations' answers hang on their operands and on what these show. -/
theorem stepA_same {o : Oper} (hv : ∀ x ∈ o.op.operands.toList, opv s2.fr x = opv st.fr x) (hm : ∀ t, Operand.tmp t ∈ o.op.operands.toList → get s2.fr t = get st.fr t)
    (hr : plainOp o.op = true ∨ ∀ x ∈ o.op.operands.toList, SameRoot st s2 (opv st.fr x)) : stepA P s2 o = stepA P st o := by
  have nr : plainOp o.op = false → ∀ x ∈ o.op.operands.toList, SameRoot st s2 (opv st.fr x) := fun h => by
    rcases hr with h' | h'
    · rw [h] at h'; cases h'
    · exact h'
  unfold stepA
  cases ho : o.op with
  | move x =>
    rw [ho] at hv hm
    simp only [Op.operands] at hv hm
    cases x with
    | tmp t => simp only; rw [hm t (by simp)]
    | _ => simp only; rw [hv _ (by simp)]
  | pick c a b => rw [ho] at hv; simp only [Op.operands] at hv; simp only; rw [hv c (by simp), hv a (by simp), hv b (by simp)]
  | load T a =>
    rw [ho] at hv nr; simp only [Op.operands] at hv nr
    simp only; rw [hv a (by simp), load_same (nr rfl a (by simp))]
  | nilCheck x => rw [ho] at hv; simp only [Op.operands] at hv; simp only; rw [hv x (by simp)]
  | fieldAddr T x i => rw [ho] at hv; simp only [Op.operands] at hv; simp only; rw [hv x (by simp)]
  | field T x i => rw [ho] at hv; simp only [Op.operands] at hv; simp only; rw [hv x (by simp)]
  | indexAddr T x i =>
    rw [ho] at hv nr hm; simp only [Op.operands] at hv nr hm
    simp only; rw [hv x (by simp), hv i (by simp), indexAddr_same (seen_same (nr rfl x (by simp)) fun t e => hm t (by simp [e]))]
  | index T x i => rw [ho] at hv; simp only [Op.operands] at hv; simp only; rw [hv x (by simp), hv i (by simp)]
  | binOp op T x y U => rw [ho] at hv; simp only [Op.operands] at hv; simp only; rw [hv x (by simp), hv y (by simp)]
  | unOp op T x => rw [ho] at hv; simp only [Op.operands] at hv; simp only; rw [hv x (by simp)]
  | convert a b x =>
    rw [ho] at hv nr; simp only [Op.operands] at hv nr
    simp only; rw [hv x (by simp), conv_same (nr rfl x (by simp))]
  | slice T x lo hi mx =>
    rw [ho] at hv nr; simp only [Op.operands] at hv nr
    simp only
    rw [hv x (by simp), sliceOp_same (nr rfl x (by simp))]
    have e : ∀ z : Option Operand, (∀ y, z = some y → opv s2.fr y = opv st.fr y) → z.map (opv s2.fr) = z.map (opv st.fr) := fun z hz => by
      cases z with
      | none => rfl
      | some y => simp [hz y rfl]
    rw [e lo fun y h => hv y (by subst h; simp), e hi fun y h => hv y (by subst h; simp), e mx fun y h => hv y (by subst h; simp)]
  | extract x i => rw [ho] at hv; simp only [Op.operands] at hv; simp only; rw [hv x (by simp)]
  | makeSlice T l c => rw [ho] at hv; simp only [Op.operands] at hv; simp only; rw [hv l (by simp), hv c (by simp)]
  | call c =>
    rw [ho] at hv nr
    simp only [Op.operands] at hv nr
    have hargs : ∀ x ∈ c.args.toList, x ∈ c.operands.toList := fun x hx => by
      unfold Call.operands
      split <;> simp_all
    simp only
    cases hc : c.callee with
    | builtin b =>
      have hmap : c.args.toList.map (opv s2.fr) = c.args.toList.map (opv st.fr) := List.map_congr_left fun x hx => hv x (hargs x hx)
      cases b with
      | complex => simp only; rw [hmap]
      | real => simp only; rw [hmap]
      | imag => simp only; rw [hmap]
      | min => simp only; rw [hmap]
      | max => simp only; rw [hmap]
      | len =>
        simp only
        cases ha : c.args.toList with
        | nil => rfl
        | cons x xs =>
          have hx := hargs x (by rw [ha]; simp)
          cases xs with
          | cons y ys => rfl
          | nil =>
            cases c.argTypes.toList with
            | nil => rfl
            | cons T Ts => cases Ts with
              | cons _ _ => rfl
              | nil =>
                simp only
                rw [hv x hx]
                have hl := lenOf_same (nr rfl x hx)
                cases P.underlying T with
                | none => rfl
                | some d => cases d <;> (try rfl)
                            simp only
                            generalize opv st.fr x = y at hl
                            cases y <;> first | rfl | (simp only; rw [hl])
      | _ => rfl
    | _ => rfl
  | _ => rfl
end
end Go.PS
end

section
/-
  Regions that ask for their order: values that are handed over and leave everything as it is.
-/
namespace Go.PS
section
variable {g g' g1 g2 : G} {w w' w1 w2 : World} {hn hn' : Nat} {tm : Array Value} {fr fr' : Fr} {hp hp' hp1 hp2 : Heap} {P : Program} {t : Nat} {st s2 st1 : St}

def RootIf (st s2 : St) (v : PV) : Prop := (∀ r pre off, v ≠ .ptr r pre off) → SameRoot st s2 v

theorem navS_ow {r : Root} {pre : Option Nat} (h : (match navS st r pre with | some (.ow _, _, _) => true | _ => false) = true) : ∃ s n cs, navS st r pre = some (.ow s, n, cs) := by
  split at h
  · exact ⟨_, _, _, by assumption⟩
  · cases h

theorem takeV_ok {x v : PV} (hok : okV st x = true) (h : takeV st x = some (st1, v)) : st1 = st := by
  cases x with
  | hd r pre =>
    obtain ⟨s, n, cs, hn⟩ := navS_ow hok
    simp only [takeV, hn] at h
    cases h; rfl
  | vw r pre off sz n =>
    obtain ⟨s, m, cs, hn⟩ := navS_ow hok
    simp only [takeV, hn] at h
    split at h
    · cases h; rfl
    · cases h
  | _ => first | (simp only [takeV] at h; cases h; rfl) | (simp [takeV] at h)
theorem takeV_same {x v : PV} (hok : okV st x = true) (h : takeV st x = some (st1, v)) (hr : RootIf st s2 x) : takeV s2 x = some (s2, v) ∧ okV s2 x = true := by
  cases x with
  | hd r pre =>
    have hn' := navS_same (pre := pre) (hr (by simp) r pre rfl)
    obtain ⟨s, n, cs, hn⟩ := navS_ow hok
    simp only [takeV, hn] at h
    cases h
    refine ⟨by simp only [takeV, hn', hn], by simp only [okV, hn', hn]⟩
  | vw r pre off sz n =>
    have hn' := navS_same (pre := pre) (hr (by simp) r pre rfl)
    obtain ⟨s, m, cs, hn⟩ := navS_ow hok
    simp only [takeV, hn] at h
    split at h
    · rename_i hle
      cases h
      exact ⟨by simp only [takeV, hn', hn]; rw [if_pos hle], by simp only [okV, hn', hn]⟩
    · cases h
  | sl g n cs => simp only [takeV] at h; cases h; exact ⟨rfl, by cases g <;> exact hok⟩
  | agg cs => simp only [takeV] at h; cases h; exact ⟨rfl, hok⟩
  | box cs => simp [takeV] at h
  | undef => simp [takeV] at h
  | _ => simp only [takeV] at h; cases h; exact ⟨rfl, rfl⟩

theorem take_eq {x : Operand} (hok : okOp st x = true) : take st x = takeV st (opv st.fr x) := by
  cases x with
  | tmp t =>
    simp only [okOp] at hok
    cases ho : opv st.fr (.tmp t) with
    | sl g n cs =>
      rw [ho] at hok
      cases g <;> first | (simp [okV] at hok; done) | (simp [take, ho])
    | agg cs =>
      rw [ho] at hok
      have hl : cs.all lasting = true := hok
      simp only [take, ho, hl, if_true, takeV]
    | _ => simp [take, ho]
  | const u =>
    unfold take
    split <;> first | rfl | exact absurd ‹Operand.const u = Operand.tmp _› (by simp)
  | global n => simp [take, opv, takeV]
  | func f => simp [take, opv, takeV]

theorem const_ok (u : Value) : okV st (ofConst u) = true ∨ (∃ n, ofConst u = .sl (.mu n) 0 []) ∨ ofConst u = .undef := by
  cases u <;> simp only [ofConst] <;> first | (exact .inl rfl) | (repeat' split) <;> first | (exact .inl rfl) | (exact .inr (.inl ⟨_, rfl⟩)) | (exact .inr (.inr rfl)) | (simp; done) | (right; right; trivial)

theorem take_ok {x : Operand} {v : PV} (hok : okOp st x = true) (h : take st x = some (st1, v)) : st1 = st := by
  rw [take_eq hok] at h
  cases x with
  | tmp t => exact takeV_ok hok h
  | const u =>
    rcases const_ok (st := st) u with h1 | ⟨n, h1⟩ | h1
    · exact takeV_ok h1 h
    · simp only [opv, h1, takeV] at h; cases h; rfl
    · simp [opv, h1, takeV] at h
  | global n => cases hok
  | func f => simp only [opv, takeV] at h; cases h; rfl
theorem take_same {x : Operand} {v : PV} (hok : okOp st x = true) (h : take st x = some (st1, v)) (hv : opv s2.fr x = opv st.fr x) (hr : RootIf st s2 (opv st.fr x)) : take s2 x = some (s2, v) ∧ okOp s2 x = true := by
  rw [take_eq hok] at h
  cases x with
  | tmp t =>
    obtain ⟨h1, h2⟩ := takeV_same hok h hr
    have hok2 : okOp s2 (.tmp t) = true := by simp only [okOp]; rw [hv]; exact h2
    rw [take_eq hok2, hv]
    exact ⟨h1, hok2⟩
  | const u =>
    rw [take_eq (by rfl)]
    refine ⟨?_, rfl⟩
    rcases const_ok (st := st) u with h1 | ⟨n, h1⟩ | h1
    · exact (takeV_same h1 h hr).1
    · simp only [opv, h1, takeV] at h ⊢; cases h; rfl
    · simp [opv, h1, takeV] at h
  | global n => cases hok
  | func f => rw [take_eq (by rfl)]; simp only [opv, takeV] at h ⊢; cases h; exact ⟨rfl, rfl⟩

theorem preShare_ok {dies : Nat → Bool} {x : Operand} (hok : okOp st x = true) : preShare dies st x = st := by
  unfold preShare
  split
  · rename_i t r pre ho
    split
    · rfl
    · simp only [okOp, ho] at hok
      obtain ⟨s, n, cs, hn⟩ := navS_ow hok
      simp only [shareAt, hn]
  · rfl
theorem preShares_ok {dies : Nat → Bool} : ∀ (xs : List (Nat × Operand)), (∀ p ∈ xs, okOp st p.2 = true) → xs.foldl (fun st p => preShare dies st p.2) st = st
  | [], _ => rfl
  | x :: xs, h => by
    rw [List.foldl_cons, preShare_ok (h x (by simp))]
    exact preShares_ok xs fun p hp => h p (by simp [hp])

theorem takeOut_ok {x : Operand} {v : PV} (hok : okOp st x = true) (h : takeOut st x = some (st1, v)) : st1 = st := by
  unfold takeOut at h
  split at h
  · rename_i r pre ho
    cases x with
    | tmp t =>
      simp only [okOp, ho] at hok
      obtain ⟨s, n, cs, hn⟩ := navS_ow hok
      simp only [shareAt, hn] at h
      cases h; rfl
    | const u => cases u <;> simp [opv, ofConst] at ho <;> (repeat' split at ho) <;> cases ho
    | global n => cases hok
    | func f => cases ho
  · split at h
    · rename_i st2 u ht
      split at h
      · cases h; exact take_ok hok ht
      · cases h
    · cases h
theorem takeOut_same {x : Operand} {v : PV} (hok : okOp st x = true) (h : takeOut st x = some (st1, v)) (hv : opv s2.fr x = opv st.fr x) (hr : RootIf st s2 (opv st.fr x)) : takeOut s2 x = some (s2, v) ∧ okOp s2 x = true := by
  unfold takeOut at h ⊢
  split at h
  · rename_i r pre ho
    cases x with
    | tmp t =>
      rw [ho] at hr
      have hn' := navS_same (pre := pre) (hr (by simp) r pre rfl)
      have hok' := hok
      simp only [okOp, ho] at hok
      obtain ⟨s, n, cs, hn⟩ := navS_ow hok
      simp only [shareAt, hn] at h
      cases h
      rw [hv, ho]
      simp only [shareAt, hn', hn]
      exact ⟨trivial, by simp only [okOp]; rw [hv, ho]; simp only [okV, hn', hn]⟩
    | const u => cases u <;> simp [opv, ofConst] at ho <;> (repeat' split at ho) <;> cases ho
    | global n => cases hok
    | func f => cases ho
  · rename_i hne
    split at h
    · rename_i st2 u ht
      split at h
      · rename_i hst
        cases h
        obtain ⟨h1, h2⟩ := take_same hok ht hv hr
        refine ⟨?_, h2⟩
        split
        · rename_i r pre ho
          rw [hv] at ho
          exact (hne r pre ho).elim
        · rw [h1]; simp only [hst, if_true]
      · cases h
    · cases h

theorem takeL_ok : ∀ {xs : List Operand} {vs : List PV} {st st1 : St}, xs.all (okOp st) = true → takeL st xs = some (st1, vs) → st1 = st
  | [], vs, st, st1, _, h => by cases h; rfl
  | x :: xs, vs, st, st1, hok, h => by
    simp only [List.all_cons, Bool.and_eq_true] at hok
    unfold takeL at h
    split at h
    · cases h
    · rename_i st2 v h1
      have := takeOut_ok hok.1 h1
      subst this
      split at h
      · cases h
      · rename_i st3 vs' h2
        cases h
        exact takeL_ok hok.2 h2
theorem takeL_same : ∀ {xs : List Operand} {vs : List PV} {st st1 s2 : St}, xs.all (okOp st) = true → takeL st xs = some (st1, vs) → (∀ x ∈ xs, opv s2.fr x = opv st.fr x) → (∀ x ∈ xs, RootIf st s2 (opv st.fr x)) → takeL s2 xs = some (s2, vs) ∧ xs.all (okOp s2) = true
  | [], vs, st, st1, s2, _, h, _, _ => by cases h; simp [takeL]
  | x :: xs, vs, st, st1, s2, hok, h, hv, hr => by
    simp only [List.all_cons, Bool.and_eq_true] at hok ⊢
    unfold takeL at h ⊢
    split at h
    · cases h
    · rename_i st2 v h1
      have := takeOut_ok hok.1 h1
      subst this
      split at h
      · cases h
      · rename_i st3 vs' h2
        cases h
        obtain ⟨a1, a2⟩ := takeOut_same hok.1 h1 (hv x (by simp)) (hr x (by simp))
        obtain ⟨b1, b2⟩ := takeL_same hok.2 h2 (fun y hy => hv y (by simp [hy])) (fun y hy => hr y (by simp [hy]))
        rw [a1]
        simp only [b1]
        first | exact ⟨rfl, a2, b2⟩ | exact ⟨trivial, a2, b2⟩

theorem buildL_ok {pl : Nat → Option (Nat × Nat)} : ∀ {parts : List (Nat × Operand)} {cs cs' : List PV} {st st1 : St}, parts.all (fun p => okOp st p.2) = true → buildL pl st cs parts = some (st1, cs') → st1 = st
  | [], cs, cs', st, st1, _, h => by cases h; rfl
  | (i, x) :: parts, cs, cs', st, st1, hok, h => by
    simp only [List.all_cons, Bool.and_eq_true] at hok
    unfold buildL at h
    split at h
    · rename_i off size st2 v h0 h1
      have := take_ok hok.1 h1
      subst this
      split at h
      · exact buildL_ok hok.2 h
      · cases h
    · cases h
theorem buildL_same {pl : Nat → Option (Nat × Nat)} : ∀ {parts : List (Nat × Operand)} {cs cs' : List PV} {st st1 s2 : St}, parts.all (fun p => okOp st p.2) = true → buildL pl st cs parts = some (st1, cs') →
    (∀ p ∈ parts, opv s2.fr p.2 = opv st.fr p.2) → (∀ p ∈ parts, RootIf st s2 (opv st.fr p.2)) → buildL pl s2 cs parts = some (s2, cs') ∧ parts.all (fun p => okOp s2 p.2) = true
  | [], cs, cs', st, st1, s2, _, h, _, _ => by cases h; simp [buildL]
  | (i, x) :: parts, cs, cs', st, st1, s2, hok, h, hv, hr => by
    simp only [List.all_cons, Bool.and_eq_true] at hok ⊢
    unfold buildL at h ⊢
    split at h
    · rename_i off size st2 v h0 h1
      have := take_ok hok.1 h1
      subst this
      obtain ⟨a1, a2⟩ := take_same hok.1 h1 (hv (i, x) (by simp)) (hr (i, x) (by simp))
      rw [h0, a1]
      simp only
      split at h
      · rename_i hc
        obtain ⟨b1, b2⟩ := buildL_same hok.2 h (fun y hy => hv y (by simp [hy])) (fun y hy => hr y (by simp [hy]))
        rw [if_pos hc]
        exact ⟨b1, a2, b2⟩
      · cases h
    · cases h

theorem opv_get {x : Operand} (h : ∀ t, x = .tmp t → get s2.fr t = get st.fr t) : opv s2.fr x = opv st.fr x := by
  cases x with
  | tmp t => simp only [opv]; rw [h t rfl]
  | _ => rfl
theorem refOf_const (u : Value) : refOf (ofConst u) = none := by
  unfold ofConst; split <;> rfl
theorem rootIf_get {x : Operand} (h : ∀ t, x = .tmp t → SameRoot st s2 (get st.fr t)) : RootIf st s2 (opv st.fr x) := by
  intro hp
  cases x with
  | tmp t =>
    simp only [opv] at hp ⊢
    split
    · rename_i cs hg
      split at hp
      · exact (hp _ _ _ rfl).elim
      · rename_i hne; exact (hne _ hg).elim
    · exact h t rfl
  | const u => intro r pre hr; simp only [opv, refOf_const] at hr; cases hr
  | global n => intro r pre hr; cases hr
  | func f => intro r pre hr; cases hr

theorem okArgs_same : ∀ {xs : List Operand} {vs : List PV} {st st1 s2 : St}, okArgs st xs = true → takeL st xs = some (st1, vs) → (∀ t, Operand.tmp t ∈ xs → get s2.fr t = get st.fr t) → (∀ t, Operand.tmp t ∈ xs → SameRoot st s2 (get st.fr t)) →
    st1.hp = st.hp ∧ (∃ s3, takeL s2 xs = some (s3, vs) ∧ s3.hp = s2.hp) ∧ okArgs s2 xs = true
  | [], vs, st, st1, s2, _, h, _, _ => by cases h; exact ⟨rfl, ⟨s2, rfl, rfl⟩, rfl⟩
  | x :: xs, vs, st, st1, s2, hok, h, hv, hr => by
    have hx : opv s2.fr x = opv st.fr x := opv_get fun t e => hv t (by rw [e]; simp)
    have hrx : RootIf st s2 (opv st.fr x) := rootIf_get fun t e => hr t (by rw [e]; simp)
    have general : okOp st x = true → okArgs st xs = true → (okOp s2 x = true → okArgs s2 xs = true → okArgs s2 (x :: xs) = true) → st1.hp = st.hp ∧ (∃ s3, takeL s2 (x :: xs) = some (s3, vs) ∧ s3.hp = s2.hp) ∧ okArgs s2 (x :: xs) = true := fun hok1 hok2 hb => by
      unfold takeL at h ⊢
      split at h
      · cases h
      · rename_i st2 v h1
        have := takeOut_ok hok1 h1
        subst this
        split at h
        · cases h
        · rename_i st3 vs' h2
          cases h
          obtain ⟨a1, a2⟩ := takeOut_same hok1 h1 hx hrx
          obtain ⟨b1, ⟨s3, b2, b3⟩, b4⟩ := okArgs_same hok2 h2 (fun t ht => hv t (by simp [ht])) (fun t ht => hr t (by simp [ht]))
          refine ⟨b1, ⟨s3, ?_, b3⟩, hb a2 b4⟩
          rw [a1]; simp only [b2]
    have dropped : ∀ (t : Nat) (tg : Tag) (n : Nat) (cs : List PV), x = .tmp t → opv st.fr x = .sl tg n cs → (∃ s, tg = .mu s ∨ tg = .ow s) → okArgs { st with fr := drop t st.fr } xs = true → (okArgs { s2 with fr := drop t s2.fr } xs = true → okArgs s2 (x :: xs) = true) →
        st1.hp = st.hp ∧ (∃ s3, takeL s2 (x :: xs) = some (s3, vs) ∧ s3.hp = s2.hp) ∧ okArgs s2 (x :: xs) = true := fun t tg n cs hxt ho htg hok2 hb => by
      subst hxt
      have hto : ∀ {s : St}, opv s.fr (.tmp t) = .sl tg n cs → takeOut s (.tmp t) = if (cellsOf (.sl tg n cs)).all storable = true then some ({ s with fr := drop t s.fr }, out (.sl tg n cs)) else none := fun {s} hs => by
        have ht : take s (.tmp t) = some ({ s with fr := drop t s.fr }, .sl tg n cs) := by
          obtain ⟨q, hq | hq⟩ := htg <;> subst hq <;> simp [take, hs]
        unfold takeOut
        rw [hs, ht]
        rfl
      have hst : (cellsOf (.sl tg n cs)).all storable = true := rfl
      have hs2 : opv s2.fr (.tmp t) = .sl tg n cs := by rw [hx]; exact ho
      unfold takeL at h ⊢
      rw [hto ho] at h
      rw [hto hs2]
      simp only [hst, if_true] at h ⊢
      split at h
      · cases h
      · rename_i st3 vs' h2
        cases h
        obtain ⟨b1, ⟨s3, b2, b3⟩, b4⟩ := okArgs_same (s2 := { s2 with fr := drop t s2.fr }) hok2 h2 (fun u hu => by
            show get (drop t s2.fr) u = get (drop t st.fr) u
            rw [get_drop, get_drop, hv u (by simp [hu])]) (fun u hu r pre hrf => by
            have hrf : refOf (get (drop t st.fr) u) = some (r, pre) := hrf
            rw [get_drop] at hrf
            split at hrf
            · cases hrf
            · obtain ⟨h3, h4⟩ := on_refOf _ _ hrf
              have h5 := hr u (by simp [hu]) r pre h3
              cases r with
              | heap i => exact h5
              | slot q =>
                simp only [rootPV] at h5 ⊢
                show get (drop t s2.fr) q = get (drop t st.fr) q
                rw [get_drop, get_drop, h5])
        refine ⟨b1, ⟨s3, ?_, b3⟩, hb b4⟩
        simp only [b2]
    unfold okArgs at hok
    split at hok
    · rename_i t s n cs ho
      exact dropped t _ n cs rfl ho ⟨s, .inl rfl⟩ hok fun hb => by
        unfold okArgs
        rw [hx, ho]
        exact hb
    · rename_i t s n cs ho
      exact dropped t _ n cs rfl ho ⟨s, .inr rfl⟩ hok fun hb => by
        unfold okArgs
        rw [hx, ho]
        exact hb
    · rename_i h1 h2
      simp only [Bool.and_eq_true] at hok
      refine general hok.1 hok.2 fun a b => ?_
      unfold okArgs
      split
      · rename_i t s n cs ho
        rw [hx] at ho
        exact (h1 _ _ _ _ rfl ho).elim
      · rename_i t s n cs ho
        rw [hx] at ho
        exact (h2 _ _ _ _ rfl ho).elim
      · simp only [Bool.and_eq_true]; exact ⟨a, b⟩
end
end Go.PS
end
