/-
  An evaluator of the model on pure values, and its soundness: what evalCall answers for a function and its arguments, the function returns in the model, and nothing older turns. Part 2.
-/
import Derived.Test.YtnccpffnffioeaaDoorPsA
import Derived.Lib.LaidTab
import Derived.Lib.ItoaNum

set_option linter.all false
section
/-
  Places that are emptied, filled, and moved.
-/
namespace Go.PS
section
variable {g g' : G} {w w' : World} {hn hn' : Nat} {tm : Array Value} {fr fr' : Fr} {hp : Heap} {P : Program} {t : Nat}

theorem Rel.congr (R : Rel g w tm fr hp) (h : ∀ t, get fr' t = get fr t) : Rel g w tm fr' hp :=
  ⟨fun t => by rw [h]; exact R.slots t, R.heap, R.maps, R.immCell, R.ownLt, fun t t' pre h' => by rw [h] at h' ⊢; exact R.live t t' pre h', fun t h' => by rw [h] at h'; exact R.size t h', R.rows⟩

/-- Slots lose their values; no view of them is left. -/
theorem Rel.weaken (R : Rel g w tm fr hp) (h : ∀ t, get fr' t = get fr t ∨ get fr' t = .undef)
    (hl : ∀ t t' pre, refOf (get fr' t) = some (.slot t', pre) → get fr' t' = get fr t') : Rel g w tm fr' hp := by
  refine ⟨fun t => ?_, R.heap, R.maps, R.immCell, R.ownLt, fun t t' pre h' => ?_, fun t h' => ?_, R.rows⟩
  · rcases h t with e | e
    · rw [e]; exact R.slots t
    · rw [e]; exact .of (.undef _)
  · rcases h t with e | e
    · rw [hl t t' pre h']; rw [e] at h'; exact R.live t t' pre h'
    · rw [e] at h'; cases h'
  · rcases h t with e | e
    · rw [e] at h'; exact R.size t h'
    · exact (h' e).elim

theorem Rel.kill (R : Rel g w tm fr hp) (k : Kill) : Rel g w tm (killFr k fr) hp := by
  refine R.weaken (fun t => ?_) (fun t t' pre h => ?_)
  · rw [get_kill]
    rcases on_cases k (get fr t) with h | ⟨h, _⟩
    · exact .inl h
    · exact .inr h
  · rw [get_kill] at h ⊢
    have := R.live t t' pre (on_refOf _ _ h).1
    have hr := rooty_of_rootOk this
    rcases on_cases k (get fr t') with h' | ⟨_, r, p, h1, _⟩
    · exact h'
    · cases hg : get fr t' <;> rw [hg] at h1 hr <;> simp [refOf] at h1 <;> simp [rooty] at hr

theorem get_drop (d t : Nat) (fr : Fr) : get (drop d fr) t = if d = t then .undef else (Kill.slot d).on (get fr t) := by
  simp [drop, get_cons, get_kill]

theorem Rel.drop (R : Rel g w tm fr hp) (d : Nat) : Rel g w tm (drop d fr) hp := by
  refine (R.kill (.slot d)).weaken (fun t => ?_) (fun t t' pre h => ?_)
  · rw [get_drop, get_kill]; split
    · exact .inr rfl
    · exact .inl rfl
  · rw [get_drop] at h
    split at h
    · cases h
    · have hk := (on_refOf _ _ h).2
      rw [get_drop, get_kill, if_neg]
      intro e; subst e; simp [Kill.hits] at hk

/-- No view of a place is left, and nothing stands there. -/
structure FreeP (fr : Fr) (hp : Heap) (r : Root) (pre : Option Nat) : Prop where
  ref : ∀ t, refOf (get fr t) ≠ some (r, pre)
  slot : ∀ t, r = .slot t → (pre = none → get fr t = .undef) ∧ ∀ o, pre = some o → ∀ cs, get fr t = .box cs ∨ get fr t = .agg cs → ∀ y, cs[o]? = some y → y = .undef
  heap : ∀ i, r = .heap i → ∃ o, pre = some o ∧ ∀ cs, hp[i]? = some (.cells cs) → ∀ y, cs[o]? = some y → y = .undef

/-- The ghost where a row has come to a place. -/
def G.bring (g : G) (b : Nat) (r : Root) (pre : Option Nat) (l : Nat × Nat) (own : Bool) : G :=
  { g with own := fun b' => if own = true ∧ b' = b then some (.st r pre) else g.own b', loc := fun r' pre' => if r' = r ∧ pre' = pre then l else g.loc r' pre' }

theorem valAt_ref (R : Rel g w tm fr hp) {t : Nat} {r : Root} {pre : Option Nat} (h : refOf (get fr t) = some (r, pre)) {u : Value} (hu : valAt g w tm r pre = some u)
    (hloc : (∀ t', r = .slot t' → rooty (get fr t') = true) → pre.isSome = true → g'.loc r none = g.loc r none)
    (hcell : ∀ o, pre = some o → w'.cell? ⟨(g.loc r none).1, (g.loc r none).2 + o, none⟩ = w.cell? ⟨(g.loc r none).1, (g.loc r none).2 + o, none⟩) : valAt g' w' tm r pre = some u := by
  cases pre with
  | none => cases r <;> exact hu
  | some o =>
    have hl := hloc (fun t' hr => by subst hr; exact rooty_of_rootOk (R.live t t' _ h)) rfl
    have hc := hcell o rfl
    cases r <;> simp only [valAt] at hu ⊢ <;> rw [hl, hc] <;> exact hu

theorem bring_e0 {q : Root} {qpre : Option Nat} (fq : FreeP fr hp q qpre) (b o : Nat) (own : Bool) : Ext0 g w hp.length (g.bring b q qpre (b, o) own) w hp.length := by
  refine ⟨fun _ _ h => ⟨h, rfl⟩, fun i hi => ?_, fun _ _ => rfl, Nat.le_refl _⟩
  simp only [G.bring]
  rw [if_neg]
  rintro ⟨h1, h2⟩
  obtain ⟨o, h3, _⟩ := fq.heap i h1.symm
  rw [h3] at h2
  cases h2

/-- A row whose place is free comes to another free place. -/
theorem Rel.bring (R : Rel g w tm fr hp) {p : Root} {ppre : Option Nat} {q : Root} {qpre : Option Nat} (fp : FreeP fr hp p ppre) (fq : FreeP fr hp q qpre)
    {b o : Nat} {own : Bool} (hb : own = true → (∀ k, g.own b = some k → k = .st p ppre) ∧ b < w.heap.size) : Rel (g.bring b q qpre (b, o) own) w tm fr hp := by
  have e0 := bring_e0 (g := g) (w := w) fq b o own
  have sb : ∀ b' k, g.own b' = some k → k ≠ .st p ppre → SameB (fun _ _ => False) g w (g.bring b q qpre (b, o) own) w b' := fun b' k hk hne =>
    ⟨by simp only [G.bring]; rw [if_neg]; rintro ⟨h1, rfl⟩; exact hne ((hb h1).1 _ hk), fun _ => Iff.rfl, fun _ _ => rfl, fun _ => rfl, fun _ => rfl⟩
  have c : Chg (fun r pre => (r = p ∧ pre = ppre) ∨ (r = q ∧ pre = qpre)) (fun _ _ => False) g w hp.length (g.bring b q qpre (b, o) own) w hp.length :=
    ⟨e0, fun r pre h => by simp only [G.bring]; rw [if_neg (fun hh => h (.inr hh))],
     fun b' r pre hb' hC => sb b' _ hb' (fun e => by cases e; exact hC (.inl ⟨rfl, rfl⟩)), fun b' t hb' _ => sb b' _ hb' (by simp), fun b' i hb' _ => sb b' _ hb' (by simp)⟩
  have nz : ∀ (x : Root) (xp : Option Nat), FreeP fr hp x xp → ∀ t, get fr t ≠ .undef → ¬ (Root.slot t = x ∧ none = xp) := fun x xp f t ht hh => by
    obtain ⟨rfl, rfl⟩ := hh; exact ht ((f.slot t rfl).1 rfl)
  have cl : ∀ (x : Root) (xp : Option Nat), FreeP fr hp x xp → ∀ t cs, (get fr t = .box cs ∨ get fr t = .agg cs) → ∀ (j : Nat) y, cs[j]? = some y → y ≠ .undef → ¬ (Root.slot t = x ∧ some j = xp) := fun x xp f t cs hcs j y hj hy hh => by
    obtain ⟨rfl, rfl⟩ := hh; exact hy ((f.slot t rfl).2 j rfl cs hcs y hj)
  refine R.change c (fun t ht => ⟨fun h => h.elim (nz _ _ fp t ht) (nz _ _ fq t ht), fun cs hcs j y hj hy => ⟨fun h => h.elim (cl _ _ fp t cs hcs j y hj hy) (cl _ _ fq t cs hcs j y hj hy), fun _ _ _ _ _ _ _ _ => id⟩, fun _ _ _ _ _ _ _ _ => id⟩)
    (fun t r pre h hC => ?_) (fun t r pre h u hu => ?_) (fun i cs hc => ⟨fun h => ?_, fun j y hj hy => ⟨fun h => ?_, fun _ _ _ _ _ _ _ _ => id⟩, fun _ _ _ _ _ _ _ => id⟩) (fun i ks vs hc => ⟨fun h => ?_, fun _ _ _ _ => id⟩) R.immCell (fun b' k hk => ?_) (fun i s n q hc _ _ h => by rcases h with ⟨h1, h2⟩ | ⟨h1, h2⟩; (obtain ⟨o', h3, _⟩ := fp.heap i h1.symm; rw [h3] at h2; cases h2); (obtain ⟨o', h3, _⟩ := fq.heap i h1.symm; rw [h3] at h2; cases h2))
    (fun i T e bs _ b' hk => ⟨(by simp only [G.bring]; rw [if_neg]; rintro ⟨h1, rfl⟩; have := (hb h1).1 _ hk; cases this), rfl, fun _ => Iff.rfl⟩)
  · rcases hC with ⟨rfl, rfl⟩ | ⟨rfl, rfl⟩
    · exact fp.ref t h
    · exact fq.ref t h
  · refine valAt_ref R h hu (fun hroot _ => ?_) (fun _ _ => rfl)
    simp only [G.bring]
    rw [if_neg]
    rintro ⟨rfl, hn⟩
    cases r with
    | slot t' =>
      have := (fq.slot t' rfl).1 hn.symm
      have h2 := hroot t' rfl
      rw [this] at h2; cases h2
    | heap i =>
      obtain ⟨o', h3, _⟩ := fq.heap i rfl
      rw [h3] at hn; cases hn
  · rcases h with ⟨h1, h2⟩ | ⟨h1, h2⟩
    · obtain ⟨o', h3, _⟩ := fp.heap i h1.symm; rw [h3] at h2; cases h2
    · obtain ⟨o', h3, _⟩ := fq.heap i h1.symm; rw [h3] at h2; cases h2
  · rcases h with ⟨h1, h2⟩ | ⟨h1, h2⟩
    · obtain ⟨o', h3, h4⟩ := fp.heap i h1.symm; rw [h3] at h2; cases h2; exact hy (h4 cs hc y hj)
    · obtain ⟨o', h3, h4⟩ := fq.heap i h1.symm; rw [h3] at h2; cases h2; exact hy (h4 cs hc y hj)
  · rcases h with ⟨h1, h2⟩ | ⟨h1, h2⟩
    · obtain ⟨o', h3, _⟩ := fp.heap i h1.symm; rw [h3] at h2; cases h2
    · obtain ⟨o', h3, _⟩ := fq.heap i h1.symm; rw [h3] at h2; cases h2
  · simp only [G.bring] at hk
    split at hk
    · rename_i h; obtain ⟨h1, rfl⟩ := h; exact (hb h1).2
    · exact R.ownLt _ _ hk

/-- An owned slice moved: what stood at one place stands at the other. -/
theorem Rel.moveTo (R : Rel g w tm fr hp) {p : Root} {ppre : Option Nat} {q : Root} {qpre : Option Nat} (fp : FreeP fr hp p ppre) (fq : FreeP fr hp q qpre)
    {v : Value} {x : PV} (hL : L g w hp.length p ppre v x) : ∃ g', Rel g' w tm fr hp ∧ L g' w hp.length q qpre v x ∧
      (g' = g ∨ ∃ b o own, (own = true → (∀ k, g.own b = some k → k = .st p ppre) ∧ b < w.heap.size) ∧ g' = g.bring b q qpre (b, o) own) := by
  cases hL with
  | of h => exact ⟨g, R, .of h, .inl rfl⟩
  | @mu b o n cap sz cs how hl hle hlen room hi hc =>
    have R' := R.bring fp fq (b := b) (o := o) (own := true) (fun _ => ⟨fun k hk => by rw [how] at hk; cases hk; rfl, R.ownLt _ _ how⟩)
    exact ⟨_, R', .mu (by simp [G.bring]) (by simp [G.bring]) hle hlen room hi (hc.mono (bring_e0 fq b o true) fun _ _ => rfl), .inr ⟨b, o, true, ⟨fun _ => ⟨fun k hk => by rw [how] at hk; cases hk; rfl, R.ownLt _ _ how⟩, rfl⟩⟩⟩
  | @ow b o n cap sz cs how hl hle hlen room hi hx hc =>
    have R' := R.bring fp fq (b := b) (o := o) (own := true) (fun _ => ⟨fun k hk => by rw [how] at hk; cases hk; rfl, R.ownLt _ _ how⟩)
    exact ⟨_, R', .ow (by simp [G.bring]) (by simp [G.bring]) hle hlen room hi hx (hc.mono (bring_e0 fq b o true) fun _ _ => rfl), .inr ⟨b, o, true, ⟨fun _ => ⟨fun k hk => by rw [how] at hk; cases hk; rfl, R.ownLt _ _ how⟩, rfl⟩⟩⟩
  | @full b o n sz cs hl hi hc =>
    have R' := R.bring fp fq (b := b) (o := o) (own := false) (fun h => by cases h)
    exact ⟨_, R', .full (by simp [G.bring]) hi (hc.mono (bring_e0 fq b o false) fun _ _ => rfl), .inr ⟨b, o, false, ⟨fun h => (by cases h), rfl⟩⟩⟩
end
end Go.PS
end

section
/-
  Many rows moved at once; a row shared for good; slots and cells filled; what a stretch of a run keeps for its caller.
-/
namespace Go.PS
section
variable {g g' g1 g2 : G} {w w' w1 w2 : World} {hn hn' : Nat} {tm : Array Value} {fr fr' : Fr} {hp hp' hp1 hp2 : Heap} {P : Program} {t : Nat}

theorem SameBlk.refl (g : G) (w : World) (b : Nat) : SameBlk g w g w b := ⟨rfl, rfl, fun _ => Iff.rfl⟩
theorem SameBlk.trans {b : Nat} (h : SameBlk g w g1 w1 b) (h' : SameBlk g1 w1 g2 w2 b) : SameBlk g w g2 w2 b :=
  ⟨h'.own.trans h.own, h'.heap.trans h.heap, fun j => (h'.imm j).trans (h.imm j)⟩
theorem SameBlk.same {b : Nat} (h : SameBlk g w g' w' b) (D : Nat → Nat → Prop) : SameB D g w g' w' b :=
  ⟨h.own, h.imm, fun j _ => by unfold World.cell?; rw [h.heap], fun j => by unfold World.cell?; rw [h.heap], fun j => by unfold World.frozen?; rw [h.heap]⟩

/-- What a stretch of a run keeps: lasting values, the world's streams, the blocks of others; and, where it says that it has not written (d = false), the older objects. -/
structure X (base : Nat) (d : Bool) (g : G) (w : World) (hp : Heap) (g' : G) (w' : World) (hp' : Heap) : Prop where
  e0 : Ext0 g w hp.length g' w' hp'.length
  os : w'.os = w.os
  tape : w'.tape = w.tape
  out : w'.output = w.output
  size : w.heap.size ≤ w'.heap.size
  far : ∀ b, g.own b = some .frg ∨ g.own b = some .froz → SameBlk g w g' w' b
  clean : d = false → ∀ i, i < base → hp'[i]? = hp[i]? ∧ (∀ pre, g'.loc (.heap i) pre = g.loc (.heap i) pre) ∧
    ∀ b, (g.own b = some (.obj i) ∨ ∃ pre, g.own b = some (.st (.heap i) pre)) → SameBlk g w g' w' b

/-- What the library's own variables hold. -/
def Pin (P : Program) (g : G) (w : World) : Prop :=
  (∀ b, P.globalNamed "internal/strconv.uint64pow10" = some b → g.own b = some .frg ∧ Lib.TabIs P w "internal/strconv.uint64pow10" .u64 Lib.pow10Tab) ∧
    ∀ b, P.globalNamed "internal/bytealg.MaxLen" = some b → g.own b = some .frg ∧ ∃ m, w.cell? ⟨b, 0, none⟩ = some (.int .i64 m)
theorem Pin.mono {base : Nat} {d : Bool} (h : Pin P g w) (x : X base d g w hp g' w' hp') : Pin P g' w' := by
  refine ⟨fun b hb => ?_, fun b hb => ?_⟩
  · obtain ⟨h1, h2⟩ := h.1 b hb
    have s := x.far b (.inl h1)
    refine ⟨s.own.trans h1, ?_⟩
    unfold Lib.TabIs World.var? at h2 ⊢
    rw [hb] at h2 ⊢
    simp only [Option.bind_some] at h2 ⊢
    rw [s.heap]; exact h2
  · obtain ⟨h1, m, h2⟩ := h.2 b hb
    have s := x.far b (.inl h1)
    refine ⟨s.own.trans h1, m, ?_⟩
    unfold World.cell? at h2 ⊢
    rw [s.heap]; exact h2

theorem X.refl (base : Nat) (d : Bool) (g : G) (w : World) (hp : Heap) : X base d g w hp g w hp :=
  ⟨Ext0.refl _ _ _, rfl, rfl, rfl, Nat.le_refl _, fun _ _ => SameBlk.refl _ _ _, fun _ _ _ => ⟨rfl, fun _ => rfl, fun _ _ => SameBlk.refl _ _ _⟩⟩
theorem X.trans {base : Nat} {d d' : Bool} (h : X base d g w hp g1 w1 hp1) (h' : X base d' g1 w1 hp1 g2 w2 hp2) : X base (d || d') g w hp g2 w2 hp2 := by
  refine ⟨h.e0.trans h'.e0, h'.os.trans h.os, h'.tape.trans h.tape, h'.out.trans h.out, Nat.le_trans h.size h'.size, fun b hb => ?_, fun hd i hi => ?_⟩
  · have s := h.far b hb
    exact s.trans (h'.far b (by rw [s.own]; exact hb))
  · rw [Bool.or_eq_false_iff] at hd
    obtain ⟨a1, a2, a3⟩ := h.clean hd.1 i hi
    obtain ⟨b1, b2, b3⟩ := h'.clean hd.2 i hi
    refine ⟨b1.trans a1, fun pre => (b2 pre).trans (a2 pre), fun b hb => ?_⟩
    have s := a3 b hb
    exact s.trans (b3 b (by rw [s.own]; exact hb))
theorem X.weaken {base : Nat} {d d' : Bool} (h : X base d g w hp g' w' hp') (hd : d' = false → d = false) : X base d' g w hp g' w' hp' :=
  ⟨h.e0, h.os, h.tape, h.out, h.size, h.far, fun h' => h.clean (hd h')⟩
theorem X.dirty {base : Nat} {d : Bool} (h : X base d g w hp g' w' hp') : X base true g w hp g' w' hp' := h.weaken fun h => by cases h
theorem X.grow {base : Nat} (R : Rel g w tm fr hp) (h : Grow w w') : X base false g w hp g w' hp := by
  have sb : ∀ b k, g.own b = some k → SameBlk g w g w' b := fun b k hb => ⟨rfl, h.block b (R.lt_own hb), fun _ => Iff.rfl⟩
  refine ⟨⟨fun b o hi => ⟨hi, h.cell (R.lt_imm hi)⟩, fun _ _ => rfl, fun _ _ => rfl, Nat.le_refl _⟩, h.os, h.tape, h.out, h.size, fun b hb => hb.elim (sb b _) (sb b _), fun _ i _ => ⟨rfl, fun _ => rfl, fun b hb => ?_⟩⟩
  rcases hb with hb | ⟨pre, hb⟩ <;> exact sb b _ hb

/-- A place that belongs to no older object. -/
def Mine (base : Nat) (r : Root) : Prop := ∀ i, r = .heap i → base ≤ i

theorem X.bring {base : Nat} {p : Root} {ppre : Option Nat} {q : Root} {qpre : Option Nat} (fq : FreeP fr hp q qpre)
    {b o : Nat} {own : Bool} (hb : own = true → (∀ k, g.own b = some k → k = .st p ppre) ∧ b < w.heap.size) {d : Bool} (hd : d = false → Mine base p ∧ Mine base q) : X base d g w hp (g.bring b q qpre (b, o) own) w hp := by
  have sb : ∀ b' k, g.own b' = some k → k ≠ .st p ppre → SameBlk g w (g.bring b q qpre (b, o) own) w b' := fun b' k hk hne =>
    ⟨by simp only [G.bring]; rw [if_neg]; rintro ⟨h1, rfl⟩; exact hne ((hb h1).1 _ hk), rfl, fun _ => Iff.rfl⟩
  refine ⟨bring_e0 fq b o own, rfl, rfl, rfl, Nat.le_refl _, fun b' hb' => hb'.elim (fun h => sb b' _ h (by simp)) (fun h => sb b' _ h (by simp)), fun hd' i hi => ?_⟩
  obtain ⟨h1, h2⟩ := hd hd'
  refine ⟨rfl, fun pre => ?_, fun b' hb' => ?_⟩
  · simp only [G.bring]
    rw [if_neg]
    rintro ⟨hr, _⟩
    have := h2 i hr.symm
    omega
  · rcases hb' with hb' | ⟨pre, hb'⟩
    · exact sb b' _ hb' (by simp)
    · refine sb b' _ hb' ?_
      intro e
      cases e
      have := h1 i rfl
      omega

theorem L.bring {r : Root} {pre : Option Nat} {v : Value} {x : PV} (h : L g w hp.length r pre v x) {p : Root} {ppre : Option Nat} {q : Root} {qpre : Option Nat} (fq : FreeP fr hp q qpre)
    {b o : Nat} {own : Bool} (hb : own = true → (∀ k, g.own b = some k → k = .st p ppre) ∧ b < w.heap.size) (h1 : ¬ (r = p ∧ pre = ppre)) (h2 : ¬ (r = q ∧ pre = qpre)) :
    L (g.bring b q qpre (b, o) own) w hp.length r pre v x := by
  refine h.mono (D := fun _ _ => False) (bring_e0 fq b o own) (by simp only [G.bring]; rw [if_neg h2]) (fun b' hb' => ?_) (fun _ _ _ _ _ _ _ _ => id)
  refine ⟨?_, fun _ => Iff.rfl, fun _ _ => rfl, fun _ => rfl, fun _ => rfl⟩
  simp only [G.bring]; rw [if_neg]; rintro ⟨h3, rfl⟩; have := (hb h3).1 _ hb'; cases this; exact h1 ⟨rfl, rfl⟩

structure Item where
  p : Root
  pp : Option Nat
  q : Root
  qp : Option Nat
  v : Value
  x : PV

/-- Rows moved one behind the other. -/
theorem Rel.moveAll {base : Nat} {d : Bool} : ∀ (l : List Item) (g : G), Rel g w tm fr hp → (∀ a ∈ l, FreeP fr hp a.p a.pp ∧ FreeP fr hp a.q a.qp ∧ L g w hp.length a.p a.pp a.v a.x ∧ (d = false → Mine base a.p ∧ Mine base a.q)) →
    l.Pairwise (fun a b => ¬ (a.p = b.p ∧ a.pp = b.pp) ∧ ¬ (a.q = b.q ∧ a.qp = b.qp)) → (∀ a ∈ l, ∀ b ∈ l, ¬ (a.p = b.q ∧ a.pp = b.qp)) →
    ∃ g', Rel g' w tm fr hp ∧ X base d g w hp g' w hp ∧ (∀ a ∈ l, L g' w hp.length a.q a.qp a.v a.x) ∧
      (∀ r pre v x, L g w hp.length r pre v x → (∀ a ∈ l, ¬ (r = a.p ∧ pre = a.pp) ∧ ¬ (r = a.q ∧ pre = a.qp)) → L g' w hp.length r pre v x)
  | [], g, R, _, _, _ => ⟨g, R, X.refl _ _ _ _ _, (fun a h => by cases h), fun _ _ _ _ h _ => h⟩
  | a :: l, g, R, h, hpw, hd => by
    obtain ⟨f1, f2, hL, hm⟩ := h a (by simp)
    obtain ⟨g1, R1, L1, hg⟩ := R.moveTo f1 f2 hL
    have key : X base d g w hp g1 w hp ∧ ∀ r pre v x, L g w hp.length r pre v x → ¬ (r = a.p ∧ pre = a.pp) → ¬ (r = a.q ∧ pre = a.qp) → L g1 w hp.length r pre v x := by
      rcases hg with rfl | ⟨b, o, own, hb, rfl⟩
      · exact ⟨X.refl _ _ _ _ _, fun _ _ _ _ h _ _ => h⟩
      · exact ⟨X.bring f2 hb hm, fun r pre v x h h1 h2 => h.bring f2 hb h1 h2⟩
    rw [List.pairwise_cons] at hpw
    obtain ⟨g', R', X', hdone, hrest⟩ := Rel.moveAll (base := base) (d := d) l g1 R1 (fun c hc => by
      obtain ⟨k1, k2, k3, k4⟩ := h c (by simp [hc])
      refine ⟨k1, k2, key.2 _ _ _ _ k3 ?_ ?_, k4⟩
      · rintro ⟨e1, e2⟩; exact (hpw.1 c hc).1 ⟨e1.symm, e2.symm⟩
      · rintro ⟨e1, e2⟩; exact hd c (by simp [hc]) a (by simp) ⟨e1, e2⟩) hpw.2 (fun c hc e he => hd c (by simp [hc]) e (by simp [he]))
    refine ⟨g', R', by simpa using key.1.trans X', fun c hc => ?_, fun r pre v x hL' hne => hrest r pre v x (key.2 _ _ _ _ hL' (hne a (by simp)).1 (hne a (by simp)).2) (fun c hc => hne c (by simp [hc]))⟩
    rcases List.mem_cons.1 hc with rfl | hc
    · refine hrest _ _ _ _ L1 fun e he => ⟨?_, ?_⟩
      · rintro ⟨e1, e2⟩; exact hd e (by simp [he]) c (by simp) ⟨e1.symm, e2.symm⟩
      · rintro ⟨e1, e2⟩; exact (hpw.1 e he).2 ⟨e1, e2⟩
    · exact hdone c hc

/-- A slot that holds nothing is filled. -/
theorem Rel.fillSlot (R : Rel g w tm fr hp) {d : Nat} {x : PV} (hd : get fr d = .undef) (hsz : d < tm.size) (hx : Slot g w hp.length tm d (tm.getD d Go.undef) x)
    (hlv : ∀ t pre, refOf x = some (.slot t, pre) → t ≠ d ∧ rootOk pre (get fr t) = true) : Rel g w tm ((d, x) :: fr) hp := by
  refine ⟨fun t => ?_, R.heap, R.maps, R.immCell, R.ownLt, fun t t' pre h => ?_, fun t h => ?_, R.rows⟩
  · rw [get_cons]; split
    · rename_i e; subst e; exact hx
    · exact R.slots t
  · rw [get_cons] at h
    have hne : t' ≠ d := by
      rintro rfl
      split at h
      · exact (hlv _ _ h).1 rfl
      · have := rooty_of_rootOk (R.live t _ pre h); rw [hd] at this; cases this
    rw [get_cons, if_neg (fun e => hne e.symm)]
    split at h
    · exact (hlv _ _ h).2
    · exact R.live t t' pre h
  · rw [get_cons] at h
    split at h
    · rename_i e; subst e; exact hsz
    · exact R.size t h

/-- A variable's cells turn. -/
theorem Rel.setBoxSlot (R : Rel g w tm fr hp) {d b : Nat} {cs cs' : List PV} (hg : get fr d = .box cs) (hO : Obj1 g w hp.length (.slot d) (.box d) b cs') (hv : tm.getD d Go.undef = .pointer (some ⟨b, 0, none⟩)) :
    Rel g w tm ((d, .box cs') :: fr) hp := by
  refine ⟨fun t => ?_, R.heap, R.maps, R.immCell, R.ownLt, fun t t' pre h => ?_, fun t h => ?_, R.rows⟩
  · rw [get_cons]; split
    · rename_i e; subst e; rw [hv]; exact .box hO
    · exact R.slots t
  · rw [get_cons] at h ⊢
    split at h
    · cases h
    · have := R.live t t' pre h
      split
      · rename_i e; subst e; cases pre <;> rfl
      · exact this
  · rw [get_cons] at h
    split at h
    · rename_i e; subst e; exact R.size _ (by rw [hg]; simp)
    · exact R.size t h
theorem rowAlive_set {i j : Nat} {nd : Node} (h : ∀ s n p, hp[i]? ≠ some (.row s n p)) (ha : rowAlive (hp.set i nd) j = true) : rowAlive hp j = true := by
  unfold rowAlive at ha ⊢
  rw [List.all_eq_true] at ha ⊢
  intro x hx
  obtain ⟨k, hk, rfl⟩ := List.getElem_of_mem hx
  by_cases e : i = k
  · subst e
    have := h
    rw [List.getElem?_eq_getElem hk] at this
    cases hc : hp[i] with
    | row s n p => exact absurd (by rw [hc]) (this s n p)
    | cells cs => rfl
    | map ks vs => rfl
    | bld T e bs => rfl
  · exact ha _ (List.mem_of_getElem (i := k) (h := by rw [List.length_set]; exact hk) (by rw [List.getElem_set_ne e]))
theorem RowsC.set {i : Nat} {nd : Node} (H : RowsC g w hp) (h : ∀ s n p, hp[i]? ≠ some (.row s n p)) (hnd : ∀ s n p, nd ≠ .row s n p) (hnb : ∀ T e bs, nd ≠ .bld T e bs) : RowsC g w (hp.set i nd) := by
  refine ⟨fun j s n p hj => ?_, fun j T e bs hj => ?_⟩
  · rw [List.getElem?_set] at hj
    split at hj
    · split at hj
      · exact absurd (Option.some.inj hj) (hnd s n p)
      · cases hj
    · exact ⟨(H.1 j s n p hj).1, fun h0 ha => (H.1 j s n p hj).2 h0 (rowAlive_set h ha)⟩
  · rw [List.getElem?_set] at hj
    split at hj
    · split at hj
      · exact absurd (Option.some.inj hj) (hnb T e bs)
      · cases hj
    · exact H.2 j T e bs hj
theorem Rel.setObj (R : Rel g w tm fr hp) {i b : Nat} {cs : List PV} (hO : Obj1 g w hp.length (.heap i) (.obj i) b cs) (hnr : ∀ s n p, hp[i]? ≠ some (.row s n p)) : Rel g w tm fr (hp.set i (.cells cs)) := by
  refine ⟨fun t => by rw [List.length_set]; exact R.slots t, fun j cs' h => ?_, fun j ks vs h => ?_, R.immCell, R.ownLt, R.live, R.size, R.rows.set hnr (fun _ _ _ => nofun) (fun _ _ _ => nofun)⟩
  · rw [List.length_set]
    rw [List.getElem?_set] at h
    split at h
    · rename_i e; subst e
      split at h
      · cases h; exact ⟨b, hO⟩
      · cases h
    · exact R.heap j cs' h
  · rw [List.length_set]
    rw [List.getElem?_set] at h
    split at h
    · split at h <;> cases h
    · exact R.maps j ks vs h
/-- A map's entries turn. -/
theorem Rel.setMap (R : Rel g w tm fr hp) {i b : Nat} {ks vs : List PV} (hO : Obj1 g w hp.length (.heap i) (.obj i) b []) (hM : MapC g w hp.length b ks vs) (hnr : ∀ s n p, hp[i]? ≠ some (.row s n p)) : Rel g w tm fr (hp.set i (.map ks vs)) := by
  refine ⟨fun t => by rw [List.length_set]; exact R.slots t, fun j cs' h => ?_, fun j ks' vs' h => ?_, R.immCell, R.ownLt, R.live, R.size, R.rows.set hnr (fun _ _ _ => nofun) (fun _ _ _ => nofun)⟩
  · rw [List.length_set]
    rw [List.getElem?_set] at h
    split at h
    · split at h <;> cases h
    · exact R.heap j cs' h
  · rw [List.length_set]
    rw [List.getElem?_set] at h
    split at h
    · rename_i e; subst e
      split at h
      · cases h; exact ⟨b, hO, hM⟩
      · cases h
    · exact R.maps j ks' vs' h
end
end Go.PS
end

section
/-
  What is handed over.
-/
namespace Go.PS
section
variable {g g' g1 g2 : G} {w w' w1 w2 : World} {hn hn' : Nat} {tm : Array Value} {fr fr' : Fr} {hp hp' hp1 hp2 : Heap} {P : Program} {t : Nat}

/-- Of a step: whose the memory is that it has written. -/
structure StepR (st st' : St) (g : G) (w : World) (g' : G) (w' : World) : Prop where
  base : st'.base = st.base
  mono : st.dirty = true → st'.dirty = true
  x : X st.base st'.dirty g w st.hp g' w' st'.hp
theorem StepR.refl (st : St) (g : G) (w : World) : StepR st st g w g w := ⟨rfl, id, X.refl _ _ _ _ _⟩
theorem StepR.trans {st st1 st2 : St} (h : StepR st st1 g w g1 w1) (h' : StepR st1 st2 g1 w1 g2 w2) : StepR st st2 g w g2 w2 := by
  refine ⟨h'.base.trans h.base, fun hd => h'.mono (h.mono hd), ?_⟩
  have hx := h'.x
  rw [h.base] at hx
  refine (h.x.trans hx).weaken fun hd => ?_
  rw [Bool.or_eq_false_iff]
  refine ⟨?_, hd⟩
  cases h1 : st1.dirty with
  | false => rfl
  | true => rw [h'.mono h1] at hd; cases hd

theorem putRoot_dirty {st : St} {r : Root} {x : PV} : (putRoot st r x).base = st.base ∧ (st.dirty = true → (putRoot st r x).dirty = true) ∧ ((putRoot st r x).dirty = false → Mine st.base r) := by
  cases r with
  | slot t => exact ⟨rfl, id, fun _ i h => by cases h⟩
  | heap i => refine ⟨rfl, fun h => by simp [putRoot, h], fun h j hj => ?_⟩; cases hj; simp [putRoot] at h; exact h.2

/-- The frame and the heap where a variable's cells are put. -/
theorem Rel.putBox {st : St} (R : Rel g w tm st.fr st.hp) {r : Root} {cs cs' : List PV} (hr : rootPV st r = .box cs)
    (hO : ∀ key b, Obj1 g w st.hp.length r key b cs → Obj1 g w st.hp.length r key b cs') : Rel g w tm (putRoot st r (.box cs')).fr (putRoot st r (.box cs')).hp := by
  cases r with
  | slot t =>
    simp only [rootPV] at hr
    have h := R.slots t
    rw [hr] at h
    generalize hv : tm.getD t Go.undef = v at h
    cases h with
    | of h => cases h with | of h => cases h
    | @box b cs h => exact R.setBoxSlot hr (hO _ _ h) hv
  | heap i =>
    obtain ⟨b, hb⟩ := R.obj1 hr
    exact R.setObj (hO _ _ hb) (fun s n p e => by rcases rootPV_heap hr with h | ⟨_, _, _, h⟩ <;> (rw [h] at e; cases e))

theorem putRoot_length (st : St) (r : Root) (x : PV) : (putRoot st r x).hp.length = st.hp.length := by
  cases r <;> simp [putRoot]

theorem rootPV_killFr {st : St} {k : Kill} {r : Root} {cs : List PV} (h : rootPV st r = .box cs) : rootPV { st with fr := killFr k st.fr } r = .box cs := by
  cases r with
  | slot t => simp only [rootPV] at h ⊢; rw [get_kill, h]; rfl
  | heap i => exact h

theorem Obj1.setUndef {r : Root} {key : Key} {b : Nat} {cs : List PV} (h : Obj1 g w hn r key b cs) (o : Nat) : Obj1 g w hn r key b (cs.set o .undef) :=
  ⟨h.loc, h.own, h.imm, fun j hj => h.room j (by simpa using hj), fun j y hj => by
    rw [List.getElem?_set] at hj
    split at hj
    · rename_i e; subst e
      split at hj
      · rename_i hlt
        cases hj
        obtain ⟨v, h1, _⟩ := h.cells o _ (List.getElem?_eq_getElem hlt)
        exact ⟨v, h1, L.undef _⟩
      · cases hj
    · exact h.cells j y hj⟩

theorem nav_root {st : St} {r : Root} {o : Nat} {nd : PV} (h : nav st r (some o) = some nd) : ∃ cs, rootPV st r = .box cs ∧ cs[o]? = some nd := by
  unfold nav at h
  split at h
  · rename_i e _; cases e
  · rename_i e _; cases e
  · rename_i e _; cases e
  · rename_i o' cs hp hr
    cases hp
    split at h
    · rename_i h1; cases h; exact ⟨cs, hr, h1⟩
    · rename_i h1; cases h; exact ⟨cs, hr, h1⟩
    · cases h
  · cases h
theorem nav_slot {st : St} {r : Root} {nd : PV} {tg n cs} (h : nav st r none = some nd) (hs : nd = .sl tg n cs) : ∃ t, r = .slot t ∧ get st.fr t = nd := by
  subst hs
  unfold nav at h
  split at h
  · cases h
  · rename_i hr; cases h; cases r with
    | slot t => exact ⟨t, rfl, hr⟩
    | heap i => simp only [rootPV] at hr; split at hr <;> cases hr
  · rename_i hr; cases h; cases r with
    | slot t => exact ⟨t, rfl, hr⟩
    | heap i => simp only [rootPV] at hr; split at hr <;> cases hr
  · rename_i e _; cases e
  · cases h

theorem refOf_kill {k : Kill} {v : PV} {r pre} (hk : k.hits r pre = true) : refOf (k.on v) ≠ some (r, pre) := fun h => by
  have := (on_refOf _ _ h).2; rw [hk] at this; cases this

/-- A place is emptied. -/
theorem moveOut_sound {st : St} (R : Rel g w tm st.fr st.hp) {r : Root} {pre : Option Nat} {tg : Tag} {n : Nat} {cs : List PV} (h : navS st r pre = some (tg, n, cs)) :
    Rel g w tm (moveOut st r pre).fr (moveOut st r pre).hp ∧ FreeP (moveOut st r pre).fr (moveOut st r pre).hp r pre ∧ StepR st (moveOut st r pre) g w g w ∧
      ((moveOut st r pre).dirty = false → Mine st.base r) ∧ (moveOut st r pre).hp.length = st.hp.length := by
  have hn : nav st r pre = some (.sl tg n cs) := by
    unfold navS at h; split at h
    · cases h; assumption
    · cases h
  cases pre with
  | none =>
    obtain ⟨t, rfl, hg⟩ := nav_slot hn rfl
    refine ⟨R.drop t, ⟨fun t' => ?_, fun t' e => ?_, fun i e => (by cases e)⟩, ⟨rfl, id, X.refl _ _ _ _ _⟩, fun _ i e => (by cases e), rfl⟩
    · show refOf (get (drop t st.fr) t') ≠ _
      rw [get_drop]
      split
      · simp [refOf]
      · exact refOf_kill (by simp [Kill.hits])
    · cases e
      refine ⟨fun _ => ?_, fun o e => (by cases e)⟩
      show get (drop t st.fr) t = _
      rw [get_drop, if_pos rfl]
  | some o =>
    obtain ⟨cs0, hr, ho⟩ := nav_root hn
    have hr' := rootPV_killFr (k := .at r o) hr
    have R1 := R.kill (.at r o)
    have e : moveOut st r (some o) = putRoot { st with fr := killFr (.at r o) st.fr } r (.box (cs0.set o .undef)) := by
      unfold moveOut
      simp only [put, hr', PV.withKids, PV.kids]
    rw [e]
    have R2 := Rel.putBox (st := { st with fr := killFr (.at r o) st.fr }) R1 hr' (cs' := cs0.set o .undef) (fun key b hO => hO.setUndef o)
    obtain ⟨d1, d2, d3⟩ := putRoot_dirty (st := { st with fr := killFr (.at r o) st.fr }) (r := r) (x := .box (cs0.set o .undef))
    have hx : X st.base (putRoot { st with fr := killFr (.at r o) st.fr } r (.box (cs0.set o .undef))).dirty g w st.hp g w (putRoot { st with fr := killFr (.at r o) st.fr } r (.box (cs0.set o .undef))).hp := by
      refine ⟨⟨fun _ _ h => ⟨h, rfl⟩, fun _ _ => rfl, fun _ _ => rfl, by rw [putRoot_length]; exact Nat.le_refl _⟩, rfl, rfl, rfl, Nat.le_refl _, fun b _ => SameBlk.refl _ _ _, fun hd i hi => ⟨?_, fun _ => rfl, fun b _ => SameBlk.refl _ _ _⟩⟩
      cases r with
      | slot t => rfl
      | heap j =>
        have := d3 hd j rfl
        have hi' : i < st.base := hi
        have hj' : st.base ≤ j := this
        simp only [putRoot, PV.kids]
        rw [List.getElem?_set, if_neg (by omega)]
    refine ⟨R2, ⟨fun t' => ?_, fun t' e => ?_, fun i e => ⟨o, rfl, ?_⟩⟩, ⟨d1, d2, hx⟩, d3, putRoot_length _ _ _⟩
    · cases r with
      | slot t =>
        simp only [putRoot, get_cons]
        split
        · simp [refOf]
        · rw [get_kill]; exact refOf_kill (by simp [Kill.hits])
      | heap i => simp only [putRoot]; rw [get_kill]; exact refOf_kill (by simp [Kill.hits])
    · subst e
      refine ⟨fun e => (by cases e), fun o' e cs1 hcs y hy => ?_⟩
      cases e
      simp only [putRoot, get_cons, if_true] at hcs
      rcases hcs with h1 | h1
      · cases h1
        rw [List.getElem?_set] at hy
        simp at hy
        exact hy.2.symm
      · cases h1
    · subst e
      intro cs1 hcs y hy
      simp only [putRoot, PV.kids] at hcs
      rw [List.getElem?_set] at hcs
      simp at hcs
      obtain ⟨_, rfl⟩ := hcs
      rw [List.getElem?_set] at hy
      simp at hy
      exact hy.2.symm
end
end Go.PS
end

section
/-
  What is handed over, part 2.
-/
namespace Go.PS
section
variable {g g' g1 g2 : G} {w w' w1 w2 : World} {hn hn' : Nat} {tm : Array Value} {fr fr' : Fr} {hp hp' hp1 hp2 : Heap} {P : Program} {t : Nat}

inductive TakenV (g : G) (w : World) (hn : Nat) (tm : Array Value) (fr : Fr) (hp : Heap) (base : Nat) (dirty : Bool) (fr0 : Fr) : Value → PV → Prop where
  | flat (v : Value) (y : PV) (h : ∀ t, Slot g w hn tm t v y) (hl : Lv fr y) (hna : ∀ cs, y ≠ .agg cs) (hV : ∀ tg n cs, y = .sl tg n cs → V g w hn v y) : TakenV g w hn tm fr hp base dirty fr0 v y
  | last (v : Value) (cs : List PV) (h : V g w hn v (.agg cs)) : TakenV g w hn tm fr hp base dirty fr0 v (.agg cs)
  | moved (p : Root) (pp : Option Nat) (v : Value) (tg : Tag) (n : Nat) (cs : List PV) (f : FreeP fr hp p pp) (h : L g w hn p pp v (.sl tg n cs)) (m : dirty = false → Mine base p) (ho : ∀ d, get fr0 d = .undef → p ≠ .slot d) : TakenV g w hn tm fr hp base dirty fr0 v (.sl tg n cs)
  | agg (t0 : Nat) (vs : Array Value) (cs : List PV) (hg : get fr t0 = .undef) (hr : ∀ t' pre, refOf (get fr t') ≠ some (.slot t0, pre)) (hs : vs.size = cs.length)
      (h : ∀ (j : Nat) (v : Value) (y : PV), vs[j]? = some v → cs[j]? = some y → L g w hn (.slot t0) (some j) v y) (ho : ∀ d, get fr0 d = .undef → t0 ≠ d) : TakenV g w hn tm fr hp base dirty fr0 (.agg vs) (.agg cs)

theorem refOf_drop {fr : Fr} {t t' : Nat} {pre : Option Nat} : refOf (get (drop t fr) t') ≠ some (.slot t, pre) := by
  rw [get_drop]
  split
  · simp [refOf]
  · exact refOf_kill (by simp [Kill.hits])
theorem free_drop (fr : Fr) (hp : Heap) (t : Nat) (pre : Option Nat) : FreeP (drop t fr) hp (.slot t) pre := by
  refine ⟨fun t' => refOf_drop, fun t' e => ?_, fun i e => by cases e⟩
  cases e
  refine ⟨fun _ => by rw [get_drop, if_pos rfl], fun o _ cs hcs => ?_⟩
  rw [get_drop, if_pos rfl] at hcs
  rcases hcs with h | h <;> cases h
theorem StepR.drop (st : St) (t : Nat) : StepR st { st with fr := drop t st.fr } g w g w := ⟨rfl, id, X.refl _ _ _ _ _⟩

theorem navS_root {st : St} {r : Root} {pre : Option Nat} {x} (h : navS st r pre = some x) (d : Nat) (hd : get st.fr d = .undef) : r ≠ .slot d := by
  rintro rfl
  unfold navS nav at h
  simp only [rootPV, hd] at h
  cases pre <;> cases h

theorem takeV_sound {st st' : St} (R : Rel g w tm st.fr st.hp) {v : Value} {x y : PV} (hx : ∃ t, Slot g w st.hp.length tm t v x) (hl : Lv st.fr x)
    (hsl : ∀ tg n cs, x = .sl tg n cs → V g w st.hp.length v x) (hagg : ∀ cs, x ≠ .agg cs) (h : takeV st x = some (st', y)) :
    Rel g w tm st'.fr st'.hp ∧ StepR st st' g w g w ∧ TakenV g w st'.hp.length tm st'.fr st'.hp st.base st'.dirty st.fr v y ∧ st'.hp.length = st.hp.length := by
  obtain ⟨t, hx⟩ := hx
  have same : ∀ {y}, (∀ t, Slot g w st.hp.length tm t v y) → Lv st.fr y → (∀ cs, y ≠ .agg cs) → (∀ tg n cs, y = .sl tg n cs → V g w st.hp.length v y) → Rel g w tm st.fr st.hp ∧ StepR st st g w g w ∧ TakenV g w st.hp.length tm st.fr st.hp st.base st.dirty st.fr v y ∧ st.hp.length = st.hp.length :=
    fun h1 h2 h3 h4 => ⟨R, StepR.refl _ _ _, .flat _ _ h1 h2 h3 h4, rfl⟩
  have sameV : ∀ {y}, V g w st.hp.length v y → (∀ cs, y ≠ .agg cs) → Rel g w tm st.fr st.hp ∧ StepR st st g w g w ∧ TakenV g w st.hp.length tm st.fr st.hp st.base st.dirty st.fr v y ∧ st.hp.length = st.hp.length :=
    fun h1 h3 => same (fun t => h1.slot t) h1.lv h3 fun _ _ _ _ => h1
  cases x with
  | hd r pre =>
    simp only [takeV] at h
    split at h
    · rename_i s n cs hn
      cases h
      obtain ⟨R', F, S, M, e⟩ := moveOut_sound R hn
      exact ⟨R', S, .moved _ _ _ _ _ _ F (by rw [e]; exact (hd_at R hx hn).2) M (navS_root hn), e⟩
    · rename_i tg n cs hne hn
      cases h
      obtain ⟨htg, hL⟩ := hd_at R hx hn
      cases tg with
      | mu s => exact (hne s rfl).elim
      | ow s => exact sameV hL.share1 (by simp)
      | sh => simp at htg
      | fr => simp at htg
    · cases h
  | vw r pre off sz n =>
    simp only [takeV] at h
    split at h
    · rename_i s m cs hn
      split at h
      · rename_i hle
        cases h
        obtain ⟨htg, u, hu, hL⟩ := navS_at R hn
        rcases hx.vw_inv with ⟨hn0, a, cap, rfl⟩ | ⟨b, o, cap, hloc, rfl, hc⟩
        · subst hn0
          refine sameV ?_ (by simp)
          rw [show List.take (0 * sz) (List.drop off cs) = [] by simp]
          exact .sh0 _ _
        · refine sameV ?_ (by simp)
          have himm : ImmC g b o cs.length ∧ Cells g w st.hp.length b o cs := by
            cases hL with
            | of h =>
              cases h with
              | sl0 a tg => exact ⟨fun j hj => by simp at hj, fun j y hj => by simp at hj⟩
              | sl tg b o n cap cs f htg' => rcases htg' with h | ⟨h, _⟩ <;> cases h
            | ow how hl hle hlen room hi hx hc => rw [hloc] at hl; cases hl; exact ⟨hi, hc⟩
            | full hl hi hc => rw [hloc] at hl; cases hl; exact ⟨hi, hc⟩
          exact V.sl_of (.inl rfl) hc (sub_imm himm.1) (sub_cells himm.2)
      · cases h
    · cases h
  | sl tg n cs => simp only [takeV] at h; cases h; exact sameV (hsl _ _ _ rfl) (by simp)
  | agg cs => exact (hagg cs rfl).elim
  | box cs => simp [takeV] at h
  | undef => simp [takeV] at h
  | int k n => simp only [takeV] at h; cases h; have := hx.int_inv; subst this; exact sameV (.int _ _) (by simp)
  | bool b => simp only [takeV] at h; cases h; have := hx.bool_inv; subst this; exact sameV (.bool _) (by simp)
  | str s => simp only [takeV] at h; cases h; obtain ⟨b, rfl, rfl⟩ := hx.str_inv; exact sameV (.str _) (by simp)
  | raw u => simp only [takeV] at h; cases h; cases hx with | of hx => cases hx with | of hx => exact sameV hx (by simp)
  | nilp => simp only [takeV] at h; cases h; have := hx.nilp_inv; subst this; exact sameV .nilp (by simp)
  | fn f cap => simp only [takeV] at h; cases h; cases hx with | of hx => cases hx with | of hx => exact sameV hx (by simp)
  | bp i => simp only [takeV] at h; cases h; cases hx with | of hx => cases hx with | of hx => exact sameV hx (by simp)
  | mp i => simp only [takeV] at h; cases h; cases hx with | of hx => cases hx with | of hx => exact sameV hx (by simp)
  | rf i n cs => simp only [takeV] at h; cases h; exact sameV hx.rf_inv (by simp)
  | tup vs =>
    simp only [takeV] at h; cases h
    obtain ⟨us, rfl, h1, h2⟩ := hx.tup_inv
    exact same (fun t => .tup h1 h2) (fun t pre h => by cases h) (by simp) (by simp)
  | ptr r pre off =>
    simp only [takeV] at h; cases h
    obtain ⟨b, o, h1, rfl, h2⟩ := hx.ptr_inv
    exact same (fun t => .ptr h1 h2) hl (by simp) (by simp)
  | ep cs off =>
    simp only [takeV] at h; cases h
    obtain ⟨b, o, rfl, h1, h2⟩ := hx.ep_inv
    exact same (fun t => .ep h1 h2) (fun t pre h => by cases h) (by simp) (by simp)

theorem opv_tmp {fr : Fr} {t : Nat} {x : PV} (h : opv fr (.tmp t) = x) (hx : ∀ r pre off, x ≠ .ptr r pre off) : get fr t = x := by
  simp only [opv] at h
  split at h
  · subst h; exact (hx _ _ _ rfl).elim
  · exact h

theorem lasting_V {r : Root} {pre : Option Nat} {v : Value} {y : PV} (h : L g w hn r pre v y) (hl : lasting y = true) : V g w hn v y := by
  cases h with
  | of h => exact h
  | @mu b o n cap sz cs how hl' hle hlen room hi hc h0 =>
    unfold lasting at hl
    split at hl <;> first | (rename_i e; cases e; done) | skip
    · rename_i e; cases e; simp at h0
    · cases hl
  | @ow b o n cap sz cs how hl' hle hlen room hi hx hc h0 =>
    unfold lasting at hl
    split at hl <;> first | (rename_i e; cases e; done) | (cases hl; done)
  | @full b o n sz cs hl' hi hc =>
    unfold lasting at hl
    split at hl <;> first | (rename_i e; cases e; done) | (cases hl; done)
theorem take_sound {st st' : St} {a : Act} (ha : a.tmps = tm) (R : Rel g w tm st.fr st.hp) {x : Operand} {y : PV} (h : take st x = some (st', y)) :
    Rel g w tm st'.fr st'.hp ∧ StepR st st' g w g w ∧ TakenV g w st'.hp.length tm st'.fr st'.hp st.base st'.dirty st.fr (a.eval x) y ∧ st'.hp.length = st.hp.length := by
  obtain ⟨hs0, hl⟩ := opv_sound R a ha x
  cases x with
  | tmp t =>
    have ownS : ∀ tg n cs, opv st.fr (.tmp t) = .sl tg n cs → some ({ st with fr := drop t st.fr }, PV.sl tg n cs) = some (st', y) →
        Rel g w tm st'.fr st'.hp ∧ StepR st st' g w g w ∧ TakenV g w st'.hp.length tm st'.fr st'.hp st.base st'.dirty st.fr (a.eval (.tmp t)) y ∧ st'.hp.length = st.hp.length := by
      intro tg n cs ho hh
      cases hh
      have hg := opv_tmp ho (by simp)
      have hs := R.slots t
      rw [hg] at hs
      refine ⟨R.drop t, StepR.drop st t, .moved (.slot t) none _ _ _ _ (free_drop _ _ _ _) ?_ (fun _ i e => by cases e) (fun d hd e => by cases e; rw [hg] at hd; cases hd), rfl⟩
      subst ha
      exact hs.sl_inv
    cases ho : opv st.fr (.tmp t) with
    | sl tg n cs =>
      cases tg with
      | mu s => exact ownS _ _ _ ho (by simpa [take, ho] using h)
      | ow s => exact ownS _ _ _ ho (by simpa [take, ho] using h)
      | sh =>
        have h : takeV st (opv st.fr (.tmp t)) = some (st', y) := by simpa [take, ho] using h
        refine takeV_sound R hs0 hl (fun tg n cs e => ?_) (fun cs e => by rw [ho] at e; cases e) h
        obtain ⟨t', hs⟩ := hs0
        rw [ho] at hs ⊢
        exact hs.sl_inv.toV fun s n' xs => by simp
      | fr =>
        have h : takeV st (opv st.fr (.tmp t)) = some (st', y) := by simpa [take, ho] using h
        refine takeV_sound R hs0 hl (fun tg n cs e => ?_) (fun cs e => by rw [ho] at e; cases e) h
        obtain ⟨t', hs⟩ := hs0
        rw [ho] at hs ⊢
        exact hs.sl_inv.toV fun s n' xs => by simp
    | agg cs =>
      have h : (if cs.all lasting then some (st, PV.agg cs) else some ({ st with fr := drop t st.fr }, PV.agg cs)) = some (st', y) := by simpa [take, ho] using h
      have hg := opv_tmp ho (by simp)
      have hs := R.slots t
      rw [hg] at hs
      split at h
      · rename_i hla
        cases h
        subst ha
        generalize hv : a.tmps.getD t Go.undef = v at hs
        obtain ⟨vs, rfl, h1, h2⟩ := hs.agg_inv
        simp only [Act.eval, hv]
        refine ⟨R, StepR.refl _ _ _, .last _ _ (.agg _ _ h1 fun j u z h3 h4 => ?_), trivial⟩
        exact lasting_V (h2 j u z h3 h4) (List.all_eq_true.1 hla _ (List.mem_of_getElem? h4))
      cases h
      subst ha
      refine ⟨R.drop t, StepR.drop st t, ?_, rfl⟩
      generalize hv : a.tmps.getD t Go.undef = v at hs
      obtain ⟨vs, rfl, h1, h2⟩ := hs.agg_inv
      simp only [Act.eval, hv]
      exact .agg t _ _ (by show get (drop t st.fr) t = _; rw [get_drop, if_pos rfl]) (fun t' pre => refOf_drop) h1 h2 (fun d hd e => by subst e; rw [hg] at hd; cases hd)
    | _ =>
      have h : takeV st (opv st.fr (.tmp t)) = some (st', y) := by simpa [take, ho] using h
      exact takeV_sound R hs0 hl (fun tg n cs e => by rw [ho] at e; cases e) (fun cs e => by rw [ho] at e; cases e) h
  | const u =>
    have hc : ∀ cs, opv st.fr (.const u) ≠ .agg cs := fun cs e => by
      cases u <;> simp [opv, ofConst] at e <;> (repeat' split at e) <;> cases e
    have h : takeV st (opv st.fr (.const u)) = some (st', y) := by
      unfold take at h
      split at h <;> first | exact h | exact absurd ‹Operand.const u = Operand.tmp _› (by simp)
    exact takeV_sound R hs0 hl (fun tg n cs e => ofConst_sound u) hc h
  | global n => simp [take, opv, takeV] at h
  | func f =>
    have h : takeV st (opv st.fr (.func f)) = some (st', y) := by simpa [take, opv] using h
    exact takeV_sound R hs0 hl (fun tg n cs e => by cases e) (fun cs e => by cases e) h
end
end Go.PS
end

section
/-
  Rows shared for good; assignments.
-/
namespace Go.PS
section
variable {g g' g1 g2 : G} {w w' w1 w2 : World} {hn hn' : Nat} {tm : Array Value} {fr fr' : Fr} {hp hp' hp1 hp2 : Heap} {P : Program} {t : Nat}

def G.freeze (g : G) (b o n : Nat) : G := { g with imm := fun b' j => g.imm b' j ∨ (b' = b ∧ o ≤ j ∧ j < o + n) }

theorem freeze_e0 (b o n : Nat) : Ext0 g w hn (g.freeze b o n) w hn := ⟨fun _ _ h => ⟨.inl h, rfl⟩, fun _ _ => rfl, fun _ _ => rfl, Nat.le_refl _⟩
theorem freeze_other {b o n : Nat} {b' : Nat} (h : b' ≠ b) : SameBlk g w (g.freeze b o n) w b' :=
  ⟨rfl, rfl, fun _ => ⟨fun h' => h'.elim id fun h'' => (h h''.1).elim, .inl⟩⟩

theorem free_clear (R : Rel g w tm fr hp) {p : Root} {pp : Option Nat} (f : FreeP fr hp p pp) {D} (hD : ∀ b j, ¬ D b j) {g' : G} {w' : World}
    (c : Chg (fun r pre => r = p ∧ pre = pp) D g w hp.length g' w' hp.length) (hl : ∀ r pre, g'.loc r pre = g.loc r pre) (hcell : ∀ a : Addr, ∀ u, w.cell? a = some u → w'.cell? a = some u)
    (himm : ∀ b o, g'.imm b o → (w'.cell? ⟨b, o, none⟩).isSome = true) (hown : ∀ b k, g'.own b = some k → b < w'.heap.size)
    (hbk : ∀ b i, g.own b = some (.obj i) → SameBlk g w g' w' b)
    (hmb : ∀ (b : Nat) (es : Array MapEntry) (c : Nat), w.heap[b]? = some (Obj.map es c) → w'.heap[b]? = some (Obj.map es c) := by exact fun _ _ _ h => h) : Rel g' w' tm fr hp := by
  refine R.change c (fun t ht => ⟨fun hh => ?_, fun cs hcs j y hj hy => ⟨fun hh => ?_, fun _ _ _ _ _ _ _ _ => hD _ _⟩, fun _ _ _ _ _ _ _ _ => hD _ _⟩)
    (fun t r pre h hC => ?_) (fun t r pre h u hu => ?_) (fun i cs hc => ⟨fun h => ?_, fun j y hj hy => ⟨fun h => ?_, fun _ _ _ _ _ _ _ _ => hD _ _⟩, fun _ _ _ _ _ _ _ => hD _ _⟩) (fun i ks vs hc => ⟨fun h => ?_, fun b es c _ h => hmb b es c h⟩) himm hown (fun i s n q hc _ _ h => by obtain ⟨h1, h2⟩ := h; obtain ⟨o', h3, _⟩ := f.heap i h1.symm; rw [h3] at h2; cases h2) (fun i T e bs _ b hb => hbk b i hb)
  · obtain ⟨rfl, rfl⟩ := hh; exact ht ((f.slot t rfl).1 rfl)
  · obtain ⟨rfl, rfl⟩ := hh; exact hy ((f.slot t rfl).2 j rfl cs hcs y hj)
  · obtain ⟨rfl, rfl⟩ := hC; exact f.ref t h
  · cases pre with
    | none => cases r <;> exact hu
    | some o => cases r <;> simp only [valAt] at hu ⊢ <;> rw [hl] <;> exact hcell _ _ hu
  · obtain ⟨h1, h2⟩ := h; obtain ⟨o', h3, _⟩ := f.heap i h1.symm; rw [h3] at h2; cases h2
  · obtain ⟨h1, h2⟩ := h; obtain ⟨o', h3, h4⟩ := f.heap i h1.symm; rw [h3] at h2; cases h2; exact hy (h4 cs hc y hj)
  · obtain ⟨h1, h2⟩ := h; obtain ⟨o', h3, _⟩ := f.heap i h1.symm; rw [h3] at h2; cases h2

/-- A row that has been handed over is shared for good. -/
theorem Rel.freeze {base : Nat} {d : Bool} (R : Rel g w tm fr hp) {p : Root} {pp : Option Nat} (f : FreeP fr hp p pp) (m : d = false → Mine base p) {v : Value} {tg : Tag} {n : Nat} {cs : List PV}
    (hL : L g w hp.length p pp v (.sl tg n cs)) : ∃ g', Rel g' w tm fr hp ∧ X base d g w hp g' w hp ∧ V g' w hp.length v (.sl .sh n cs) ∧
      (∀ r pre v x, L g w hp.length r pre v x → ¬ (r = p ∧ pre = pp) → L g' w hp.length r pre v x) ∧ g'.own = g.own := by
  have keep : V g w hp.length v (.sl .sh n cs) → ∃ g', Rel g' w tm fr hp ∧ X base d g w hp g' w hp ∧ V g' w hp.length v (.sl .sh n cs) ∧
      (∀ r pre v x, L g w hp.length r pre v x → ¬ (r = p ∧ pre = pp) → L g' w hp.length r pre v x) ∧ g'.own = g.own := fun hV => ⟨g, R, X.refl _ _ _ _ _, hV, fun _ _ _ _ h _ => h, rfl⟩
  cases hL with
  | of h =>
    cases h with
    | sl0 a tg => exact keep (.sl0 a .sh)
    | sh0 a cap => exact keep (.sh0 a cap)
    | sl tg b o n cap cs f htg hle hc hv => exact keep (.sl .sh b o n cap cs f (.inl rfl) hle hc hv)
  | ow how hl hle hlen room hi hx hc => exact keep (V.sl_of (.inl rfl) hle hi hc)
  | full hl hi hc => exact keep (V.sl_of (.inl rfl) (Nat.le_refl _) hi hc)
  | @mu b o n cap sz cs how hl hle hlen room hi hc =>
    have e0 : Ext0 g w hp.length (g.freeze b o cs.length) w hp.length := freeze_e0 b o cs.length
    have ne : ∀ b' k, g.own b' = some k → k ≠ .st p pp → b' ≠ b := fun b' k hk hne e => by subst e; rw [how] at hk; cases hk; exact hne rfl
    have c : Chg (fun r pre => r = p ∧ pre = pp) (fun _ _ => False) g w hp.length (g.freeze b o cs.length) w hp.length :=
      ⟨e0, fun _ _ _ => rfl, fun b' r pre hb' hC => (freeze_other (ne b' _ hb' (fun e => by cases e; exact hC ⟨rfl, rfl⟩))).same _,
       fun b' t hb' _ => (freeze_other (ne b' _ hb' (by simp))).same _, fun b' i hb' _ => (freeze_other (ne b' _ hb' (by simp))).same _⟩
    have hex : ∀ j, j < cs.length → ∃ u, w.cell? ⟨b, o + j, none⟩ = some u := fun j hj => by
      obtain ⟨u, h1, _⟩ := hc j _ (List.getElem?_eq_getElem hj); exact ⟨u, h1⟩
    refine ⟨g.freeze b o cs.length, free_clear R f (fun _ _ => id) c (fun _ _ => rfl) (fun _ _ h => h) (fun b' j h => ?_) R.ownLt (fun b' i hb' => freeze_other (ne b' _ hb' (by simp))), ?_, ?_, fun r pre v x h hne => ?_, rfl⟩
    · rcases h with h | ⟨rfl, h1, h2⟩
      · exact R.immCell _ _ h
      · obtain ⟨u, hu⟩ := hex (j - o) (by omega)
        rw [show j = o + (j - o) by omega, hu]; rfl
    · refine ⟨e0, rfl, rfl, rfl, Nat.le_refl _, fun b' hb' => ?_, fun hd i hi => ⟨rfl, fun _ => rfl, fun b' hb' => ?_⟩⟩
      · rcases hb' with h | h
        · exact freeze_other (ne b' _ h (by simp))
        · exact freeze_other (ne b' _ h (by simp))
      · rcases hb' with h | ⟨pre, h⟩
        · exact freeze_other (ne b' _ h (by simp))
        · refine freeze_other (ne b' _ h ?_)
          intro e; cases e
          have := m hd i rfl
          omega
    · exact V.sl_of (.inl rfl) hle (fun j hj => .inr ⟨rfl, by omega, by omega⟩) (hc.mono e0 fun _ _ => rfl)
    · exact h.mono (D := fun _ _ => False) e0 rfl (fun b' hb' => (freeze_other (ne b' _ hb' (fun e => by cases e; exact hne ⟨rfl, rfl⟩))).same _) (fun _ _ _ _ _ _ _ _ => id)

theorem X.step {st : St} {g w g' w'} {d : Bool} (h : X st.base d g w st.hp g' w' st.hp) (hd : st.dirty = false → d = false) : StepR st st g w g' w' := ⟨rfl, id, h.weaken hd⟩

theorem retag_sound {r : Root} {pre : Option Nat} {v : Value} {x : PV} (T : TypeId) (h : L g w hn r pre v x) : L g w hn r pre v (retag P T x) := by
  unfold retag
  split
  · have key : ∀ tg, L g w hn r pre v (.sl tg 0 []) := fun tg => by
      cases h with
      | of h => cases h with
        | sl0 a tg => exact .of (.sl0 a _)
        | sl tg b o n cap cs f htg => rcases htg with h | ⟨h, _⟩ <;> cases h
      | mu how hl hle hlen room hi hc h0 => exact absurd h0 (by simp)
    split <;> exact key _
  · exact h
theorem retag_sl (T : TypeId) (tg : Tag) (n : Nat) (cs : List PV) : ∃ tg', retag P T (.sl tg n cs) = .sl tg' n cs := by
  unfold retag
  split
  · rename_i e; cases e; split <;> exact ⟨_, rfl⟩
  · exact ⟨_, rfl⟩
end
end Go.PS
end

section
/-
  Slots written: with what is loose, and with what owns its storage.
-/
namespace Go.PS
section
variable {g g' g1 g2 : G} {w w' w1 w2 : World} {hn hn' : Nat} {tm : Array Value} {fr fr' : Fr} {hp hp' hp1 hp2 : Heap} {P : Program} {t : Nat}

theorem Rel.get_setFr (R : Rel g w tm fr hp) {d t : Nat} (x : PV) (h : d ≠ t) : get (setFr fr d x) t = (Kill.slot d).on (get fr t) :=
  PS.get_setFr fr d t x h (fun pre h' => rooty_of_rootOk (R.live t d pre h'))

theorem FreeP.sub {p : Root} {pp : Option Nat} (f : FreeP fr hp p pp) (h : ∀ t, get fr' t = get fr t ∨ get fr' t = .undef) : FreeP fr' hp p pp := by
  refine ⟨fun t e => ?_, fun t e => ⟨fun hn => ?_, fun o ho cs hcs y hy => ?_⟩, f.heap⟩
  · rcases h t with h1 | h1
    · rw [h1] at e; exact f.ref t e
    · rw [h1] at e; cases e
  · rcases h t with h1 | h1
    · rw [h1]; exact (f.slot t e).1 hn
    · exact h1
  · rcases h t with h1 | h1
    · rw [h1] at hcs; exact (f.slot t e).2 o ho cs hcs y hy
    · rw [h1] at hcs; rcases hcs with h2 | h2 <;> cases h2

/-- A slot is emptied before it is written. -/
theorem Rel.clearSlot (R : Rel g w tm fr hp) {d : Nat} (hd : d < tm.size) (v : Value) :
    Rel g w (tm.setIfInBounds d v) (setFr fr d .undef) hp ∧ (∀ pre, FreeP (setFr fr d .undef) hp (.slot d) pre) ∧ get (setFr fr d .undef) d = .undef ∧ (∀ t pre, refOf (get (setFr fr d .undef) t) ≠ some (.slot d, pre)) ∧
      (∀ p pp, FreeP fr hp p pp → FreeP (setFr fr d .undef) hp p pp) := by
  have g0 : get (setFr fr d .undef) d = .undef := by rw [get_setFr_same]; rfl
  have hr : ∀ t pre, refOf (get (setFr fr d .undef) t) ≠ some (.slot d, pre) := fun t pre => by
    by_cases h : d = t
    · subst h; rw [g0]; simp [refOf]
    · rw [R.get_setFr _ h]; exact refOf_kill (by simp [Kill.hits])
  refine ⟨R.set hd (V.slot (.undef _) d) (fun t pre h => by cases h), fun pre => ⟨fun t => hr t pre, fun t e => ?_, fun i e => by cases e⟩, g0, hr, fun p pp f => f.sub fun t => ?_⟩
  · cases e
    exact ⟨fun _ => g0, fun o _ cs hcs => by rw [g0] at hcs; rcases hcs with h | h <;> cases h⟩
  · by_cases h : d = t
    · subst h; exact .inr g0
    · rw [R.get_setFr _ h]
      rcases on_cases (.slot d) (get fr t) with h1 | ⟨h1, _⟩
      · exact .inl h1
      · exact .inr h1

theorem Rel.get_fill (R : Rel g w tm fr hp) {d : Nat} {x : PV} (hx : (Kill.slot d).on x = x) (t : Nat) : get (setFr fr d x) t = get ((d, x) :: setFr fr d .undef) t := by
  rw [get_cons]
  by_cases h : d = t
  · subst h; rw [if_pos rfl, get_setFr_same, hx]
  · rw [if_neg h, R.get_setFr _ h, R.get_setFr _ h]

/-- The written slot, where what is written stands there by itself. -/
theorem Rel.fillIn (R : Rel g w tm fr hp) {d : Nat} (hd : d < tm.size) {v : Value} {x : PV} (hk : (Kill.slot d).on x = x) (hr : refOf x = none) {g' : G} {w' : World}
    (R' : Rel g' w' (tm.setIfInBounds d v) (setFr fr d .undef) hp') (hx : Slot g' w' hp'.length (tm.setIfInBounds d v) d v x) : Rel g' w' (tm.setIfInBounds d v) (setFr fr d x) hp' := by
  refine Rel.congr (R'.fillSlot (d := d) (x := x) (by rw [get_setFr_same]; rfl) (by simpa using hd) ?_ (fun t pre h => by rw [hr] at h; cases h)) (R.get_fill hk)
  rw [getD_set, if_pos ⟨rfl, hd⟩]
  exact hx

/-- A row is moved into a slot. -/
theorem Rel.putRow {base : Nat} {dd : Bool} (R : Rel g w tm fr hp) {d : Nat} (hd : d < tm.size) {p : Root} {pp : Option Nat} (f : FreeP fr hp p pp) (m : dd = false → Mine base p) {v : Value} {tg : Tag} {n : Nat} {cs : List PV}
    (hL : L g w hp.length p pp v (.sl tg n cs)) : ∃ g', Rel g' w (tm.setIfInBounds d v) (setFr fr d (.sl tg n cs)) hp ∧ X base dd g w hp g' w hp := by
  obtain ⟨R1, F1, _, _, F2⟩ := R.clearSlot hd v
  obtain ⟨g', R2, L2, hg⟩ := R1.moveTo (F2 _ _ f) (F1 none) hL
  refine ⟨g', R.fillIn hd rfl rfl R2 (.of L2), ?_⟩
  rcases hg with rfl | ⟨b, o, own, hb, rfl⟩
  · exact X.refl _ _ _ _ _
  · exact X.bring (F1 none) hb fun h => ⟨m h, fun i e => by cases e⟩

/-- A value that is on its way: what it owns belongs to no place. -/
inductive ResV (g : G) (w : World) (hn : Nat) : Value → PV → Prop where
  | of {v x} (h : V g w hn v x) : ResV g w hn v x
  | tup {us : Array Value} {ys} (hs : us.size = ys.length) (h : ∀ (j : Nat) (v : Value) (y : PV), us[j]? = some v → ys[j]? = some y → V g w hn v y) : ResV g w hn (.tuple us) (.tup ys)
  | mu {b o n cap sz cs} (hb : g.own b = none) (hlt : b < w.heap.size) (hle : n ≤ cap) (hlen : cs.length = n * sz)
      (room : ∀ j, j < cap * sz → (w.cell? ⟨b, o + j, none⟩).isSome = true ∧ w.frozen? ⟨b, o + j, none⟩ = false) (hi : ∀ j, ¬ g.imm b j) (hc : Cells g w hn b o cs) (h0 : 0 < n ∨ 0 < sz) :
      ResV g w hn (.slice (some ⟨b, o, none⟩) n cap) (.sl (.mu sz) n cs)
  | ow {b o n cap sz cs} (hb : g.own b = none) (hlt : b < w.heap.size) (hle : n ≤ cap) (hlen : cs.length = n * sz)
      (room : ∀ j, j < cap * sz → (w.cell? ⟨b, o + j, none⟩).isSome = true ∧ w.frozen? ⟨b, o + j, none⟩ = false) (hi : ImmC g b o cs.length) (hx : ∀ j, g.imm b j → j < o + cs.length) (hc : Cells g w hn b o cs) (h0 : 0 < n ∨ 0 < sz) :
      ResV g w hn (.slice (some ⟨b, o, none⟩) n cap) (.sl (.ow sz) n cs)
  | full {b o n sz cs} (hi : ImmC g b o cs.length) (hc : Cells g w hn b o cs) : ResV g w hn (.slice (some ⟨b, o, none⟩) n n) (.sl (.ow sz) n cs)

/-- What is on its way comes to a slot. -/
theorem Rel.land {base : Nat} {dd : Bool} (R : Rel g w tm fr hp) {d : Nat} (hd : d < tm.size) {v : Value} {x : PV} (h : ResV g w hp.length v x) :
    ∃ g', Rel g' w (tm.setIfInBounds d v) (setFr fr d x) hp ∧ X base dd g w hp g' w hp := by
  cases h with
  | of h => exact ⟨g, R.setFlat hd (h.slot d) (fun t pre h' _ => (h.lv (fr := fr) t pre h')), X.refl _ _ _ _ _⟩
  | tup hs h => exact ⟨g, R.setFlat hd (.tup hs h) (fun t pre h' _ => (by cases h')), X.refl _ _ _ _ _⟩
  | @mu b o n cap sz cs hb hlt hle hlen room hi hc h0 =>
    obtain ⟨R1, F1, _, _, F2⟩ := R.clearSlot hd (.slice (some ⟨b, o, none⟩) n cap)
    have hb' : true = true → (∀ k, g.own b = some k → k = .st (.slot d) none) ∧ b < w.heap.size := fun _ => ⟨fun k hk => (by rw [hb] at hk; cases hk), hlt⟩
    have R2 := R1.bring (F1 none) (F1 none) (b := b) (o := o) (own := true) hb'
    exact ⟨_, R.fillIn hd rfl rfl R2 (.of (.mu (by simp [G.bring]) (by simp [G.bring]) hle hlen room hi (hc.mono (bring_e0 (F1 none) b o true) fun _ _ => rfl))), X.bring (F1 none) hb' fun _ => ⟨fun i e => (by cases e), fun i e => (by cases e)⟩⟩
  | @ow b o n cap sz cs hb hlt hle hlen room hi hx hc h0 =>
    obtain ⟨R1, F1, _, _, F2⟩ := R.clearSlot hd (.slice (some ⟨b, o, none⟩) n cap)
    have hb' : true = true → (∀ k, g.own b = some k → k = .st (.slot d) none) ∧ b < w.heap.size := fun _ => ⟨fun k hk => (by rw [hb] at hk; cases hk), hlt⟩
    have R2 := R1.bring (F1 none) (F1 none) (b := b) (o := o) (own := true) hb'
    exact ⟨_, R.fillIn hd rfl rfl R2 (.of (.ow (by simp [G.bring]) (by simp [G.bring]) hle hlen room hi hx (hc.mono (bring_e0 (F1 none) b o true) fun _ _ => rfl))), X.bring (F1 none) hb' fun _ => ⟨fun i e => (by cases e), fun i e => (by cases e)⟩⟩
  | @full b o n sz cs hi hc =>
    obtain ⟨R1, F1, _, _, F2⟩ := R.clearSlot hd (.slice (some ⟨b, o, none⟩) n n)
    have hb' : false = true → (∀ k, g.own b = some k → k = .st (.slot d) none) ∧ b < w.heap.size := fun h => (by cases h)
    have R2 := R1.bring (F1 none) (F1 none) (b := b) (o := o) (own := false) hb'
    exact ⟨_, R.fillIn hd rfl rfl R2 (.of (.full (by simp [G.bring]) hi (hc.mono (bring_e0 (F1 none) b o false) fun _ _ => rfl))), X.bring (F1 none) hb' fun _ => ⟨fun i e => (by cases e), fun i e => (by cases e)⟩⟩

/-- A new row stands in a slot. -/
theorem Rel.newRow {base : Nat} {dd : Bool} (R : Rel g w tm fr hp) {d : Nat} (hd : d < tm.size) {b n cap sz : Nat} {cs : List PV} (hb : g.own b = none) (hlt : b < w.heap.size) (hle : n ≤ cap) (hlen : cs.length = n * sz)
    (room : ∀ j, j < cap * sz → (w.cell? ⟨b, j, none⟩).isSome = true ∧ w.frozen? ⟨b, j, none⟩ = false) (hi : ∀ j, ¬ g.imm b j) (hc : Cells g w hp.length b 0 cs) (h0 : 0 < n ∨ 0 < sz) :
    ∃ g', Rel g' w (tm.setIfInBounds d (.slice (some ⟨b, 0, none⟩) n cap)) (setFr fr d (.sl (.mu sz) n cs)) hp ∧ X base dd g w hp g' w hp :=
  R.land hd (.mu hb hlt hle hlen (by simpa using room) hi hc h0)

/-- The ghost where a block belongs to nobody. -/
def G.free (g : G) (b : Nat) : G := { g with own := fun b' => if b' = b then none else g.own b' }
theorem free_same {p : Root} {pp : Option Nat} {b : Nat} (how : g.own b = some (.st p pp)) {b' : Nat} {k : Key} (h : g.own b' = some k) (hk : k ≠ .st p pp) : SameBlk g w (g.free b) w b' :=
  ⟨by simp only [G.free]; rw [if_neg]; rintro rfl; rw [how] at h; cases h; exact hk rfl, rfl, fun _ => Iff.rfl⟩
/-- What stands free is on its way. -/
theorem Rel.release {base : Nat} {d : Bool} (R : Rel g w tm fr hp) {p : Root} {pp : Option Nat} (f : FreeP fr hp p pp) (m : d = false → Mine base p) {v : Value} {tg : Tag} {n : Nat} {cs : List PV}
    (hL : L g w hp.length p pp v (.sl tg n cs)) : ∃ g', Rel g' w tm fr hp ∧ X base d g w hp g' w hp ∧ ResV g' w hp.length v (.sl tg n cs) ∧ (∀ u y, V g w hp.length u y → V g' w hp.length u y) ∧
      (∀ b k, g.own b = some k → k ≠ .st p pp → g'.own b = some k) := by
  have key : ∀ b, g.own b = some (.st p pp) → Rel (g.free b) w tm fr hp ∧ X base d g w hp (g.free b) w hp ∧ Ext0 g w hp.length (g.free b) w hp.length ∧ (∀ b' k, g.own b' = some k → k ≠ .st p pp → (g.free b).own b' = some k) := fun b how => by
    have e0 : Ext0 g w hp.length (g.free b) w hp.length := ⟨fun _ _ h => ⟨h, rfl⟩, fun _ _ => rfl, fun _ _ => rfl, Nat.le_refl _⟩
    have c : Chg (fun r pre => r = p ∧ pre = pp) (fun _ _ => False) g w hp.length (g.free b) w hp.length :=
      ⟨e0, fun _ _ _ => rfl, fun b' r pre hb' hC => (free_same how hb' (fun e => by cases e; exact hC ⟨rfl, rfl⟩)).same _,
       fun b' t hb' _ => (free_same how hb' (by simp)).same _, fun b' i hb' _ => (free_same how hb' (by simp)).same _⟩
    refine ⟨free_clear R f (fun _ _ => id) c (fun _ _ => rfl) (fun _ _ h => h) R.immCell (fun b' k hk => ?_) (fun b' i hb' => free_same how hb' (by simp)), ⟨e0, rfl, rfl, rfl, Nat.le_refl _, fun b' hb' => ?_, fun hd i hi => ⟨rfl, fun _ => rfl, fun b' hb' => ?_⟩⟩, e0, fun b' k hk hne => ?_⟩
    · simp only [G.free] at hk; split at hk
      · cases hk
      · exact R.ownLt _ _ hk
    · rcases hb' with h | h
      · exact free_same how h (by simp)
      · exact free_same how h (by simp)
    · rcases hb' with h | ⟨pre, h⟩
      · exact free_same how h (by simp)
      · refine free_same how h ?_
        intro e; cases e
        have := m hd i rfl
        omega
    · simp only [G.free]; rw [if_neg]; exact hk
      rintro rfl; rw [how] at hk; cases hk; exact hne rfl
  cases hL with
  | of h => exact ⟨g, R, X.refl _ _ _ _ _, .of h, fun _ _ h => h, fun _ _ h _ => h⟩
  | full hl hi hc => exact ⟨g, R, X.refl _ _ _ _ _, .full hi hc, fun _ _ h => h, fun _ _ h _ => h⟩
  | mu how hl hle hlen room hi hc h0 =>
    obtain ⟨R', X', e0, ho⟩ := key _ how
    exact ⟨_, R', X', .mu (by simp [G.free]) (R.ownLt _ _ how) hle hlen room hi (hc.mono e0 fun _ _ => rfl) h0, fun _ _ h => h.mono e0, ho⟩
  | ow how hl hle hlen room hi hx hc h0 =>
    obtain ⟨R', X', e0, ho⟩ := key _ how
    exact ⟨_, R', X', .ow (by simp [G.free]) (R.ownLt _ _ how) hle hlen room hi hx (hc.mono e0 fun _ _ => rfl) h0, fun _ _ h => h.mono e0, ho⟩

/-- A struct whose rows stand free: they come to other free places. -/
theorem Rel.moveAgg {base : Nat} {dd : Bool} (R : Rel g w tm fr hp) {t0 : Nat} (hg : get fr t0 = .undef) (hr : ∀ t' pre, refOf (get fr t') ≠ some (.slot t0, pre)) {vs : Array Value} {cs : List PV} (hs : vs.size = cs.length)
    (h : ∀ (j : Nat) (v : Value) (y : PV), vs[j]? = some v → cs[j]? = some y → L g w hp.length (.slot t0) (some j) v y) (q : Root) (hq : q ≠ .slot t0) (off : Nat) (fq : ∀ j, j < cs.length → FreeP fr hp q (some (off + j))) (m : dd = false → Mine base q) :
    ∃ g', Rel g' w tm fr hp ∧ X base dd g w hp g' w hp ∧ (∀ (j : Nat) (v : Value) (y : PV), vs[j]? = some v → cs[j]? = some y → L g' w hp.length q (some (off + j)) v y) ∧
      (∀ r pre v x, L g w hp.length r pre v x → r ≠ .slot t0 → (∀ j, j < cs.length → ¬ (r = q ∧ pre = some (off + j))) → L g' w hp.length r pre v x) := by
  have f0 : ∀ j, FreeP fr hp (.slot t0) (some j) := fun j => ⟨fun t => hr t _, fun t e => by cases e; exact ⟨fun e => (by cases e), fun o _ cs hcs => by rw [hg] at hcs; rcases hcs with h | h <;> cases h⟩, fun i e => by cases e⟩
  let it : Nat → Item := fun j => ⟨.slot t0, some j, q, some (off + j), vs.getD j Go.undef, cs.getD j .undef⟩
  have mem : ∀ a, a ∈ (List.range cs.length).map it → ∃ j, j < cs.length ∧ a = it j := fun a ha => by
    simp only [List.mem_map, List.mem_range] at ha
    obtain ⟨j, h1, h2⟩ := ha
    exact ⟨j, h1, h2.symm⟩
  obtain ⟨g', R', X', h1, h2⟩ := R.moveAll (base := base) (d := dd) ((List.range cs.length).map it) g (fun a ha => by
      obtain ⟨j, hj, rfl⟩ := mem a ha
      refine ⟨f0 j, fq j hj, ?_, fun hd => ⟨fun i e => (by cases e), m hd⟩⟩
      exact h j _ _ (by simp [it, Array.getElem?_eq_getElem (show j < vs.size by omega)]) (by simp [it, List.getElem?_eq_getElem hj]))
    (by
      rw [List.pairwise_map]
      refine List.Pairwise.imp ?_ List.nodup_range
      intro a b hab
      refine ⟨?_, ?_⟩
      · rintro ⟨_, e⟩; simp [it] at e; exact hab e
      · rintro ⟨_, e⟩; simp [it] at e; exact hab e)
    (fun a ha b hb => by
      obtain ⟨i, _, rfl⟩ := mem a ha
      obtain ⟨j, _, rfl⟩ := mem b hb
      rintro ⟨e, _⟩
      exact hq e.symm)
  refine ⟨g', R', X', fun j v y hv hy => ?_, fun r pre v x hL hr' hne => h2 r pre v x hL fun a ha => ?_⟩
  · have := h1 (it j) (List.mem_map.2 ⟨j, List.mem_range.2 (lt_of_some hy), rfl⟩)
    simpa [it, hv, hy] using this
  · obtain ⟨j, hj, rfl⟩ := mem a ha
    exact ⟨fun e => hr' e.1, hne j hj⟩
end
end Go.PS
end

section
/-
  Rows that a place owns, shared for good where they stand.
-/
namespace Go.PS
section
variable {g g' g1 g2 : G} {w w' w1 w2 : World} {hn hn' : Nat} {tm : Array Value} {fr fr' : Fr} {hp hp' hp1 hp2 : Heap} {P : Program} {t : Nat}

theorem Rel.ref_ok (R : Rel g w tm fr hp) {t i : Nat} {pre : Option Nat} (h : refOf (get fr t) = some (.heap i, pre)) : i < hp.length ∧ g.cap i = 0 := by
  have hs := R.slots t
  generalize get fr t = x at *
  generalize tm.getD t Go.undef = v at hs
  cases hs with
  | of hs => cases hs with
    | of hs => cases hs <;> simp [refOf] at h; rename_i hi _; obtain ⟨rfl, rfl⟩ := h; exact hi
    | _ => cases h
  | ptr hl hi => simp [refOf] at h; obtain ⟨rfl, rfl⟩ := h; exact hi _ rfl
  | hd h' hi => simp [refOf] at h; obtain ⟨rfl, rfl⟩ := h; exact hi _ rfl
  | vw hl hle hi => simp [refOf] at h; obtain ⟨rfl, rfl⟩ := h; exact hi _ rfl
  | vw0 hi => simp [refOf] at h; obtain ⟨rfl, rfl⟩ := h; exact hi _ rfl
  | _ => cases h
theorem Rel.ref_lt (R : Rel g w tm fr hp) {t i : Nat} {pre : Option Nat} (h : refOf (get fr t) = some (.heap i, pre)) : i < hp.length := (R.ref_ok h).1

theorem Rel.node (R : Rel g w tm fr hp) {i : Nat} (h : i < hp.length) (h0 : g.cap i = 0) : ∃ b cs, Obj1 g w hp.length (.heap i) (.obj i) b cs := by
  have e := List.getElem?_eq_getElem h
  cases hn : hp[i] with
  | cells cs => rw [hn] at e; obtain ⟨b, hb⟩ := R.heap i _ e; exact ⟨b, cs, hb⟩
  | map ks vs => rw [hn] at e; obtain ⟨b, hb, _⟩ := R.maps i _ _ e; exact ⟨b, [], hb⟩
  | row s n p => rw [hn] at e; have := (R.rows.1 i _ _ _ e).1; omega
  | bld T q bs => rw [hn] at e; obtain ⟨_, _, _, _, _, h3, _⟩ := R.rows.2 i _ _ _ e; omega

def keyOf : Root → Key
  | .slot t => .box t
  | .heap i => .obj i
theorem keyOf_inj {r r' : Root} (h : keyOf r = keyOf r') : r = r' := by
  cases r <;> cases r' <;> simp [keyOf] at h <;> rw [h]

theorem Rel.obj {st : St} (R : Rel g w tm st.fr st.hp) {r : Root} {cs : List PV} (hr : rootPV st r = .box cs) : ∃ b, Obj1 g w st.hp.length r (keyOf r) b cs ∧ ∀ t, r = .slot t → tm.getD t Go.undef = .pointer (some ⟨b, 0, none⟩) := by
  cases r with
  | slot t =>
    have h := R.slots t
    simp only [rootPV] at hr
    rw [hr] at h
    generalize hv : tm.getD t Go.undef = v at h
    cases h with
    | of h => cases h with | of h => cases h
    | box h => exact ⟨_, h, fun t' e => by cases e; exact hv⟩
  | heap i =>
    obtain ⟨b, hb⟩ := R.obj1 hr
    exact ⟨b, hb, fun t e => by cases e⟩

theorem Rel.refObj {st : St} (R : Rel g w tm st.fr st.hp) {t : Nat} {r : Root} {q : Nat} (h : refOf (get st.fr t) = some (r, some q)) : ∃ cs, rootPV st r = .box cs := by
  cases r with
  | slot t' =>
    have := R.live t t' _ h
    simp only [rootPV]
    cases hg : get st.fr t' <;> rw [hg] at this <;> simp [rootOk] at this
    exact ⟨_, rfl⟩
  | heap i =>
    obtain ⟨this, h0⟩ := R.ref_ok h
    have hr := R.rows.1 i
    have hr2 := R.rows.2 i
    simp only [rootPV, List.getElem?_eq_getElem this] at hr hr2 ⊢
    cases hc : st.hp[i] with
    | cells cs => exact ⟨_, rfl⟩
    | map ks vs => exact ⟨_, rfl⟩
    | row s n p => have := (hr s n p (by rw [hc])).1; omega
    | bld T e bs => obtain ⟨_, _, _, _, _, h3, _⟩ := hr2 T e bs (by rw [hc]); omega

theorem putRoot_X {st : St} {r : Root} {x : PV} : X st.base (putRoot st r x).dirty g w st.hp g w (putRoot st r x).hp := by
  obtain ⟨d1, d2, d3⟩ := putRoot_dirty (st := st) (r := r) (x := x)
  refine ⟨⟨fun _ _ h => ⟨h, rfl⟩, fun _ _ => rfl, fun _ _ => rfl, by rw [putRoot_length]; exact Nat.le_refl _⟩, rfl, rfl, rfl, Nat.le_refl _, fun b _ => SameBlk.refl _ _ _, fun hd i hi => ⟨?_, fun _ => rfl, fun b _ => SameBlk.refl _ _ _⟩⟩
  cases r with
  | slot t => rfl
  | heap j =>
    have hj' : st.base ≤ j := d3 hd j rfl
    simp only [putRoot]
    rw [List.getElem?_set, if_neg (by omega)]

theorem put_eq {st : St} {r : Root} {pre : Option Nat} {x : PV} : ∃ y, put st r pre x = putRoot st r y := by
  cases pre with
  | none => exact ⟨_, rfl⟩
  | some o => exact ⟨_, rfl⟩
theorem put_X {st : St} {r : Root} {pre : Option Nat} {x : PV} : X st.base (put st r pre x).dirty g w st.hp g w (put st r pre x).hp := by
  obtain ⟨y, e⟩ := put_eq (st := st) (r := r) (pre := pre) (x := x)
  rw [e]; exact putRoot_X
theorem put_dirty {st : St} {r : Root} {pre : Option Nat} {x : PV} : (put st r pre x).base = st.base ∧ (st.dirty = true → (put st r pre x).dirty = true) ∧ ((put st r pre x).dirty = false → Mine st.base r) ∧ (put st r pre x).hp.length = st.hp.length := by
  obtain ⟨y, e⟩ := put_eq (st := st) (r := r) (pre := pre) (x := x)
  rw [e]
  obtain ⟨h1, h2, h3⟩ := putRoot_dirty (st := st) (r := r) (x := y)
  exact ⟨h1, h2, h3, putRoot_length _ _ _⟩

theorem L.freezeOther {r r' : Root} {pre pre' : Option Nat} {b o m : Nat} (how : g.own b = some (.st r pre)) (hne : ¬ (r' = r ∧ pre' = pre)) {v : Value} {x : PV} (h : L g w hn r' pre' v x) :
    L (g.freeze b o m) w hn r' pre' v x :=
  h.mono (D := fun _ _ => False) (freeze_e0 b o m) rfl (fun b' hb' => (freeze_other (fun e => by subst e; rw [how] at hb'; cases hb'; exact hne ⟨rfl, rfl⟩)).same _) (fun _ _ _ _ _ _ _ _ => id)

/-- What stands in another slot stands there still. -/
theorem Slot.freezeOther {r : Root} {pre : Option Nat} {b o m : Nat} (how : g.own b = some (.st r pre)) (hr : r ≠ .slot t) {v : Value} {x : PV} (h : Slot g w hn tm t v x) : Slot (g.freeze b o m) w hn tm t v x := by
  have e0 : Ext0 g w hn (g.freeze b o m) w hn := freeze_e0 b o m
  have far : ∀ pre', ¬ (Root.slot t = r ∧ pre' = pre) := fun pre' e => hr e.1.symm
  cases h with
  | of h => exact .of (h.freezeOther how (far _))
  | box h =>
    have hb : ∀ j, ¬ (g.freeze b o m).imm _ j := fun j hj => by
      rcases hj with hj | ⟨e, _⟩
      · exact h.imm j hj
      · subst e; have := h.own; rw [how] at this; cases this
    exact .box ⟨h.loc, h.own, hb, h.room, fun j y hj => by obtain ⟨u, h1, h2⟩ := h.cells j y hj; exact ⟨u, h1, h2.freezeOther how (far _)⟩⟩
  | agg hs h => exact .agg hs fun j u y h1 h2 => (h j u y h1 h2).freezeOther how (far _)
  | tup hs h => exact .tup hs fun j u y h1 h2 => (h j u y h1 h2).mono e0
  | ptr hl hi => exact .ptr hl hi
  | hd h hi => exact .hd h hi
  | vw hl hle hi => exact .vw hl hle hi
  | vw0 hi => exact .vw0 hi
  | ep hi hc => exact .ep (fun j hj => (e0.imm _ _ (hi j hj)).1) (hc.mono e0 fun _ _ => rfl)

theorem Obj1.freezeOther {r r' : Root} {pre : Option Nat} {b o m : Nat} (how : g.own b = some (.st r pre)) (hr : r' ≠ r) {key : Key} (hk : ∀ p q, key ≠ .st p q) {b' : Nat} {cs : List PV} (h : Obj1 g w hn r' key b' cs) : Obj1 (g.freeze b o m) w hn r' key b' cs := by
  refine ⟨h.loc, h.own, fun j hj => ?_, h.room, fun j y hj => ?_⟩
  · rcases hj with hj | ⟨e, _⟩
    · exact h.imm j hj
    · subst e; have := h.own; rw [how] at this; cases this; exact hk _ _ rfl
  · obtain ⟨u, h1, h2⟩ := h.cells j y hj
    exact ⟨u, h1, h2.freezeOther how fun e => hr e.1⟩

/-- The variable in which the place lies. -/
theorem Obj1.freezeHere {r : Root} {q : Nat} {b o m : Nat} (how : g.own b = some (.st r (some q))) {key : Key} (hk : ∀ p q, key ≠ .st p q) {b' : Nat} {cs : List PV} (h : Obj1 g w hn r key b' cs) {y' : PV}
    (hL : ∀ u y, cs[q]? = some y → L g w hn r (some q) u y → L (g.freeze b o m) w hn r (some q) u y') : Obj1 (g.freeze b o m) w hn r key b' (cs.set q y') := by
  refine ⟨h.loc, h.own, fun j hj => ?_, fun j hj => h.room j (by simpa using hj), fun j y hj => ?_⟩
  · rcases hj with hj | ⟨e, _⟩
    · exact h.imm j hj
    · subst e; have := h.own; rw [how] at this; cases this; exact hk _ _ rfl
  · rw [List.getElem?_set] at hj
    split at hj
    · rename_i e; subst e
      split at hj
      · rename_i hlt
        cases hj
        obtain ⟨u, h1, h2⟩ := h.cells q _ (List.getElem?_eq_getElem hlt)
        exact ⟨u, h1, hL u _ (List.getElem?_eq_getElem hlt) h2⟩
      · cases hj
    · rename_i hne
      obtain ⟨u, h1, h2⟩ := h.cells j y hj
      exact ⟨u, h1, h2.freezeOther how fun e => by cases e.2; exact hne rfl⟩

theorem put_some {st : St} {r : Root} {o : Nat} {x : PV} {cs : List PV} (hr : rootPV st r = .box cs) : put st r (some o) x = putRoot st r (.box (cs.set o x)) := by
  simp only [put, hr, PV.withKids, PV.kids]

/-- A slice node is replaced, and its row shared. -/
theorem Rel.freezeNode {st : St} (R : Rel g w tm st.fr st.hp) {r : Root} {pre : Option Nat} {tg tg' : Tag} {n n' : Nat} {cs cs' : List PV} (h : nav st r pre = some (.sl tg n cs)) {b o m : Nat} (how : g.own b = some (.st r pre))
    (hex : ∀ j, j < m → (w.cell? ⟨b, o + j, none⟩).isSome = true)
    (hL : ∀ u, L g w st.hp.length r pre u (.sl tg n cs) → L (g.freeze b o m) w st.hp.length r pre u (.sl tg' n' cs')) (hry : rooty (.sl tg' n' cs') = true := by rfl) : Rel (g.freeze b o m) w tm (put st r pre (.sl tg' n' cs')).fr (put st r pre (.sl tg' n' cs')).hp := by
  have himm : ∀ b' k, (g.freeze b o m).imm b' k → (w.cell? ⟨b', k, none⟩).isSome = true := fun b' k hk => by
    rcases hk with hk | ⟨rfl, h1, h2⟩
    · exact R.immCell _ _ hk
    · have := hex (k - o) (by omega)
      rwa [show o + (k - o) = k by omega] at this
  have hmp : ∀ i ks vs, st.hp[i]? = some (.map ks vs) → Root.heap i ≠ r → ∃ b', Obj1 (g.freeze b o m) w st.hp.length (.heap i) (.obj i) b' [] ∧ MapC (g.freeze b o m) w st.hp.length b' ks vs := fun i ks vs hc hne => by
    obtain ⟨b', hO, hM⟩ := R.maps i ks vs hc
    exact ⟨b', hO.freezeOther how hne (by simp), hM.mono (freeze_e0 _ _ _) (fun _ _ h => h)⟩
  have hrw : RowsC (g.freeze b o m) w st.hp := by
    refine ⟨fun i s n p hc => ⟨(R.rows.1 i s n p hc).1, fun h0 ha => ?_⟩, fun i T e bs hc => (R.rows.2 i T e bs hc).keep rfl rfl fun b' hb' => freeze_other fun e => by subst e; rw [how] at hb'; cases hb'⟩
    rcases (R.rows.1 i s n p hc).2 h0 ha with hf | ⟨b', o', hl, ho, hr, hx⟩
    · exact .inl hf
    refine .inr ⟨b', o', hl, ho, hr, fun j hj => ?_⟩
    rcases hj with hj | ⟨rfl, _⟩
    · exact hx j hj
    · rw [how] at ho; cases ho
  cases pre with
  | none =>
    obtain ⟨t, rfl, hg⟩ := nav_slot h rfl
    simp only [put, putRoot]
    refine ⟨fun t' => ?_, fun i c hc => ?_, fun i ks vs hc => hmp i ks vs hc (by simp), himm, R.ownLt, fun t1 t2 p h' => ?_, fun t' h' => ?_, hrw⟩
    · rw [get_cons]; split
      · rename_i e; subst e
        have := R.slots t
        rw [hg] at this
        exact .of (hL _ this.sl_inv)
      · rename_i hne
        exact (R.slots t').freezeOther how (fun e => by cases e; exact hne rfl)
    · obtain ⟨b', hO⟩ := R.heap i c hc
      exact ⟨b', hO.freezeOther how (by simp) (by simp)⟩
    · rw [get_cons] at h' ⊢
      split at h'
      · cases h'
      · have := R.live t1 t2 p h'
        split
        · rename_i e; subst e; rw [hg] at this; cases p with
          | none => exact hry
          | some q => cases this
        · exact this
    · rw [get_cons] at h'
      split at h'
      · rename_i e; subst e; exact R.size _ (by rw [hg]; simp)
      · exact R.size t' h'
  | some q =>
    obtain ⟨cs0, hr, ho⟩ := nav_root h
    rw [put_some hr]
    have hL' : ∀ u y, cs0[q]? = some y → L g w st.hp.length r (some q) u y → L (g.freeze b o m) w st.hp.length r (some q) u (.sl tg' n' cs') := fun u y hy hLy => by
      rw [ho] at hy; cases hy; exact hL u hLy
    cases r with
    | slot s =>
      simp only [rootPV] at hr
      simp only [putRoot]
      refine ⟨fun t' => ?_, fun i c hc => ?_, fun i ks vs hc => hmp i ks vs hc (by simp), himm, R.ownLt, fun t1 t2 p h' => ?_, fun t' h' => ?_, hrw⟩
      · rw [get_cons]; split
        · rename_i e; subst e
          have hs := R.slots s
          rw [hr] at hs
          generalize tm.getD s Go.undef = v at hs
          cases hs with
          | of hs => cases hs with | of hs => cases hs
          | box hO => exact .box (hO.freezeHere how (by simp) hL')
        · rename_i hne
          exact (R.slots t').freezeOther how (fun e => by cases e; exact hne rfl)
      · obtain ⟨b', hO⟩ := R.heap i c hc
        exact ⟨b', hO.freezeOther how (by simp) (by simp)⟩
      · rw [get_cons] at h' ⊢
        split at h'
        · cases h'
        · have := R.live t1 t2 p h'
          split
          · rename_i e; subst e; rw [hr] at this; cases p <;> rfl
          · exact this
      · rw [get_cons] at h'
        split at h'
        · rename_i e; subst e; exact R.size _ (by rw [hr]; simp)
        · exact R.size t' h'
    | heap i =>
      have hci : st.hp[i]? = some (.cells cs0) := rootPV_cells hr ho
      simp only [putRoot, PV.kids]
      refine ⟨fun t' => ?_, fun j c hc => ?_, fun j ks vs hc => ?_, himm, R.ownLt, R.live, R.size, hrw.set (fun s' n' p' e => by rw [hci] at e; cases e) (fun _ _ _ => nofun) (fun _ _ _ => nofun)⟩
      · rw [List.length_set]; exact (R.slots t').freezeOther how (by simp)
      · rw [List.length_set]
        rw [List.getElem?_set] at hc
        split at hc
        · rename_i e; subst e
          split at hc
          · cases hc
            obtain ⟨b', hO⟩ := R.heap i _ hci
            exact ⟨b', hO.freezeHere how (by simp) hL'⟩
          · cases hc
        · rename_i hne
          obtain ⟨b', hO⟩ := R.heap j c hc
          exact ⟨b', hO.freezeOther how (by simpa using Ne.symm hne) (by simp)⟩
      · rw [List.length_set]
        rw [List.getElem?_set] at hc
        split at hc
        · split at hc <;> cases hc
        · rename_i hne
          exact hmp j ks vs hc (by simpa using Ne.symm hne)

theorem Rel.putNode {st : St} (R : Rel g w tm st.fr st.hp) {r : Root} {pre : Option Nat} {tg tg' : Tag} {n n' : Nat} {cs cs' : List PV} (h : nav st r pre = some (.sl tg n cs))
    (hL : ∀ u, L g w st.hp.length r pre u (.sl tg n cs) → L g w st.hp.length r pre u (.sl tg' n' cs')) (hry : rooty (.sl tg' n' cs') = true := by rfl) : Rel g w tm (put st r pre (.sl tg' n' cs')).fr (put st r pre (.sl tg' n' cs')).hp := by
  cases pre with
  | none =>
    obtain ⟨t, rfl, hg⟩ := nav_slot h rfl
    simp only [put, putRoot]
    refine ⟨fun t' => ?_, R.heap, R.maps, R.immCell, R.ownLt, fun t1 t2 p h' => ?_, fun t' h' => ?_, R.rows⟩
    · rw [get_cons]; split
      · rename_i e; subst e
        have := R.slots t
        rw [hg] at this
        exact .of (hL _ this.sl_inv)
      · exact R.slots t'
    · rw [get_cons] at h' ⊢
      split at h'
      · cases h'
      · have := R.live t1 t2 p h'
        split
        · rename_i e; subst e; rw [hg] at this; cases p with
          | none => exact hry
          | some q => cases this
        · exact this
    · rw [get_cons] at h'
      split at h'
      · rename_i e; subst e; exact R.size _ (by rw [hg]; simp)
      · exact R.size t' h'
  | some o =>
    obtain ⟨cs0, hr, ho⟩ := nav_root h
    have e : put st r (some o) (.sl tg' n' cs') = putRoot st r (.box (cs0.set o (.sl tg' n' cs'))) := by simp only [put, hr, PV.withKids, PV.kids]
    rw [e]
    refine R.putBox hr fun key b hO => ⟨hO.loc, hO.own, hO.imm, fun j hj => hO.room j (by simpa using hj), fun j z hz => ?_⟩
    rw [List.getElem?_set] at hz
    split at hz
    · rename_i e; subst e
      split at hz
      · cases hz
        obtain ⟨u, h1, h2⟩ := hO.cells o _ ho
        exact ⟨u, h1, hL u h2⟩
      · cases hz
    · exact hO.cells j z hz
/-- A place's slice is shared. -/
theorem shareAt_sound {st st' : St} (R : Rel g w tm st.fr st.hp) {r : Root} {pre : Option Nat} {y : PV} (h : shareAt st r pre = some (st', y)) :
    ∃ g', Rel g' w tm st'.fr st'.hp ∧ StepR st st' g w g' w ∧ (∀ u, valAt g w tm r pre = some u → V g' w st'.hp.length u y) ∧ st'.hp.length = st.hp.length ∧ g'.own = g.own := by
  unfold shareAt at h
  split at h
  · rename_i s n cs hn
    cases h
    obtain ⟨_, u0, hu0, hL0⟩ := navS_at R hn
    have hnav : nav st r pre = some (.sl (.mu s) n cs) := by
      unfold navS at hn; split at hn
      · cases hn; assumption
      · cases hn
    obtain ⟨d1, d2, d3, d4⟩ := put_dirty (st := st) (r := r) (pre := pre) (x := .sl (.ow s) n cs)
    have same : (∀ u, L g w st.hp.length r pre u (.sl (.mu s) n cs) → L g w st.hp.length r pre u (.sl (.ow s) n cs)) → V g w st.hp.length u0 (.sl .sh n cs) →
        ∃ g', Rel g' w tm (put st r pre (.sl (.ow s) n cs)).fr (put st r pre (.sl (.ow s) n cs)).hp ∧ StepR st (put st r pre (.sl (.ow s) n cs)) g w g' w ∧
          (∀ u, valAt g w tm r pre = some u → V g' w (put st r pre (.sl (.ow s) n cs)).hp.length u (.sl .sh n cs)) ∧ (put st r pre (.sl (.ow s) n cs)).hp.length = st.hp.length ∧ g'.own = g.own := fun hL hV =>
      ⟨g, R.putNode hnav hL, ⟨d1, d2, put_X⟩, fun u hu => by rw [hu0] at hu; cases hu; rw [d4]; exact hV, d4, rfl⟩
    cases hL0 with
    | of hV =>
      cases hV with
      | sl0 a tg =>
        refine same (fun u hL => ?_) (.sh0 _ _)
        cases hL with
        | of h => cases h with
          | sl0 a tg => exact .of (.sl0 _ _)
          | sl tg b o n cap cs f htg => rcases htg with h | ⟨h, _⟩ <;> cases h
        | mu how hl hle hlen room hi hc h0 => exact .ow how hl hle hlen room (fun j hj => by simp at hj) (fun j hj => (hi j hj).elim) hc
      | sl tg b o n cap cs f htg => rcases htg with h | ⟨h, _⟩ <;> cases h
    | @mu b o _ cap _ _ how hl hle hlen room hi hc h0 =>
      have hex : ∀ j, j < cs.length → (w.cell? ⟨b, o + j, none⟩).isSome = true := fun j hj => by
        obtain ⟨u, h1, _⟩ := hc j _ (List.getElem?_eq_getElem hj); rw [h1]; rfl
      have e0 : Ext0 g w st.hp.length (g.freeze b o cs.length) w st.hp.length := freeze_e0 b o cs.length
      have hI : ImmC (g.freeze b o cs.length) b o cs.length := fun j hj => .inr ⟨rfl, by omega, by omega⟩
      have hC := hc.mono e0 fun _ _ => rfl
      refine ⟨_, R.freezeNode hnav how hex (m := cs.length) (o := o) (fun u hL => ?_), ⟨d1, d2, ?_⟩, fun u hu => ?_, d4, rfl⟩
      · generalize hz : cs = cs0 at hL
        cases hL with
        | of h => cases h with
          | sl0 a tg => subst hz; exact .of (.sl0 _ _)
          | sl tg b o n cap cs f htg => rcases htg with h | ⟨h, _⟩ <;> cases h
        | @mu b' o' _ cap' _ _ how' hl' hle' hlen' room' hi' hc' h0' =>
          subst hz
          rw [hl] at hl'; cases hl'
          exact .ow how hl hle' hlen' room' hI (fun j hj => by
            rcases hj with hj | ⟨_, h1, h2⟩
            · exact (hi _ hj).elim
            · exact h2) hC
      · have x1 : X st.base (put st r pre (.sl (.ow s) n cs)).dirty g w st.hp g w (put st r pre (.sl (.ow s) n cs)).hp := put_X
        have hne : ∀ b' k, g.own b' = some k → k ≠ .st r pre → b' ≠ b := fun b' k hk hne e => by subst e; rw [how] at hk; cases hk; exact hne rfl
        have x2 : X st.base (put st r pre (.sl (.ow s) n cs)).dirty g w (put st r pre (.sl (.ow s) n cs)).hp (g.freeze b o cs.length) w (put st r pre (.sl (.ow s) n cs)).hp := by
          refine ⟨freeze_e0 b o cs.length, rfl, rfl, rfl, Nat.le_refl _, fun b' hb' => freeze_other ?_, fun hd i hi => ⟨rfl, fun _ => rfl, fun b' hb' => freeze_other ?_⟩⟩
          · rcases hb' with h | h
            · exact hne b' _ h (by simp)
            · exact hne b' _ h (by simp)
          · rcases hb' with h | ⟨pre', h⟩
            · exact hne b' _ h (by simp)
            · refine hne b' _ h ?_
              intro e; cases e
              have := d3 hd i rfl
              omega
        exact (x1.trans x2).weaken (by simp)
      · rw [hu0] at hu; cases hu
        rw [d4]
        exact V.sl_of (.inl rfl) hle hI hC
  · rename_i tg n cs hne hn
    cases h
    obtain ⟨htg, u0, hu0, hL0⟩ := navS_at R hn
    refine ⟨g, R, StepR.refl _ _ _, fun u hu => ?_, rfl, rfl⟩
    rw [hu0] at hu; cases hu
    cases tg with
    | mu s => exact (hne s rfl).elim
    | ow s => exact hL0.share1
    | sh => simp at htg
    | fr => simp at htg
  · cases h

/-- A stretch of a variable is shared. -/
theorem shareRange_sound {st : St} (R : Rel g w tm st.fr st.hp) (r : Root) (off : Nat) : ∀ k, ∃ g', Rel g' w tm (shareRange st r off k).fr (shareRange st r off k).hp ∧ StepR st (shareRange st r off k) g w g' w ∧ g'.own = g.own
  | 0 => ⟨g, R, StepR.refl _ _ _, rfl⟩
  | k + 1 => by
    obtain ⟨g1, R1, S1, e1⟩ := shareRange_sound R r off k
    unfold shareRange
    split
    · rename_i st2 y h
      obtain ⟨g2, R2, S2, _, _, e2⟩ := shareAt_sound R1 h
      exact ⟨g2, R2, S1.trans S2, e2.trans e1⟩
    · exact ⟨g1, R1, S1, e1⟩
end
end Go.PS
end

section
/-
  Values handed over for good; assignments.
-/
namespace Go.PS
section
variable {g g' g1 g2 : G} {w w' w1 w2 : World} {hn hn' : Nat} {tm : Array Value} {fr fr' : Fr} {hp hp' hp1 hp2 : Heap} {P : Program} {t : Nat}

theorem StepR.ofX {st st' : St} {d : Bool} (hb : st'.base = st.base) (hdd : st'.dirty = st.dirty) (h : X st.base d g w st.hp g' w' st'.hp) (hd : st.dirty = false → d = false) : StepR st st' g w g' w' :=
  ⟨hb, fun h => by rw [hdd]; exact h, h.weaken fun h => hd (by rw [← hdd]; exact h)⟩

theorem V.outCell {v : Value} {x : PV} (h : V g w hn v x) : V g w hn v (outCell x) := by
  cases h with
  | sl0 a tg => exact .sl0 a .sh
  | sh0 a cap => exact .sh0 a cap
  | sl tg b o n cap cs f htg hle hc hv => exact .sl .sh b o n cap cs f (.inl rfl) hle hc hv
  | undef v => exact .undef v
  | int k n => exact .int k n
  | bool b => exact .bool b
  | str s => exact .str s
  | raw v h => exact .raw v h
  | nilp => exact .nilp
  | ptr i off b hi hl => exact .ptr i off b hi hl
  | fn f cv cap hs hv => exact .fn f cv cap hs hv
  | agg vs cs hs hv => exact .agg vs cs hs hv
  | mp i b hi hl => exact .mp i b hi hl
  | bp i b hi hl => exact .bp i b hi hl
  | rf i b o n cap cs f hi hl hcap hle h0 hc hv => exact .rf i b o n cap cs f hi hl hcap hle h0 hc hv
theorem V.outNil {v : Value} {x : PV} (h : V g w hn v x) : V g w hn v (outNil x) := by
  unfold PS.outNil
  split
  · exact h
  · exact h.outCell

theorem flat_V (R : Rel g w tm fr hp) {v : Value} {y : PV} (hs : Slot g w hp.length tm t v y) (hV : ∀ tg n cs, y = .sl tg n cs → V g w hp.length v y) (hst : storable y = true) : V g w hp.length v y := by
  cases hs with
  | of h =>
    cases h with
    | of h => exact h
    | ow how hl hle hlen room hi hx hc => exact hV _ _ _ rfl
    | full hl hi hc => exact hV _ _ _ rfl
    | mu how hl hle hlen room hi hc => exact hV _ _ _ rfl
  | box h => cases hst
  | agg hs h => cases hst
  | tup hs h => cases hst
  | @ptr r pre off b o hl hi =>
    cases r with
    | slot t => cases hst
    | heap i =>
      cases pre with
      | some o => cases hst
      | none =>
        have hi' := hi i rfl
        obtain ⟨b', _, hb⟩ := R.node hi'.1 hi'.2
        have := hb.loc
        rw [hl] at this; cases this
        rw [Nat.zero_add]
        exact .ptr i off b hi' hl
  | hd h hi => cases hst
  | vw hl hle hi => cases hst
  | vw0 hi => cases hst
  | ep hi hc => cases hst
theorem not_sl_storable {y : PV} (h : storable y = true) : (∃ tg n cs, y = .sl tg n cs) ∨ ∀ tg n cs, y ≠ .sl tg n cs := by
  cases y <;> first | exact .inl ⟨_, _, _, rfl⟩ | exact .inr (by simp)

theorem free_at {t0 : Nat} (hg : get fr t0 = .undef) (hr : ∀ t' pre, refOf (get fr t') ≠ some (.slot t0, pre)) (pre : Option Nat) : FreeP fr hp (.slot t0) pre :=
  ⟨fun t => hr t _, fun t e => by cases e; exact ⟨fun _ => hg, fun o _ cs hcs => by rw [hg] at hcs; rcases hcs with h | h <;> cases h⟩, fun i e => by cases e⟩

/-- A struct's rows are shared for good. -/
theorem Rel.freezeAgg {base : Nat} {d : Bool} (R : Rel g w tm fr hp) {t0 : Nat} (hg : get fr t0 = .undef) (hr : ∀ t' pre, refOf (get fr t') ≠ some (.slot t0, pre)) {vs : Array Value} {cs : List PV} (hs : vs.size = cs.length)
    (h : ∀ (j : Nat) (v : Value) (y : PV), vs[j]? = some v → cs[j]? = some y → L g w hp.length (.slot t0) (some j) v y) (hst : cs.all storable = true) : ∀ k, k ≤ cs.length →
    ∃ g', Rel g' w tm fr hp ∧ X base d g w hp g' w hp ∧ (∀ (j : Nat) (v : Value) (y : PV), j < k → vs[j]? = some v → cs[j]? = some y → V g' w hp.length v (outCell y)) ∧
      (∀ (j : Nat) (v : Value) (y : PV), k ≤ j → vs[j]? = some v → cs[j]? = some y → L g' w hp.length (.slot t0) (some j) v y) ∧ g'.own = g.own
  | 0, _ => ⟨g, R, X.refl _ _ _ _ _, fun j v y hj => by omega, fun j v y _ => h j v y, rfl⟩
  | k + 1, hk => by
    obtain ⟨g1, R1, X1, h1, h2, ho1⟩ := R.freezeAgg (base := base) (d := d) hg hr hs h hst k (by omega)
    have hlt : k < cs.length := by omega
    have hv : vs[k]? = some vs[k] := Array.getElem?_eq_getElem (by omega)
    have hc : cs[k]? = some cs[k] := List.getElem?_eq_getElem hlt
    have hL := h2 k _ _ (Nat.le_refl _) hv hc
    have hsk : storable cs[k] = true := List.all_eq_true.1 hst _ (List.getElem_mem hlt)
    rcases not_sl_storable hsk with ⟨tg, n, xs, e⟩ | e
    · rw [e] at hL
      obtain ⟨g2, R2, X2, hV, hkeep, ho2⟩ := R1.freeze (base := base) (d := d) (free_at hg hr (some k)) (fun _ i e => by cases e) hL
      refine ⟨g2, R2, by simpa using X1.trans X2, fun j v y hj hvj hyj => ?_, fun j v y hj hvj hyj => hkeep _ _ _ _ (h2 j v y (by omega) hvj hyj) ?_, ho2.trans ho1⟩
      · by_cases hjk : j = k
        · subst hjk
          rw [hv] at hvj; rw [hc] at hyj
          cases hvj; cases hyj
          rw [e]; exact hV
        · exact (h1 j v y (by omega) hvj hyj).mono X2.e0
      · rintro ⟨_, e⟩; cases e; omega
    · refine ⟨g1, R1, X1, fun j v y hj hvj hyj => ?_, fun j v y hj hvj hyj => h2 j v y (by omega) hvj hyj, ho1⟩
      by_cases hjk : j = k
      · subst hjk
        rw [hv] at hvj; rw [hc] at hyj
        cases hvj; cases hyj
        exact (hL.toV fun s n xs => ⟨e _ _ _, e _ _ _⟩).outCell
      · exact h1 j v y (by omega) hvj hyj

theorem takeOut_take {st st' : St} {a : Act} (ha : a.tmps = tm) (R : Rel g w tm st.fr st.hp) {x : Operand} {y : PV} (h : (match take st x with | some (st, v) => if (cellsOf v).all storable = true then some (st, out v) else none | none => none) = some (st', y)) :
    ∃ g', Rel g' w tm st'.fr st'.hp ∧ StepR st st' g w g' w ∧ V g' w st'.hp.length (a.eval x) y ∧ st'.hp.length = st.hp.length ∧ g'.own = g.own := by
  split at h
  · rename_i st1 v ht
    split at h
    · rename_i hst
      cases h
      obtain ⟨R1, S1, T1, hlen⟩ := take_sound ha R ht
      rw [← S1.base] at T1
      generalize a.eval x = u at T1
      cases T1 with
      | flat _ _ hs hl hna hVs =>
        have : cellsOf v = [v] := by cases v <;> first | rfl | exact (hna _ rfl).elim
        rw [this] at hst
        have hst : storable v = true := by simpa using hst
        have ho : out v = outCell v := by cases v <;> first | rfl | exact (hna _ rfl).elim
        exact ⟨g, R1, S1, by rw [ho]; exact (flat_V R1 (hs 0) hVs hst).outCell, hlen, rfl⟩
      | last _ cs hV =>
        refine ⟨g, R1, S1, ?_, hlen, rfl⟩
        cases hV with
        | agg us _ hs hv =>
          refine .agg _ _ (by simpa using hs) (fun j v y hv' hy => ?_)
          simp only [List.getElem?_map, Option.map_eq_some_iff] at hy
          obtain ⟨z, hz, rfl⟩ := hy
          exact (hv j v z hv' hz).outCell
      | moved p pp _ tg n cs f hL m ho =>
        obtain ⟨g2, R2, X2, hV, _, ho2⟩ := R1.freeze f m hL
        exact ⟨g2, R2, S1.trans (StepR.ofX rfl rfl X2 id), hV, hlen, ho2⟩
      | agg t0 vs cs hg hr hs hL ho =>
        obtain ⟨g2, R2, X2, hV, _, ho2⟩ := R1.freezeAgg (base := st'.base) (d := st'.dirty) hg hr hs hL hst cs.length (Nat.le_refl _)
        refine ⟨g2, R2, S1.trans (StepR.ofX rfl rfl X2 id), .agg _ _ (by simpa using hs) (fun j v y hv hy => ?_), hlen, ho2⟩
        simp only [List.getElem?_map, Option.map_eq_some_iff] at hy
        obtain ⟨z, hz, rfl⟩ := hy
        exact hV j v z (lt_of_some hz) hv hz
    · cases h
  · cases h
theorem outC_cases (x : Operand) (v : PV) : outC x v = out v ∨ (v = .sl (.mu 0) 0 [] ∧ outC x v = v) := by
  unfold outC
  split
  · exact .inr ⟨rfl, rfl⟩
  · exact .inl rfl
theorem takeOut_takeC {st st' : St} {a : Act} (ha : a.tmps = tm) (R : Rel g w tm st.fr st.hp) {x : Operand} {y : PV} (h : (match take st x with | some (st, v) => if (cellsOf v).all storable = true then some (st, outC x v) else none | none => none) = some (st', y)) :
    ∃ g', Rel g' w tm st'.fr st'.hp ∧ StepR st st' g w g' w ∧ V g' w st'.hp.length (a.eval x) y ∧ st'.hp.length = st.hp.length ∧ g'.own = g.own := by
  cases ht : take st x with
  | none => rw [ht] at h; cases h
  | some p =>
    obtain ⟨st1, v⟩ := p
    rcases outC_cases x v with e | ⟨rfl, e⟩
    · rw [ht] at h
      simp only [e] at h
      exact takeOut_take ha R (by rw [ht]; exact h)
    · rw [ht] at h
      simp only at h
      split at h
      · rename_i hst
        rw [e] at h
        cases h
        obtain ⟨R1, S1, T1, hlen⟩ := take_sound ha R ht
        refine ⟨g, R1, S1, ?_, hlen, rfl⟩
        generalize a.eval x = u at T1
        generalize hz : PV.sl (.mu 0) 0 [] = z at T1 hst
        cases T1 with
        | flat _ _ hs hl hna hVs =>
          have : cellsOf z = [z] := by subst hz; rfl
          rw [this] at hst
          exact flat_V R1 (hs 0) hVs (by simpa using hst)
        | last _ cs hV => exact hV
        | moved p pp _ tg n cs f hL m ho =>
          cases hz
          cases hL with
          | of h => exact h
          | mu how hl hle hlen room hi hc h0 => omega
        | agg t0 vs cs hg hr hs hL ho => cases hz
      · cases h
theorem takeOut_sound {st st' : St} {a : Act} (ha : a.tmps = tm) (R : Rel g w tm st.fr st.hp) {x : Operand} {y : PV} (h : takeOut st x = some (st', y)) :
    ∃ g', Rel g' w tm st'.fr st'.hp ∧ StepR st st' g w g' w ∧ V g' w st'.hp.length (a.eval x) y ∧ st'.hp.length = st.hp.length ∧ g'.own = g.own := by
  unfold takeOut at h
  split at h
  · rename_i r pre ho
    obtain ⟨⟨t0, hs⟩, _⟩ := opv_sound R a ha x
    rw [ho] at hs
    obtain ⟨g', R', S', hV, e1, e2⟩ := shareAt_sound R h
    exact ⟨g', R', S', hV _ hs.hd_inv, e1, e2⟩
  · exact takeOut_takeC ha R h

theorem takeL_sound {a : Act} (ha : a.tmps = tm) : ∀ (xs : List Operand) {st st' : St} {ys : List PV} {g : G}, Rel g w tm st.fr st.hp → takeL st xs = some (st', ys) →
    ∃ g', Rel g' w tm st'.fr st'.hp ∧ StepR st st' g w g' w ∧ ys.length = xs.length ∧ (∀ (j : Nat) (x : Operand) (y : PV), xs[j]? = some x → ys[j]? = some y → V g' w st'.hp.length (a.eval x) y) ∧ st'.hp.length = st.hp.length ∧ g'.own = g.own
  | [], st, st', ys, g, R, h => by cases h; exact ⟨g, R, StepR.refl _ _ _, rfl, fun j x y hx => by simp at hx, rfl, rfl⟩
  | x :: xs, st, st', ys, g, R, h => by
    unfold takeL at h
    split at h
    · cases h
    · rename_i st1 v h1
      split at h
      · cases h
      · rename_i st2 vs h2
        cases h
        obtain ⟨g1, R1, S1, V1, e1, o1⟩ := takeOut_sound ha R h1
        obtain ⟨g2, R2, S2, hlen, V2, e2, o2⟩ := takeL_sound ha xs R1 h2
        refine ⟨g2, R2, S1.trans S2, by simp [hlen], fun j z y hz hy => ?_, e2.trans e1, o2.trans o1⟩
        cases j with
        | zero => simp at hz hy; subst hz; subst hy; exact V1.mono S2.x.e0
        | succ j => exact V2 j z y (by simpa using hz) (by simpa using hy)

theorem retag_id {x : PV} (T : TypeId) (h : ∀ tg n cs, x ≠ .sl tg n cs) : retag P T x = x := by
  unfold retag; split
  · exact (h _ _ _ rfl).elim
  · rfl
theorem retag_slot {v : Value} {x : PV} (T : TypeId) (h : Slot g w hn tm t v x) : Slot g w hn tm t v (retag P T x) := by
  by_cases hx : ∃ tg n cs, x = .sl tg n cs
  · obtain ⟨tg, n, cs, rfl⟩ := hx
    exact .of (retag_sound T h.sl_inv)
  · rw [retag_id T fun tg n cs e => hx ⟨tg, n, cs, e⟩]; exact h

/-- What was taken is put into a slot. -/
theorem Taken.put {st : St} (R : Rel g w tm st.fr st.hp) {v : Value} {y : PV} {fr0 : Fr} (h : TakenV g w st.hp.length tm st.fr st.hp st.base st.dirty fr0 v y) {d : Nat} (hd : d < tm.size) (T : TypeId) :
    ∃ g', Rel g' w (tm.setIfInBounds d v) (setFr st.fr d (retag P T y)) st.hp ∧ X st.base st.dirty g w st.hp g' w st.hp := by
  cases h with
  | flat _ _ hs hl hna hVs =>
    refine ⟨g, R.setFlat hd (retag_slot T (hs d)) (fun t pre h _ => ?_), X.refl _ _ _ _ _⟩
    by_cases hx : ∃ tg n cs, y = .sl tg n cs
    · obtain ⟨tg, n, cs, rfl⟩ := hx
      obtain ⟨tg', e⟩ := retag_sl (P := P) T tg n cs
      rw [e] at h; cases h
    · rw [retag_id T fun tg n cs e => hx ⟨tg, n, cs, e⟩] at h
      exact hl t pre h
  | last _ cs hV =>
    rw [retag_id T (by simp)]
    exact ⟨g, R.setFlat hd (hV.slot d) (fun t pre h _ => by cases h), X.refl _ _ _ _ _⟩
  | moved p pp _ tg n cs f hL m ho =>
    obtain ⟨tg', e⟩ := retag_sl (P := P) T tg n cs
    have hL' := retag_sound (P := P) T hL
    rw [e] at hL' ⊢
    exact R.putRow hd f m hL'
  | agg t0 vs cs hg hr hs hL ho =>
    rw [retag_id T (by simp)]
    obtain ⟨R1, F1, g0, r0, F2⟩ := R.clearSlot hd (.agg vs)
    by_cases ht : t0 = d
    · subst ht
      exact ⟨g, R.fillIn hd rfl rfl R1 (.agg hs hL), X.refl _ _ _ _ _⟩
    · have hg' : get (setFr st.fr d .undef) t0 = .undef := by rw [R.get_setFr _ (Ne.symm ht), hg]; rfl
      have hr' : ∀ t' pre, refOf (get (setFr st.fr d .undef) t') ≠ some (.slot t0, pre) := fun t' pre e => by
        by_cases h : d = t'
        · subst h; rw [g0] at e; cases e
        · rw [R.get_setFr _ h] at e
          exact hr _ _ (on_refOf _ _ e).1
      obtain ⟨g', R2, X2, hL2, _⟩ := R1.moveAgg (base := st.base) (dd := st.dirty) hg' hr' hs hL (.slot d) (fun e => by cases e; exact ht rfl) 0 (fun j _ => F1 _) (fun _ i e => by cases e)
      exact ⟨g', R.fillIn hd rfl rfl R2 (.agg hs (by simpa using hL2)), X2⟩

theorem assign_sound {st st' : St} {a : Act} (ha : a.tmps = tm) (R : Rel g w tm st.fr st.hp) {o : Oper} {d : Nat} (hd : d < tm.size) {x : Operand} (h : assign P st o d x = some st') :
    ∃ g', Rel g' w (tm.setIfInBounds d (a.eval x)) st'.fr st'.hp ∧ StepR st st' g w g' w := by
  unfold assign at h
  split at h
  · rename_i st1 v ht
    obtain ⟨R1, S1, T1, hlen⟩ := take_sound ha R ht
    rw [← S1.base] at T1
    obtain ⟨g2, R2, X2⟩ := Taken.put (P := P) R1 T1 hd o.type
    split at h
    · cases h
    · cases h
    · cases h
      exact ⟨g2, R2, S1.trans (StepR.ofX rfl rfl X2 id)⟩
  · cases h
end
end Go.PS
end

section
/-
  Structs that are built; variables that are made.
-/
namespace Go.PS
section
variable {g g' g1 g2 : G} {w w' w1 w2 : World} {hn hn' : Nat} {tm : Array Value} {fr fr' : Fr} {hp hp' hp1 hp2 : Heap} {P : Program} {t : Nat}

theorem cells_one {v : Value} (h : ∀ cs, v ≠ .agg cs) : v.cells = #[v] := by
  cases v <;> first | rfl | exact (h _ rfl).elim

theorem V.not_agg {v : Value} {y : PV} (h : V g w hn v y) (hst : storable y = true) : ∀ cs, v ≠ .agg cs := by
  intro cs e; subst e
  cases h <;> first | cases hst | skip
  rename_i h; cases h

theorem cellsOf_one {y : PV} (h : ∀ cs, y ≠ .agg cs) : cellsOf y = [y] := by
  cases y <;> first | rfl | exact (h _ rfl).elim

/-- What was taken comes to cells that are free. -/
theorem Taken.toCells {st : St} (R : Rel g w tm st.fr st.hp) {fr0 : Fr} {v : Value} {y : PV} (h : TakenV g w st.hp.length tm st.fr st.hp st.base st.dirty fr0 v y) (hst : (cellsOf y).all storable = true)
    (q : Root) (off : Nat) (fq : ∀ j, j < (cellsOf y).length → FreeP st.fr st.hp q (some (off + j))) (m : st.dirty = false → Mine st.base q) (hq : (∀ d, q = .slot d → get fr0 d = .undef) ∨ ∀ d, q = .slot d → get st.fr d ≠ .undef) :
    ∃ g', Rel g' w tm st.fr st.hp ∧ X st.base st.dirty g w st.hp g' w st.hp ∧ v.cells.size = (cellsOf y).length ∧
      (∀ (j : Nat) (v' : Value) (y' : PV), v.cells[j]? = some v' → (cellsOf y)[j]? = some y' → L g' w st.hp.length q (some (off + j)) v' y') ∧
      ((∀ d, q = .slot d → get fr0 d = .undef) → ∀ d k v x, q = .slot d → (k < off ∨ off + (cellsOf y).length ≤ k) → L g w st.hp.length q (some k) v x → L g' w st.hp.length q (some k) v x) := by
  cases h with
  | flat _ _ hs hl hna hVs =>
    have hc := cellsOf_one hna
    rw [hc] at hst fq ⊢
    have hst : storable y = true := by simpa using hst
    have hV := flat_V R (hs 0) hVs hst
    have hcv := cells_one (hV.not_agg hst)
    refine ⟨g, R, X.refl _ _ _ _ _, by rw [hcv]; rfl, fun j v' y' h1 h2 => ?_, fun _ _ _ _ _ _ _ h => h⟩
    rw [hcv] at h1
    cases j with
    | zero => simp at h1 h2; subst h1; subst h2; exact .of hV
    | succ j => simp at h2
  | last _ cs hV =>
    cases hV with
    | agg vs _ hs hv => exact ⟨g, R, X.refl _ _ _ _ _, hs, fun j v' y' h1 h2 => .of (hv j v' y' h1 h2), fun _ _ _ _ _ _ _ h => h⟩
  | moved p pp _ tg n cs f hL m' ho =>
    have hcv : v.cells = #[v] := cells_one fun xs e => by
      subst e
      cases hL with | of h => cases h
    obtain ⟨g', R', L', hg⟩ := R.moveTo f (fq 0 (by simp [cellsOf])) hL
    refine ⟨g', R', ?_, by rw [hcv]; rfl, fun j v' y' h1 h2 => ?_, fun hq d k v x hqd hk hLk => ?_⟩
    · rcases hg with rfl | ⟨b, o, own, hb, rfl⟩
      · exact X.refl _ _ _ _ _
      · exact X.bring (fq 0 (by simp [cellsOf])) hb fun hd => ⟨m' hd, m hd⟩
    · rw [hcv] at h1
      cases j with
      | zero => simp [cellsOf] at h1 h2; subst h1; subst h2; exact L'
      | succ j => simp [cellsOf] at h2
    · rcases hg with rfl | ⟨b, o, own, hb, rfl⟩
      · exact hLk
      · refine hLk.bring (fq 0 (by simp [cellsOf])) hb ?_ ?_
        · rintro ⟨e, _⟩; exact ho d (hq d hqd) (by rw [← e, hqd])
        · rintro ⟨_, e⟩; simp [cellsOf] at hk; cases e; omega
  | agg t0 vs cs hg hr hs hL ho =>
    have hne : q ≠ .slot t0 := fun e => hq.elim (fun hq => ho t0 (hq t0 e) rfl) (fun hq => hq t0 e hg)
    obtain ⟨g', R', X', h1, h2⟩ := R.moveAgg (base := st.base) (dd := st.dirty) hg hr hs hL q hne off fq m
    refine ⟨g', R', X', hs, h1, fun _ d k v x hqd hk hLk => h2 _ _ _ _ hLk hne fun j hj => ?_⟩
    rintro ⟨_, e⟩
    cases e
    simp [cellsOf] at hk
    omega

theorem splice_get : ∀ (vs cs : List PV) (off k : Nat), off + vs.length ≤ cs.length → (splice cs off vs)[k]? = if off ≤ k ∧ k < off + vs.length then vs[k - off]? else cs[k]?
  | [], cs, off, k, h => by
    rw [if_neg (by simp <;> omega), splice_nil]
  | v :: vs, cs, off, k, h => by
    simp only [splice_cons, List.length_cons] at h ⊢
    rw [splice_get vs _ _ _ (by simp; omega), List.getElem?_set]
    by_cases h1 : off + 1 ≤ k ∧ k < off + 1 + vs.length
    · rw [if_pos h1, if_pos (by omega), show k - off = (k - (off + 1)) + 1 by omega, List.getElem?_cons_succ]
    · rw [if_neg h1]
      by_cases h2 : off = k
      · subst h2; rw [if_pos rfl, if_pos (by omega), if_pos (by omega)]; simp
      · rw [if_neg h2, if_neg (by omega)]
theorem splice_length : ∀ (vs cs : List PV) (off : Nat), (splice cs off vs).length = cs.length
  | [], _, _ => by rw [splice_nil]
  | v :: vs, cs, off => by simp [splice_cons, splice_length vs]

theorem fold_get (cells : Array Value) (off : Nat) : ∀ (l : List Value) (i : Nat) (cs : Array Value) (k : Nat), off + i + l.length ≤ cs.size →
    ((l.zipIdx i).foldl (fun cs (x : Value × Nat) => cs.setIfInBounds (off + x.2) x.1) cs)[k]? = if off + i ≤ k ∧ k < off + i + l.length then l[k - (off + i)]? else cs[k]?
  | [], i, cs, k, h => by rw [if_neg (by simp <;> omega)]; simp
  | v :: l, i, cs, k, h => by
    simp only [List.zipIdx_cons, List.foldl_cons, List.length_cons] at h ⊢
    rw [fold_get cells off l (i + 1) _ k (by simp; omega), Array.getElem?_setIfInBounds]
    by_cases h1 : off + (i + 1) ≤ k ∧ k < off + (i + 1) + l.length
    · rw [if_pos h1, if_pos (by omega), show k - (off + i) = (k - (off + (i + 1))) + 1 by omega, List.getElem?_cons_succ]
    · rw [if_neg h1]
      by_cases h2 : off + i = k
      · subst h2; rw [if_pos rfl, if_pos (by omega), if_pos (by omega)]; simp
      · rw [if_neg h2, if_neg (by omega)]
theorem fold_size (off : Nat) : ∀ (l : List (Value × Nat)) (cs : Array Value), (l.foldl (fun cs (x : Value × Nat) => cs.setIfInBounds (off + x.2) x.1) cs).size = cs.size
  | [], _ => rfl
  | v :: l, cs => by simp [fold_size off l]

/-- One part laid into the model's cells. -/
theorem fill_get (u : Value) (cells : Array Value) (off : Nat) (h : off + u.cells.size ≤ cells.size) (k : Nat) :
    (u.cells.zipIdx.foldl (fun cs (x : Value × Nat) => cs.setIfInBounds (off + x.2) x.1) cells)[k]? = if off ≤ k ∧ k < off + u.cells.size then u.cells[k - off]? else cells[k]? := by
  have := fold_get cells off u.cells.toList 0 cells k (by simpa using h)
  rw [← Array.foldl_toList, Array.toList_zipIdx]
  simpa using this
theorem fill_size (u : Value) (cells : Array Value) (off : Nat) : (u.cells.zipIdx.foldl (fun cs (x : Value × Nat) => cs.setIfInBounds (off + x.2) x.1) cells).size = cells.size := by
  rw [← Array.foldl_toList]; exact fold_size off _ _

/-- A slot that holds nothing and that nobody looks at. -/
def Bare (fr : Fr) (d : Nat) : Prop := get fr d = .undef ∧ ∀ t pre, refOf (get fr t) ≠ some (.slot d, pre)
theorem Bare.kill {d : Nat} (h : Bare fr d) (k : Kill) : Bare (killFr k fr) d :=
  ⟨by rw [get_kill, h.1]; rfl, fun t pre e => by rw [get_kill] at e; exact h.2 t pre (on_refOf _ _ e).1⟩
theorem Bare.drop {d : Nat} (h : Bare fr d) (s : Nat) : Bare (drop s fr) d := by
  refine ⟨?_, fun t pre e => ?_⟩
  · rw [get_drop]; split
    · rfl
    · rw [h.1]; rfl
  · rw [get_drop] at e
    split at e
    · cases e
    · exact h.2 t pre (on_refOf _ _ e).1
theorem Bare.free {d : Nat} (h : Bare fr d) (pre : Option Nat) : FreeP fr hp (.slot d) pre := free_at h.1 h.2 pre
theorem bare_drop (fr : Fr) (d : Nat) : Bare (PS.drop d fr) d := ⟨by rw [get_drop, if_pos rfl], fun _ _ => refOf_drop⟩

theorem take_bare {st st' : St} {x : Operand} {y : PV} (h : take st x = some (st', y)) {d : Nat} (hd : Bare st.fr d) : Bare st'.fr d := by
  have hV : ∀ {v}, takeV st v = some (st', y) → Bare st'.fr d := by
    intro v h
    unfold takeV at h
    split at h
    · rename_i r pre
      split at h
      · rename_i s n cs hn
        cases h
        cases pre with
        | none => cases r with
          | slot s => exact hd.drop s
          | heap i => exact hd
        | some o =>
          have hroot := navS_root hn d hd.1
          have hb : ∃ cs0, rootPV st r = .box cs0 := by
            unfold navS at hn
            split at hn
            · rename_i h1; obtain ⟨cs0, h2, _⟩ := nav_root h1; exact ⟨cs0, h2⟩
            · cases hn
          obtain ⟨cs0, hb⟩ := hb
          have hk := hd.kill (.at r o)
          cases r with
          | heap i => exact hk
          | slot s =>
            have hsd : s ≠ d := fun e => hroot (by rw [e])
            have e1 : (moveOut st (.slot s) (some o)).fr = (s, .box (cs0.set o .undef)) :: killFr (.at (.slot s) o) st.fr := by
              have hb' := rootPV_killFr (k := .at (.slot s) o) hb
              unfold moveOut
              simp only [put, hb', PV.withKids, PV.kids, putRoot]
            rw [e1]
            refine ⟨by rw [get_cons, if_neg hsd]; exact hk.1, fun t pre e => ?_⟩
            rw [get_cons] at e
            split at e
            · cases e
            · exact hk.2 t pre e
      · cases h; exact hd
      · cases h
    · split at h
      · split at h
        · cases h; exact hd
        · cases h
      · cases h
    · cases h
    · cases h
    · cases h; exact hd
  unfold take at h
  split at h
  · cases h; exact hd.drop _
  · cases h; exact hd.drop _
  · split at h
    · cases h; exact hd
    · cases h; exact hd.drop _
  · exact hV h

theorem L.same_g {hn' : Nat} {r : Root} {pre : Option Nat} {v : Value} {x : PV} (h : L g w hn r pre v x) (e : hn' = hn) : L g w hn' r pre v x := by subst e; exact h

/-- Parts laid into a struct's cells, in the model and in the evaluator. -/
theorem buildL_sound {a : Act} (ha : a.tmps = tm) {d : Nat} (pl : Nat → Option (Nat × Nat)) : ∀ (parts : List (Nat × Operand)) {st st' : St} {cs cs' : List PV} {vs : Array Value} {g : G}, Rel g w tm st.fr st.hp → Bare st.fr d →
    vs.size = cs.length → (∀ (j : Nat) (v : Value) (y : PV), vs[j]? = some v → cs[j]? = some y → L g w st.hp.length (.slot d) (some j) v y) → buildL pl st cs parts = some (st', cs') →
    ∃ g' vs', Instr.fill pl vs (parts.map fun (i, x) => (i, a.eval x)) = some vs' ∧ Rel g' w tm st'.fr st'.hp ∧ Bare st'.fr d ∧ StepR st st' g w g' w ∧ vs'.size = cs'.length ∧
      (∀ (j : Nat) (v : Value) (y : PV), vs'[j]? = some v → cs'[j]? = some y → L g' w st'.hp.length (.slot d) (some j) v y)
  | [], st, st', cs, cs', vs, g, R, B, hs, hL, h => by cases h; exact ⟨g, vs, rfl, R, B, StepR.refl _ _ _, hs, hL⟩
  | (i, x) :: parts, st, st', cs, cs', vs, g, R, B, hs, hL, h => by
    unfold buildL at h
    split at h
    · rename_i off size st1 y hpl ht
      split at h
      · rename_i hc
        obtain ⟨hsz, hle, hst⟩ := hc
        obtain ⟨R1, S1, T1, e1⟩ := take_sound ha R ht
        have B1 := take_bare ht B
        rw [← S1.base] at T1
        obtain ⟨g2, R2, X2, hcs, hL2, hkeep⟩ := Taken.toCells R1 T1 hst (.slot d) off (fun j _ => B1.free _) (fun _ i e => by cases e) (.inl fun d' e => by cases e; exact B.1)
        have hle' : off + (a.eval x).cells.size ≤ vs.size := by omega
        have S2 : StepR st1 st1 g w g2 w := StepR.ofX rfl rfl X2 id
        obtain ⟨g3, vs3, hf, R3, B3, S3, hs3, hL3⟩ := buildL_sound ha pl parts (st := st1) (vs := (a.eval x).cells.zipIdx.foldl (fun cs (x : Value × Nat) => cs.setIfInBounds (off + x.2) x.1) vs) R2 B1
          (by rw [fill_size, splice_length]; exact hs)
          (fun j v z hv hz => by
            rw [fill_get _ _ _ hle'] at hv
            rw [splice_get _ _ _ _ (by omega)] at hz
            by_cases hj : off ≤ j ∧ j < off + (cellsOf y).length
            · rw [if_pos (by rw [hcs]; exact hj)] at hv
              rw [if_pos hj] at hz
              have := hL2 (j - off) v z hv hz
              rwa [show off + (j - off) = j by omega] at this
            · rw [if_neg (by rw [hcs]; exact hj)] at hv
              rw [if_neg hj] at hz
              exact hkeep (fun d' e => by cases e; exact B.1) d j v z rfl (by omega) ((hL j v z hv hz).same_g e1)) h
        refine ⟨g3, vs3, ?_, R3, B3, (S1.trans S2).trans S3, hs3, hL3⟩
        simp only [List.map_cons, Instr.fill, hpl]
        rw [if_neg]
        · exact hf
        · simp only [ne_eq, Bool.or_eq_true, decide_eq_true_eq, not_or, Decidable.not_not]
          omega
      · cases h
    · cases h
end
end Go.PS
end

section
/-
  New variables.
-/
namespace Go.PS
section
variable {g g' g1 g2 : G} {w w' w1 w2 : World} {hn hn' : Nat} {tm : Array Value} {fr fr' : Fr} {hp hp' hp1 hp2 : Heap} {P : Program} {t : Nat}

theorem heap_new (w : World) (o : Obj) : (w.alloc o).heap[w.heap.size]? = some o := by
  simp only [World.alloc]; rw [Array.getElem?_push]; simp
theorem cell_new (w : World) (c : Array Value) (e : TypeId) (j : Nat) : (w.alloc (.cells c e)).cell? ⟨w.heap.size, j, none⟩ = c[j]? := by
  unfold World.cell?; rw [heap_new]; simp
theorem frozen_new (w : World) (c : Array Value) (e : TypeId) (j : Nat) : (w.alloc (.cells c e)).frozen? ⟨w.heap.size, j, none⟩ = false := by
  unfold World.frozen?; rw [heap_new]; simp
theorem size_alloc (w : World) (o : Obj) : (w.alloc o).heap.size = w.heap.size + 1 := by simp only [World.alloc]; exact Array.size_push _

/-- A lasting value, an owned row: where memory only grows they stay. -/
theorem L.grow (R : Rel g w tm fr hp) (h : Grow w w') {r : Root} {pre : Option Nat} {v : Value} {x : PV} (hL : L g w hp.length r pre v x) : L g w' hp.length r pre v x := by
  have e0 : Ext0 g w hp.length g w' hp.length := ⟨fun b o hi => ⟨hi, h.cell (R.lt_imm hi)⟩, fun _ _ => rfl, fun _ _ => rfl, Nat.le_refl _⟩
  refine hL.mono (D := fun _ _ => False) e0 rfl (fun b hb => ⟨rfl, fun _ => Iff.rfl, fun j _ => h.cell (R.lt_own hb), fun j => by rw [h.cell (R.lt_own hb)], fun j => h.frozen (R.lt_own hb)⟩) (fun _ _ _ _ _ _ _ _ => id)

/-- The ghost with a new variable's block. -/
def G.var (g : G) (b : Nat) (k : Key) (r : Root) : G :=
  { g with own := fun b' => if b' = b then some k else g.own b', loc := fun r' pre' => if r' = r ∧ pre' = none then (b, 0) else g.loc r' pre', cap := fun j => if r = .heap j then 0 else g.cap j }

theorem var_same {b : Nat} {k : Key} {r : Root} (hb : g.own b = none) (b' : Nat) (k' : Key) (hk : g.own b' = some k') : SameBlk g w (g.var b k r) w b' :=
  ⟨(by simp only [G.var]; rw [if_neg]; rintro rfl; rw [hb] at hk; cases hk), rfl, fun _ => Iff.rfl⟩
theorem var_chg {b : Nat} {k : Key} {r : Root} (hb : g.own b = none) (hr : ∀ i, r = .heap i → hn ≤ i) : Chg (fun r' pre' => r' = r ∧ pre' = none) (fun _ _ => False) g w hn (g.var b k r) w hn := by
  refine ⟨⟨fun _ _ h => ⟨h, rfl⟩, fun i hi => ?_, fun i hi => (by simp only [G.var]; rw [if_neg]; rintro rfl; have := hr i rfl; omega), Nat.le_refl _⟩, fun r' pre' h => ?_, fun b' r' pre' h _ => (var_same hb b' _ h).same _, fun b' t h _ => (var_same hb b' _ h).same _, fun b' i h _ => (var_same hb b' _ h).same _⟩
  · simp only [G.var]; rw [if_neg]; rintro ⟨rfl, _⟩; have := hr i rfl; omega
  · simp only [G.var]; rw [if_neg h]

theorem Rel.var (R : Rel g w tm fr hp) {b : Nat} {k : Key} {r : Root} (hb : g.own b = none) (hlt : b < w.heap.size) (hr : ∀ i, r = .heap i → hp.length ≤ i) (hs : ∀ d, r = .slot d → Bare fr d) : Rel (g.var b k r) w tm fr hp := by
  refine R.change (var_chg hb hr) (fun t ht => ⟨fun h => ?_, fun cs hcs j y hj hy => ⟨fun h => (by cases h.2), fun _ _ _ _ _ _ _ _ => id⟩, fun _ _ _ _ _ _ _ _ => id⟩) (fun t r' pre h hC => ?_) (fun t r' pre h u hu => ?_)
    (fun i cs hc => ⟨fun h => ?_, fun j y hj hy => ⟨fun h => (by cases h.2), fun _ _ _ _ _ _ _ _ => id⟩, fun _ _ _ _ _ _ _ => id⟩) (fun i ks vs hc => ⟨fun h => ?_, fun _ _ _ _ => id⟩) R.immCell (fun b' k' hk => ?_) (fun i s n q hc _ _ h => by obtain ⟨h1, _⟩ := h; have := hr i h1.symm; have := lt_of_some hc; omega) (fun i T e bs _ b' hb' => var_same hb b' _ hb')
  · obtain ⟨rfl, _⟩ := h; exact ht (hs t rfl).1
  · obtain ⟨rfl, rfl⟩ := hC
    cases r' with
    | slot d => exact (hs d rfl).2 t none h
    | heap i => have := R.ref_lt h; have := hr i rfl; omega
  · refine valAt_ref R h hu (fun hroot _ => ?_) (fun _ _ => rfl)
    simp only [G.var]
    rw [if_neg]
    rintro ⟨rfl, _⟩
    cases r' with
    | slot d => have := hroot d rfl; rw [(hs d rfl).1] at this; cases this
    | heap i => have := R.ref_lt h; have := hr i rfl; omega
  · obtain ⟨h1, _⟩ := h; have := hr i h1.symm; have := lt_of_some hc; omega
  · obtain ⟨h1, _⟩ := h; have := hr i h1.symm; have := lt_of_some hc; omega
  · simp only [G.var] at hk
    split at hk
    · rename_i e; subst e; exact hlt
    · exact R.ownLt _ _ hk

theorem X.var {base : Nat} {d : Bool} {b : Nat} {k : Key} {r : Root} (hb : g.own b = none) (hr : ∀ i, r = .heap i → hp.length ≤ i) (hbase : base ≤ hp.length) : X base d g w hp (g.var b k r) w hp := by
  refine ⟨(var_chg (w := w) (k := k) hb hr).e0, rfl, rfl, rfl, Nat.le_refl _, fun b' hb' => hb'.elim (var_same hb b' _) (var_same hb b' _), fun _ i hi => ⟨rfl, fun pre => ?_, fun b' hb' => ?_⟩⟩
  · simp only [G.var]; rw [if_neg]; rintro ⟨rfl, _⟩; have := hr i rfl; omega
  · rcases hb' with h | ⟨_, h⟩ <;> exact var_same hb b' _ h

theorem L.var {b : Nat} {k : Key} {r : Root} (hb : g.own b = none) (hr : ∀ i, r = .heap i → hn ≤ i) {r' : Root} {j : Nat} {v : Value} {x : PV} (h : L g w hn r' (some j) v x) : L (g.var b k r) w hn r' (some j) v x :=
  h.mono (D := fun _ _ => False) (var_chg (w := w) (k := k) hb hr).e0 ((var_chg (w := w) (k := k) hb hr).loc _ _ (fun e => by cases e.2)) (fun b' hb' => (var_same hb b' _ hb').same _) (fun _ _ _ _ _ _ _ _ => id)

/-- A new local variable. -/
theorem Rel.newBox {base : Nat} {dd : Bool} (R : Rel g w tm fr hp) {d : Nat} (hd : d < tm.size) (B : Bare fr d) {cells : Array Value} {cs : List PV} (hs : cells.size = cs.length) (hbase : base ≤ hp.length)
    (hL : ∀ (j : Nat) (v : Value) (y : PV), cells[j]? = some v → cs[j]? = some y → L g w hp.length (.slot d) (some j) v y) (e : TypeId) :
    ∃ g', Rel g' (w.alloc (.cells cells e)) (tm.setIfInBounds d (.pointer (some ⟨w.heap.size, 0, none⟩))) ((d, .box cs) :: fr) hp ∧ X base dd g w hp g' (w.alloc (.cells cells e)) hp := by
  have hg := Grow.alloc w (.cells cells e)
  have R1 := R.grow hg
  have hb : g.own w.heap.size = none := own_new R (Nat.le_refl _)
  have hr : ∀ i, Root.slot d = .heap i → hp.length ≤ i := fun i e => by cases e
  have R2 := R1.var (k := .box d) (r := .slot d) hb (by rw [size_alloc]; omega) hr (fun d' e => by cases e; exact B)
  have R3 : Rel (g.var w.heap.size (.box d) (.slot d)) (w.alloc (.cells cells e)) (tm.setIfInBounds d (.pointer (some ⟨w.heap.size, 0, none⟩))) fr hp := by
    refine (R2.set (d := d) (v := .pointer (some ⟨w.heap.size, 0, none⟩)) (x := .undef) hd (V.slot (.undef _) d) (fun t pre h => by cases h)).congr fun t => ?_
    by_cases h : d = t
    · subst h; rw [get_setFr_same, B.1]; rfl
    · rw [R.get_setFr _ h]
      rcases on_cases (.slot d) (get fr t) with h1 | ⟨_, r, pre, h1, h2⟩
      · exact h1.symm
      · simp [Kill.hits] at h2; subst h2; exact (B.2 t pre h1).elim
  refine ⟨_, R3.fillSlot B.1 (by simpa using hd) ?_ (fun t pre h => by cases h), ?_⟩
  · rw [getD_set, if_pos ⟨rfl, hd⟩]
    refine .box ⟨by simp [G.var], by simp [G.var], fun j => notImm_new R (Nat.le_refl _) j, fun j _ => frozen_new _ _ _ _, fun j y hy => ?_⟩
    have hlt : j < cells.size := by rw [hs]; exact lt_of_some hy
    have hv : cells[j]? = some cells[j] := Array.getElem?_eq_getElem hlt
    exact ⟨_, by rw [cell_new]; exact hv, ((hL j _ y hv hy).grow R hg).var hb hr⟩
  · have := (X.grow (base := base) R hg).trans (X.var (base := base) (d := dd) (k := .box d) hb hr hbase)
    simpa using this

theorem L.up {hn' : Nat} (hle : hn ≤ hn') {r : Root} {pre : Option Nat} {v : Value} {x : PV} (h : L g w hn r pre v x) : L g w hn' r pre v x :=
  h.mono (D := fun _ _ => False) ⟨fun _ _ h => ⟨h, rfl⟩, fun _ _ => rfl, fun _ _ => rfl, hle⟩ rfl (fun b _ => (SameBlk.refl g w b).same _) (fun _ _ _ _ _ _ _ _ => id)

/-- An object's node. -/
def NodeOK (g : G) (w : World) (hn i : Nat) (b : Nat) : Node → Prop
  | .cells cs => Obj1 g w hn (.heap i) (.obj i) b cs
  | .map ks vs => Obj1 g w hn (.heap i) (.obj i) b [] ∧ MapC g w hn b ks vs
  | .row s n _ => 0 < g.cap i ∧ RowC g w i s n
  | .bld T e bs => BldC g w i T e bs
theorem rowAlive_push {nd : Node} {i : Nat} (h : rowAlive (hp ++ [nd]) i = true) : rowAlive hp i = true := by
  unfold rowAlive at h ⊢
  rw [List.all_append, Bool.and_eq_true] at h
  exact h.1
/-- One object more. -/
theorem Rel.push (R : Rel g w tm fr hp) {nd : Node} {b : Nat} (hO : NodeOK g w (hp.length + 1) hp.length b nd) : Rel g w tm fr (hp ++ [nd]) := by
  have c : Chg (fun _ _ => False) (fun _ _ => False) g w hp.length g w (hp.length + 1) :=
    ⟨⟨fun _ _ h => ⟨h, rfl⟩, fun _ _ => rfl, fun _ _ => rfl, by omega⟩, fun _ _ _ => rfl, fun b _ _ _ _ => (SameBlk.refl g w b).same _, fun b _ _ _ => (SameBlk.refl g w b).same _, fun b _ _ _ => (SameBlk.refl g w b).same _⟩
  have hlen : (hp ++ [nd]).length = hp.length + 1 := by simp
  have hmono : ∀ i b' cs, Obj1 g w hp.length (.heap i) (.obj i) b' cs → Obj1 g w (hp.length + 1) (.heap i) (.obj i) b' cs := fun i b' cs hb' =>
    hb'.mono c id ((SameBlk.refl g w b').same _) (fun _ _ _ _ => ⟨id, fun _ _ _ _ _ _ _ _ => id⟩) (fun _ _ _ _ => id)
  have hcase : ∀ i nd', (hp ++ [nd])[i]? = some nd' → hp[i]? = some nd' ∨ (i = hp.length ∧ nd' = nd) := fun i nd' h => by
    rw [List.getElem?_append] at h
    split at h
    · exact .inl h
    · rename_i hi
      have : i - hp.length = 0 := by
        have := lt_of_some h; simp at this; exact this
      have hi' : i = hp.length := by omega
      subst hi'
      simp at h; exact .inr ⟨rfl, h.symm⟩
  refine ⟨fun t => ?_, fun i cs' h => ?_, fun i ks vs h => ?_, R.immCell, R.ownLt, R.live, R.size, fun i s n p h => ?_, fun i T e bs h => ?_⟩
  · rw [hlen]
    exact (R.slots t).mono c (fun _ => id) (fun _ _ _ _ _ _ => ⟨id, fun _ _ _ _ _ _ _ _ => id⟩) (fun _ _ _ _ _ _ _ _ => id) (fun _ _ _ => id) (fun _ _ _ _ h => h)
  · rw [hlen]
    rcases hcase i _ h with h | ⟨rfl, rfl⟩
    · obtain ⟨b', hb'⟩ := R.heap i cs' h
      exact ⟨b', hmono _ _ _ hb'⟩
    · exact ⟨b, hO⟩
  · rw [hlen]
    rcases hcase i _ h with h | ⟨rfl, rfl⟩
    · obtain ⟨b', hb', hM⟩ := R.maps i ks vs h
      exact ⟨b', hmono _ _ _ hb', hM.mono c.e0 (fun _ _ h => h)⟩
    · exact ⟨b, hO⟩
  · rcases hcase i _ h with h | ⟨rfl, rfl⟩
    · exact ⟨(R.rows.1 i s n p h).1, fun h0 ha => (R.rows.1 i s n p h).2 h0 (rowAlive_push ha)⟩
    · exact ⟨hO.1, fun _ _ => hO.2⟩
  · rcases hcase i _ h with h | ⟨rfl, rfl⟩
    · exact R.rows.2 i T e bs h
    · exact hO

/-- The ghost where object n is a builder's. -/
def G.recap (g : G) (n : Nat) : G := { g with cap := fun j => if j = n then 1 else g.cap j }
theorem recap_e0 (hn : Nat) : Ext0 g w hn (g.recap hn) w hn := ⟨fun _ _ h => ⟨h, rfl⟩, fun _ _ => rfl, fun i hi => by simp only [G.recap]; rw [if_neg (by omega)], Nat.le_refl _⟩
theorem recap_same {n : Nat} (b : Nat) : SameBlk g w (g.recap n) w b := ⟨rfl, rfl, fun _ => Iff.rfl⟩
theorem Rel.recap (R : Rel g w tm fr hp) : Rel (g.recap hp.length) w tm fr hp := by
  have c : Chg (fun _ _ => False) (fun _ _ => False) g w hp.length (g.recap hp.length) w hp.length :=
    ⟨recap_e0 _, fun _ _ _ => rfl, fun b _ _ _ _ => (recap_same b).same _, fun b _ _ _ => (recap_same b).same _, fun b _ _ _ => (recap_same b).same _⟩
  have cl : ∀ r cs, Clear (fun _ _ => False) (fun _ _ => False) g r cs := fun r cs j y _ _ => ⟨id, fun _ _ _ _ _ _ _ _ => id⟩
  exact R.change c (fun t _ => ⟨id, fun cs _ => cl _ cs, fun _ _ _ _ _ _ _ _ => id⟩) (fun _ _ _ _ => id) (fun t r pre _ u hu => by cases pre <;> cases r <;> exact hu)
    (fun i cs _ => ⟨id, cl _ cs, fun _ _ _ _ _ _ _ => id⟩) (fun i ks vs _ => ⟨id, fun _ _ _ _ h => h⟩) R.immCell R.ownLt (fun _ _ _ _ _ _ _ h => h) (fun _ _ _ _ _ b _ => recap_same b)
/-- A new builder. -/
theorem Rel.newBld {base : Nat} {dd : Bool} (R : Rel g w tm fr hp) (hbase : base ≤ hp.length) (T e : TypeId) :
    ∃ g', Rel g' (w.alloc (.cells #[.pointer none, .slice none 0 0] T)) tm fr (hp ++ [.bld T e []]) ∧ X base dd g w hp g' (w.alloc (.cells #[.pointer none, .slice none 0 0] T)) (hp ++ [.bld T e []]) ∧
      g'.loc (.heap hp.length) none = (w.heap.size, 0) := by
  have hg := Grow.alloc w (.cells #[.pointer none, .slice none 0 0] T)
  have R1 := R.grow hg
  have hb : g.own w.heap.size = none := own_new R (Nat.le_refl _)
  have hr : ∀ i, Root.heap hp.length = .heap i → hp.length ≤ i := fun i e => by cases e; exact Nat.le_refl _
  have R2 := (R1.var (k := .obj hp.length) (r := .heap hp.length) hb (by rw [size_alloc]; omega) hr (fun d' e => by cases e)).recap
  have hbl : BldC ((g.var w.heap.size (.obj hp.length) (.heap hp.length)).recap hp.length) (w.alloc (.cells #[.pointer none, .slice none 0 0] T)) hp.length T e [] :=
    ⟨w.heap.size, .pointer none, .slice none 0 0, by simp [G.var, G.recap], by simp [G.var, G.recap], by simp [G.recap], fun j => notImm_new R (Nat.le_refl _) j, heap_new w _, .inl rfl, World.ownsRowF_nil _ _ _ _, fun k hk => by cases hk⟩
  refine ⟨_, R2.push (b := w.heap.size) (nd := .bld T e []) hbl, ?_, by simp [G.var, G.recap]⟩
  have x := ((X.grow (base := base) R hg).trans (X.var (base := base) (d := dd) (k := .obj hp.length) (r := .heap hp.length) hb hr hbase)).trans
    (X.mk (base := base) (d := false) (recap_e0 hp.length) rfl rfl rfl (Nat.le_refl _) (fun b' _ => recap_same b') fun _ i _ => ⟨rfl, fun _ => rfl, fun b' _ => recap_same b'⟩)
  refine ⟨⟨x.e0.imm, x.e0.loc, x.e0.cap, by simp⟩, x.os, x.tape, x.out, x.size, x.far, fun hd i hi => ?_⟩
  obtain ⟨_, h2, h3⟩ := x.clean (by simpa using hd) i hi
  exact ⟨by rw [List.getElem?_append_left (by omega)], h2, h3⟩

/-- A new variable that is an object. -/
theorem Rel.newObj {base : Nat} {dd : Bool} (R : Rel g w tm fr hp) {cells : Array Value} {cs : List PV} (hs : cells.size = cs.length) (hbase : base ≤ hp.length)
    (hL : ∀ (j : Nat) (v : Value) (y : PV), cells[j]? = some v → cs[j]? = some y → L g w hp.length (.heap hp.length) (some j) v y) (e : TypeId) :
    ∃ g', Rel g' (w.alloc (.cells cells e)) tm fr (hp ++ [.cells cs]) ∧ X base dd g w hp g' (w.alloc (.cells cells e)) (hp ++ [.cells cs]) ∧ g'.loc (.heap hp.length) none = (w.heap.size, 0) ∧ g'.cap hp.length = 0 := by
  have hg := Grow.alloc w (.cells cells e)
  have R1 := R.grow hg
  have hb : g.own w.heap.size = none := own_new R (Nat.le_refl _)
  have hr : ∀ i, Root.heap hp.length = .heap i → hp.length ≤ i := fun i e => by cases e; exact Nat.le_refl _
  have R2 := R1.var (k := .obj hp.length) (r := .heap hp.length) hb (by rw [size_alloc]; omega) hr (fun d' e => by cases e)
  refine ⟨_, R2.push (b := w.heap.size) (nd := .cells cs) ⟨by simp [G.var], by simp [G.var], fun j => notImm_new R (Nat.le_refl _) j, fun j _ => frozen_new _ _ _ _, fun j y hy => ?_⟩, ?_, by simp [G.var], by simp [G.var]⟩
  · have hlt : j < cells.size := by rw [hs]; exact lt_of_some hy
    have hv : cells[j]? = some cells[j] := Array.getElem?_eq_getElem hlt
    exact ⟨_, by rw [cell_new]; exact hv, (((hL j _ y hv hy).grow R hg).var hb hr).up (by omega)⟩
  · have x := (X.grow (base := base) R hg).trans (X.var (base := base) (d := dd) (k := .obj hp.length) (r := .heap hp.length) hb hr hbase)
    refine ⟨⟨x.e0.imm, x.e0.loc, x.e0.cap, by simp⟩, x.os, x.tape, x.out, x.size, x.far, fun hd i hi => ?_⟩
    obtain ⟨_, h2, h3⟩ := x.clean (by simpa using hd) i hi
    exact ⟨by rw [List.getElem?_append_left (by omega)], h2, h3⟩

/-- A new map. -/
theorem Rel.newMap {base : Nat} {dd : Bool} (R : Rel g w tm fr hp) (hbase : base ≤ hp.length) :
    ∃ g', Rel g' (w.alloc (.map #[] 0)) tm fr (hp ++ [.map [] []]) ∧ X base dd g w hp g' (w.alloc (.map #[] 0)) (hp ++ [.map [] []]) ∧ g'.loc (.heap hp.length) none = (w.heap.size, 0) := by
  have hg := Grow.alloc w (.map #[] 0)
  have R1 := R.grow hg
  have hb : g.own w.heap.size = none := own_new R (Nat.le_refl _)
  have hr : ∀ i, Root.heap hp.length = .heap i → hp.length ≤ i := fun i e => by cases e; exact Nat.le_refl _
  have R2 := R1.var (k := .obj hp.length) (r := .heap hp.length) hb (by rw [size_alloc]; omega) hr (fun d' e => by cases e)
  have hw : (w.alloc (.map #[] 0)).heap[w.heap.size]? = some (.map #[] 0) := by simp only [World.alloc]; rw [Array.getElem?_push]; simp
  refine ⟨_, R2.push (b := w.heap.size) (nd := .map [] []) ⟨⟨by simp [G.var], by simp [G.var], fun j => notImm_new R (Nat.le_refl _) j, fun j hj => by simp at hj, fun j y hy => by simp at hy⟩, #[], 0, hw, rfl, rfl, fun j e he => by simp at he⟩, ?_, by simp [G.var]⟩
  have x := (X.grow (base := base) R hg).trans (X.var (base := base) (d := dd) (k := .obj hp.length) (r := .heap hp.length) hb hr hbase)
  refine ⟨⟨x.e0.imm, x.e0.loc, x.e0.cap, by simp⟩, x.os, x.tape, x.out, x.size, x.far, fun hd i hi => ?_⟩
  obtain ⟨_, h2, h3⟩ := x.clean (by simpa using hd) i hi
  exact ⟨by rw [List.getElem?_append_left (by omega)], h2, h3⟩
end
end Go.PS
end

section
/-
  Operations, as the evaluator steps.
-/
namespace Go.PS
section
variable {g g' g1 g2 : G} {w w' w1 w2 : World} {hn hn' : Nat} {tm : Array Value} {fr fr' : Fr} {hp hp' hp1 hp2 : Heap} {P : Program} {t : Nat}

theorem StepR.baseOk {st st' : St} (h : StepR st st' g w g' w') (hb : st.base ≤ st.hp.length) : st'.base ≤ st'.hp.length := by
  rw [h.base]; exact Nat.le_trans hb h.x.e0.hn

/-- What an operation brings about. -/
def Runs (P : Program) (a : Act) (o : Oper) (w : World) (K : Value → World → Prop) : Prop :=
  match (execOp a.eval o).run P w with
  | .ok (.value v) w' => K v w'
  | .ok .skip w' => K Go.undef w'
  | .ok (.enter f args) w' => Calls P f args w' fun e w'' => ∃ v, e = .returned v ∧ K v w''
  | _ => False

def StepOK (P : Program) (a : Act) (o : Oper) (st st' : St) (g : G) (w : World) : Prop :=
  Runs P a o w fun v w' => ∃ g', Rel g' w' (a.put o.dst v).tmps st'.fr st'.hp ∧ StepR st st' g w g' w'

theorem Runs.value {a : Act} {o : Oper} {K : Value → World → Prop} {v : Value} (h : (execOp a.eval o).run P w = .ok (.value v) w') (hK : K v w') : Runs P a o w K := by
  unfold Runs; rw [h]; exact hK
theorem Runs.skip {a : Act} {o : Oper} {K : Value → World → Prop} (h : (execOp a.eval o).run P w = .ok .skip w') (hK : K Go.undef w') : Runs P a o w K := by
  unfold Runs; rw [h]; exact hK
theorem Runs.enter {a : Act} {o : Oper} {K : Value → World → Prop} {f : FuncId} {args : Array Value} (h : (execOp a.eval o).run P w = .ok (.enter f args) w')
    (hK : Calls P f args w' fun e w'' => ∃ v, e = .returned v ∧ K v w'') : Runs P a o w K := by
  unfold Runs; rw [h]; exact hK

/-- A value that would stand anywhere is put into the slot. -/
theorem Rel.putFlat {a : Act} {st : St} (R : Rel g w a.tmps st.fr st.hp) {dst : Option Nat} (hd : ∀ d, dst = some d → d < a.tmps.size) {v : Value} {x : PV} (hx : ∀ t, Slot g w st.hp.length a.tmps t v x) (hl : Lv st.fr x) :
    Rel g w (a.put dst v).tmps (setSlot st dst x).fr (setSlot st dst x).hp := by
  cases dst with
  | none => exact R
  | some d => exact R.setFlat (hd d rfl) (hx d) fun t pre h _ => hl t pre h
theorem setSlot_rest (st : St) (dst : Option Nat) (x : PV) : (setSlot st dst x).hp = st.hp ∧ (setSlot st dst x).base = st.base ∧ (setSlot st dst x).dirty = st.dirty := by cases dst <;> exact ⟨rfl, rfl, rfl⟩
theorem StepR.setSlot {st st1 : St} (h : StepR st st1 g w g' w') (dst : Option Nat) (x : PV) : StepR st (setSlot st1 dst x) g w g' w' := by
  obtain ⟨h1, h2, h3⟩ := setSlot_rest st1 dst x
  exact ⟨h2.trans h.base, fun hd => by rw [h3]; exact h.mono hd, by rw [h1, h3]; exact h.x⟩

theorem pureOK (Tb : Tabs P) {st : St} {a : Act} (R : Rel g w a.tmps st.fr st.hp) (o : Oper) (hd : ∀ d, o.dst = some d → d < a.tmps.size) {z : PV} (h : stepA P st o = some z) (hm : ¬ makes P st o) :
    StepOK P a o st (setSlot st o.dst z) g w := by
  obtain ⟨v, h1, h2, h3⟩ := stepA_sound Tb rfl R o h hm
  exact Runs.value h1 ⟨g, R.putFlat hd h2 h3, (StepR.refl _ _ _).setSlot _ _⟩

theorem assignOK {st st' : St} {a : Act} (R : Rel g w a.tmps st.fr st.hp) {o : Oper} {d : Nat} (hdst : o.dst = some d) (hd : d < a.tmps.size) {x : Operand} (ho : o.op = .assign x) (h : assign P st o d x = some st') :
    StepOK P a o st st' g w := by
  obtain ⟨g', R', S⟩ := assign_sound rfl R hd h
  refine Runs.value (v := a.eval x) (by simp [execOp, ho]) ⟨g', ?_, S⟩
  rw [hdst]; exact R'

theorem zero_sound {T : TypeId} {z : List PV} (h : zeroT P T = some z) : ∃ v, (∀ w, (zeroValue T).run P w = .ok v w) ∧ v.cells.size = z.length ∧ ∀ (j : Nat) (u : Value) (y : PV), v.cells[j]? = some u → z[j]? = some y → V g w hn u y := by
  unfold zeroT at h
  split at h
  · rename_i i hi
    split at h
    · rename_i v hz
      cases h
      refine ⟨v, fun w => by simp [zeroValue, Go.typeInfo, hi, hz, go_sem], by simp, fun j u y hu hy => ?_⟩
      simp only [List.getElem?_map, Array.getElem?_toList, hu, Option.map_some, Option.some.injEq] at hy
      subst hy
      exact ofConst_sound u
    · cases h
  · cases h

theorem zero_bld {T : TypeId} (h : zeroBld P T = true) : ∃ v, (∀ w, (zeroValue T).run P w = .ok v w) ∧ v.cells = #[.pointer none, .slice none 0 0] := by
  unfold zeroBld at h
  split at h
  · rename_i i hi
    split at h
    · rename_i v hz
      split at h
      · rename_i hc
        exact ⟨v, fun w => by simp [zeroValue, Go.typeInfo, hi, hz, go_sem], Array.ext' (by rw [hc])⟩
      · cases h
    · cases h
  · cases h

theorem allocOK {st st' : St} {a : Act} (R : Rel g w a.tmps st.fr st.hp) (hb : st.base ≤ st.hp.length) {H : Hint} {own : FuncId → Option Nat} {callF : CallF} {o : Oper} (hd : ∀ d, o.dst = some d → d < a.tmps.size) {T : TypeId} (ho : o.op = .alloc T) (h : stepOp P H own callF st o = some st') :
    StepOK P a o st st' g w := by
  simp only [stepOp, ho] at h
  split at h
  · rename_i t z0 hdst hz
    have hd := hd t hdst
    obtain ⟨z, hz'⟩ : ∃ z, z = z0 := ⟨_, rfl⟩
    subst hz'
    obtain ⟨v, h1, h2, h3⟩ := zero_sound (g := g) (w := w) (hn := st.hp.length) hz
    have hrun : (execOp a.eval o).run P w = .ok (.value (.pointer (some ⟨w.heap.size, 0, none⟩))) (w.alloc (.cells v.cells T)) := by
      simp [execOp, ho, Instr.alloc, h1, newVar, newRow, go_sem]
    split at h
    · cases h
      obtain ⟨g', R', X'⟩ := (R.drop t).newBox (base := st.base) (dd := st.dirty) hd (bare_drop _ _) h2 hb (fun j v y hv hy => .of (h3 j v y hv hy)) T
      exact Runs.value hrun ⟨g', by rw [hdst]; exact R', (StepR.drop st t).trans (StepR.ofX (st := { st with fr := drop t st.fr }) rfl rfl X' id)⟩
    · split at h
      · cases h
        obtain ⟨g', R', X', hl, hc0⟩ := R.newObj (base := st.base) (dd := st.dirty) h2 hb (fun j v y hv hy => .of (h3 j v y hv hy)) T
        refine Runs.value hrun ⟨g', ?_, ?_⟩
        · rw [hdst]
          have hV : V g' (w.alloc (.cells v.cells T)) (st.hp ++ [Node.cells z]).length (.pointer (some ⟨w.heap.size, 0, none⟩)) (.ptr (.heap st.hp.length) none 0) := .ptr _ _ _ ⟨by simp, hc0⟩ hl
          exact R'.setFlat hd (hV.slot t) fun t' pre h => by cases h
        · exact StepR.ofX rfl rfl X' id
      · rename_i e _
        split at h
        rotate_left
        · cases h
        rename_i hzb
        cases h
        obtain ⟨v', h1', hcells⟩ := zero_bld hzb
        have hrun : (execOp a.eval o).run P w = .ok (.value (.pointer (some ⟨w.heap.size, 0, none⟩))) (w.alloc (.cells v'.cells T)) := by
          simp [execOp, ho, Instr.alloc, h1', newVar, newRow, go_sem]
        rw [hcells] at hrun
        obtain ⟨g', R', X', hl⟩ := R.newBld (base := st.base) (dd := st.dirty) hb T e
        refine Runs.value hrun ⟨g', ?_, ?_⟩
        · rw [hdst]
          have hV : V g' (w.alloc (.cells #[.pointer none, .slice none 0 0] T)) (st.hp ++ [Node.bld T e []]).length (.pointer (some ⟨w.heap.size, 0, none⟩)) (.bp st.hp.length) := .bp _ _ (by simp) hl
          exact R'.setFlat hd (hV.slot t) fun t' pre h => by cases h
        · exact StepR.ofX rfl rfl X' id
  · cases h

theorem makeMapOK {st st' : St} {a : Act} (R : Rel g w a.tmps st.fr st.hp) (hb : st.base ≤ st.hp.length) {H : Hint} {own : FuncId → Option Nat} {callF : CallF} {o : Oper} (hd : ∀ d, o.dst = some d → d < a.tmps.size) {T : TypeId} {r : Option Operand} (ho : o.op = .makeMap T r) (h : stepOp P H own callF st o = some st') :
    StepOK P a o st st' g w := by
  cases r with
  | some r => simp [stepOp, ho, stepA] at h
  | none =>
    simp only [stepOp, ho] at h
    split at h
    · rename_i t hdst
      have hd := hd t hdst
      cases h
      have hrun : (execOp a.eval o).run P w = .ok (.value (.map (some w.heap.size))) (w.alloc (.map #[] 0)) := by
        simp [execOp, ho, Instr.makeMap, newObj, Sem.run, Result.andThen]
      obtain ⟨g', R', X', hl⟩ := R.newMap (base := st.base) (dd := st.dirty) hb
      refine Runs.value hrun ⟨g', ?_, ?_⟩
      · rw [hdst]
        have hV : V g' (w.alloc (.map #[] 0)) (st.hp ++ [Node.map [] []]).length (.map (some w.heap.size)) (.mp st.hp.length) := .mp _ _ (by simp) hl
        exact R'.setFlat hd (hV.slot t) fun t' pre h => by cases h
      · exact StepR.ofX rfl rfl X' id
    · cases h
end
end Go.PS
end

section
/-
  Operations, as the evaluator steps: boxes and structs.
-/
namespace Go.PS
section
variable {g g' g1 g2 : G} {w w' w1 w2 : World} {hn hn' : Nat} {tm : Array Value} {fr fr' : Fr} {hp hp' hp1 hp2 : Heap} {P : Program} {t : Nat}

theorem retag_cells_length (T : TypeId) (y : PV) : (cellsOf (retag P T y)).length = (cellsOf y).length := by
  by_cases hx : ∃ tg n cs, y = .sl tg n cs
  · obtain ⟨tg, n, cs, rfl⟩ := hx
    obtain ⟨tg', e⟩ := retag_sl (P := P) T tg n cs
    rw [e]; rfl
  · rw [retag_id T fun tg n cs e => hx ⟨tg, n, cs, e⟩]

theorem retag_cells {r : Root} {off : Nat} {T : TypeId} {y : PV} {cells : Array Value} (h : ∀ (j : Nat) (v : Value) (z : PV), cells[j]? = some v → (cellsOf y)[j]? = some z → L g w hn r (some (off + j)) v z) :
    ∀ (j : Nat) (v : Value) (z : PV), cells[j]? = some v → (cellsOf (retag P T y))[j]? = some z → L g w hn r (some (off + j)) v z := by
  by_cases hx : ∃ tg n cs, y = .sl tg n cs
  · obtain ⟨tg, n, cs, rfl⟩ := hx
    obtain ⟨tg', e⟩ := retag_sl (P := P) T tg n cs
    intro j v z hv hz
    rw [e] at hz
    cases j with
    | zero =>
      simp [cellsOf] at hz
      subst hz
      have := retag_sound (P := P) T (h 0 v _ hv rfl)
      rw [e] at this
      exact this
    | succ j => simp [cellsOf] at hz
  · rw [retag_id T fun tg n cs e => hx ⟨tg, n, cs, e⟩]; exact h

theorem boxOK {st st' : St} {a : Act} (R : Rel g w a.tmps st.fr st.hp) (hb : st.base ≤ st.hp.length) {H : Hint} {o : Oper} (hd : ∀ d, o.dst = some d → d < a.tmps.size) {T : TypeId} {x : Operand} (ho : o.op = .box T x) (h : boxOp P H st o T x = some st') :
    StepOK P a o st st' g w := by
  unfold boxOp at h
  split at h
  · rename_i t hdst
    have hd := hd t hdst
    have hrun : (execOp a.eval o).run P w = .ok (.value (.pointer (some ⟨w.heap.size, 0, none⟩))) (w.alloc (.cells (a.eval x).cells T)) := by
      simp [execOp, ho, Instr.box, newVar, newRow, go_sem]
    split at h
    · split at h
      · rename_i st1 y ht
        split at h
        · rename_i hst
          cases h
          obtain ⟨R1, S1, T1, e1⟩ := take_sound rfl (R.drop t) ht
          have B1 := take_bare ht (bare_drop _ _)
          rw [← S1.base] at T1
          obtain ⟨g2, R2, X2, hcs, hL2, _⟩ := Taken.toCells R1 T1 hst (.slot t) 0 (fun j _ => B1.free _) (fun _ i e => by cases e) (.inl fun d' e => by cases e; exact (bare_drop st.fr t).1)
          have hb1 : st1.base ≤ st1.hp.length := by rw [S1.base, e1]; exact hb
          obtain ⟨g3, R3, X3⟩ := R2.newBox (base := st1.base) (dd := st1.dirty) hd B1 (cells := (a.eval x).cells) (cs := cellsOf (retag P T y)) (by rw [retag_cells_length]; exact hcs) hb1
            (by simpa using retag_cells (P := P) (T := T) (off := 0) hL2) T
          refine Runs.value hrun ⟨g3, by rw [hdst]; exact R3, ((StepR.drop st t).trans S1).trans (StepR.ofX (st := st1) rfl rfl ((X2.trans X3).weaken ?_) id)⟩
          intro hd; simp [hd]
        · cases h
      · cases h
    · split at h
      · rename_i st1 y ht
        split at h
        · rename_i hst
          cases h
          obtain ⟨R1, S1, T1, e1⟩ := take_sound rfl R ht
          rw [← S1.base] at T1
          have hb1 : st1.base ≤ st1.hp.length := by rw [S1.base, e1]; exact hb
          have hf : ∀ j, FreeP st1.fr st1.hp (.heap st1.hp.length) (some j) := fun j =>
            ⟨fun t h => by have := R1.ref_lt h; omega, fun t e => (by cases e), fun i e => ⟨j, rfl, fun cs hc => by cases e; simp at hc⟩⟩
          obtain ⟨g2, R2, X2, hcs, hL2, _⟩ := Taken.toCells R1 T1 hst (.heap st1.hp.length) 0 (fun j _ => hf _) (fun _ i e => by cases e; exact hb1) (.inl fun d' e => by cases e)
          obtain ⟨g3, R3, X3, hl, hc0⟩ := R2.newObj (base := st1.base) (dd := st1.dirty) (cells := (a.eval x).cells) (cs := cellsOf (retag P T y)) (by rw [retag_cells_length]; exact hcs) hb1
            (by simpa using retag_cells (P := P) (T := T) (off := 0) hL2) T
          refine Runs.value hrun ⟨g3, ?_, S1.trans (StepR.ofX rfl rfl ((X2.trans X3).weaken ?_) id)⟩
          · rw [hdst]
            have hV : V g3 (w.alloc (.cells (a.eval x).cells T)) (st1.hp ++ [Node.cells (cellsOf (retag P T y))]).length (.pointer (some ⟨w.heap.size, 0, none⟩)) (.ptr (.heap st1.hp.length) none 0) := .ptr _ _ _ ⟨by simp, hc0⟩ hl
            exact R3.setFlat hd (hV.slot t) fun t' pre h => by cases h
          · intro hd; simpa using hd
        · cases h
      · cases h
  · cases h

theorem run_mapM_list {α β : Type} {f : α → Sem β} {h : α → β} : ∀ (l : List α), (∀ x ∈ l, (f x).run P w = .ok (h x) w) → (l.mapM f).run P w = .ok (l.map h) w
  | [], _ => by simp
  | x :: l, hf => by
    rw [List.mapM_cons]
    simp [hf x (by simp), run_mapM_list l fun y hy => hf y (by simp [hy])]
theorem run_mapM_array {α β : Type} {f : α → Sem β} {h : α → β} (l : Array α) (hf : ∀ x ∈ l, (f x).run P w = .ok (h x) w) : (l.mapM f).run P w = .ok (l.map h) w := by
  rw [Array.mapM_eq_mapM_toList]
  have := run_mapM_list (P := P) (w := w) (f := f) (h := h) l.toList fun x hx => hf x (by simpa using hx)
  show ((l.toList.mapM f) >>= fun x => pure (List.toArray x) : Sem (Array β)).run P w = _
  rw [Sem.run_bind, this]
  simp only [Result.andThen_ok, Sem.run_pure, Result.ok.injEq, and_true]
  rw [← Array.toList_map]

theorem buildOK (Tb : Tabs P) {st st' : St} {a : Act} (R : Rel g w a.tmps st.fr st.hp) {o : Oper} (hd : ∀ d, o.dst = some d → d < a.tmps.size) {T : TypeId} {parts : Array (Nat × Operand)} (ho : o.op = .build T parts) (h : buildOp P st o T parts = some st') :
    StepOK P a o st st' g w := by
  unfold buildOp at h
  split at h
  · rename_i z pl d hz hpl hdst
    have hd := hd d hdst
    split at h
    · rename_i st1 cs hbl
      cases h
      obtain ⟨v, h1, h2, h3⟩ := zero_sound (g := g) (w := w) (hn := st.hp.length) hz
      obtain ⟨g2, vs2, hf, R2, B2, S2, hs2, hL2⟩ := buildL_sound rfl pl parts.toList (st := { st with fr := drop d st.fr }) (vs := v.cells) (R.drop d) (bare_drop _ _) h2 (fun j v y hv hy => .of (h3 j v y hv hy)) hbl
      have hrun : (execOp a.eval o).run P w = .ok (.value (.agg vs2)) w := by
        simp only [execOp, ho, Instr.build, Sem.run_bind, h1, Result.andThen_ok]
        unfold placeOf at hpl
        split at hpl
        · rename_i fs hu
          cases hpl
          simp only [run_underlying hu, Result.andThen_ok]
          have := run_mapM_array (P := P) (w := w) (f := fun (f : Field) => (do pure (f.offset, ← sizeOf f.type) : Sem (Nat × Nat))) (h := fun (f : Field) => (f.offset, sizeT P f.type)) fs (fun f hf => by
            obtain ⟨i, hi⟩ := Tb.struct _ _ _ hu hf
            simp [run_sizeT hi])
          simp only [Sem.run_bind, this, Result.andThen_ok]
          have e : (fun (i : Nat) => (fs.map fun (f : Field) => (f.offset, sizeT P f.type))[i]?) = fun i => (fs[i]?).map fun (f : Field) => (f.offset, sizeT P f.type) := by funext i; simp
          simp only [Array.toList_map] at hf ⊢
          rw [e, hf]
          rfl
        · rename_i n E hu
          cases hpl
          obtain ⟨ie, _, hie, _⟩ := Tb.array _ _ _ hu
          simp only [run_underlying hu, Result.andThen_ok, Sem.run_bind, run_sizeT hie]
          simp only [Array.toList_map] at hf ⊢
          rw [hf]
          rfl
        · cases hpl
      refine Runs.value hrun ⟨g2, ?_, (StepR.drop st d).trans (S2.trans (StepR.ofX rfl rfl (X.refl _ st1.dirty _ _ _) id))⟩
      rw [hdst]
      have R3 := (R2.set (d := d) (v := .agg vs2) (x := .undef) hd (V.slot (.undef _) d) (fun t pre h => by cases h)).congr (fr' := st1.fr) fun t => ?_
      · exact R3.fillSlot B2.1 (by simpa using hd) (by rw [getD_set, if_pos ⟨rfl, hd⟩]; exact .agg hs2 hL2) (fun t pre h => by cases h)
      · by_cases h : d = t
        · subst h; rw [get_setFr_same, B2.1]; rfl
        · rw [R2.get_setFr _ h]
          rcases on_cases (.slot d) (get st1.fr t) with h1 | ⟨_, r, pre, h1, h2⟩
          · exact h1.symm
          · simp [Kill.hits] at h2; subst h2; exact (B2.2 t pre h1).elim
    · cases h
  · cases h
end
end Go.PS
end

section
/-
  Cells written.
-/
namespace Go.PS
section
variable {g g' g1 g2 : G} {w w' w1 w2 : World} {hn hn' : Nat} {tm : Array Value} {fr fr' : Fr} {hp hp' hp1 hp2 : Heap} {P : Program} {t : Nat}

theorem setCells_rest (b : Nat) : ∀ (vs : List Value) (o : Nat) (w : World), (w.setCells b o vs).os = w.os ∧ (w.setCells b o vs).tape = w.tape ∧ (w.setCells b o vs).output = w.output ∧
    (w.setCells b o vs).heap.size = w.heap.size ∧ ∀ b', b' ≠ b → (w.setCells b o vs).heap[b']? = w.heap[b']?
  | [], _, _ => ⟨rfl, rfl, rfl, rfl, fun _ _ => rfl⟩
  | v :: vs, o, w => by
    obtain ⟨h1, h2, h3, h4, h5⟩ := setCells_rest b vs (o + 1) (w.setCell ⟨b, o, none⟩ v)
    refine ⟨h1, h2, h3, h4.trans (by simp [World.setCell]), fun b' hb => (h5 b' hb).trans ?_⟩
    simp only [World.setCell]
    rw [Array.getElem?_modify, if_neg (Ne.symm hb)]

theorem setCells_map (b : Nat) : ∀ (vs : List Value) (o : Nat) (w : World) {b' : Nat} {es : Array MapEntry} {c : Nat}, w.heap[b']? = some (.map es c) → (w.setCells b o vs).heap[b']? = some (.map es c)
  | [], _, _, _, _, _, h => h
  | v :: vs, o, w, b', es, c, h => by
    refine setCells_map b vs (o + 1) (w.setCell ⟨b, o, none⟩ v) ?_
    simp only [World.setCell]
    rw [Array.getElem?_modify]
    split
    · rw [h]; rfl
    · exact h

def Dr (b o n : Nat) (b' k : Nat) : Prop := b' = b ∧ o ≤ k ∧ k < o + n

theorem poke_other (b o : Nat) (vs : List Value) {b' : Nat} (h : b' ≠ b) : SameBlk g w g (w.setCells b o vs) b' := ⟨rfl, (setCells_rest b vs o w).2.2.2.2 b' h, fun _ => Iff.rfl⟩
theorem poke_cell (b o : Nat) (vs : List Value) {b' k : Nat} (h : ¬ Dr b o vs.length b' k) : (w.setCells b o vs).cell? ⟨b', k, none⟩ = w.cell? ⟨b', k, none⟩ := by
  refine World.cell?_setCells_out b vs o w _ fun h1 _ => ?_
  simp only [Dr] at h
  have : b' = b := h1
  show k < o ∨ o + vs.length ≤ k
  omega
theorem poke_in (b o : Nat) (vs : List Value) (ht : ∀ j, j < vs.length → (w.cell? ⟨b, o + j, none⟩).isSome = true) (j : Nat) (v : Value) (hv : vs[j]? = some v) : (w.setCells b o vs).cell? ⟨b, o + j, none⟩ = some v := by
  have hj : j < vs.length := (List.getElem?_eq_some_iff.1 hv).1
  rw [World.cell?_setCells_in b vs o w ht j hj, ← hv, List.getElem?_eq_getElem hj]
theorem poke_there (b o : Nat) (vs : List Value) (ht : ∀ j, j < vs.length → (w.cell? ⟨b, o + j, none⟩).isSome = true) (b' k : Nat) : ((w.setCells b o vs).cell? ⟨b', k, none⟩).isSome = (w.cell? ⟨b', k, none⟩).isSome := by
  by_cases h : Dr b o vs.length b' k
  · obtain ⟨rfl, h1, h2⟩ := h
    have hj : k - o < vs.length := by omega
    have e : k = o + (k - o) := by omega
    rw [e, poke_in b' o vs ht _ _ (List.getElem?_eq_getElem hj), ht _ hj]; rfl
  · rw [poke_cell b o vs h]
theorem poke_same (b o : Nat) (vs : List Value) (ht : ∀ j, j < vs.length → (w.cell? ⟨b, o + j, none⟩).isSome = true) (b' : Nat) : SameB (Dr b o vs.length) g w g (w.setCells b o vs) b' :=
  ⟨rfl, fun _ => Iff.rfl, fun k hk => poke_cell b o vs hk, fun _ => poke_there b o vs ht b' _, fun _ => World.frozen?_setCells b vs o w _⟩
theorem poke_e0 (b o : Nat) (vs : List Value) (hni : ∀ j, j < vs.length → ¬ g.imm b (o + j)) : Ext0 g w hn g (w.setCells b o vs) hn := by
  refine ⟨fun b' k h => ⟨h, poke_cell b o vs fun hd => ?_⟩, fun _ _ => rfl, fun _ _ => rfl, Nat.le_refl _⟩
  obtain ⟨rfl, h1, h2⟩ := hd
  refine hni (k - o) (by omega) ?_
  rwa [show o + (k - o) = k by omega]

/-- Cells are written that nobody knows. -/
theorem Rel.poke (R : Rel g w tm fr hp) {b o : Nat} {vs : List Value} (ht : ∀ j, j < vs.length → (w.cell? ⟨b, o + j, none⟩).isSome = true) (hni : ∀ j, j < vs.length → ¬ g.imm b (o + j))
    (h1 : ∀ t o' j y, g.own b = some (.box t) → g.loc (.slot t) none = (b, o') → (get fr t).kids[j]? = some y → y ≠ .undef → ¬ Dr b o vs.length b (o' + j))
    (h2 : ∀ i cs j y, g.own b = some (.obj i) → hp[i]? = some (.cells cs) → cs[j]? = some y → y ≠ .undef → ¬ Dr b o vs.length b j)
    (h3 : ∀ t o' j y, g.own b = some (.st (.slot t) none) → g.loc (.slot t) none = (b, o') → (get fr t).kids[j]? = some y → y ≠ .undef → ¬ Dr b o vs.length b (o' + j))
    (h4 : ∀ t q o' j x y cs, g.own b = some (.st (.slot t) (some q)) → g.loc (.slot t) (some q) = (b, o') → get fr t = .box cs ∨ get fr t = .agg cs → cs[q]? = some x → x.kids[j]? = some y → y ≠ .undef → ¬ Dr b o vs.length b (o' + j))
    (h5 : ∀ i q o' j x y cs, g.own b = some (.st (.heap i) (some q)) → g.loc (.heap i) (some q) = (b, o') → hp[i]? = some (.cells cs) → cs[q]? = some x → x.kids[j]? = some y → y ≠ .undef → ¬ Dr b o vs.length b (o' + j))
    (h6 : ∀ t r q, refOf (get fr t) = some (r, some q) → ¬ Dr b o vs.length (g.loc r none).1 ((g.loc r none).2 + q))
    (h7 : ∀ i T e bs, hp[i]? = some (.bld T e bs) → vs ≠ [] → g.own b ≠ some (.obj i)) : Rel g (w.setCells b o vs) tm fr hp := by
  have c : Chg (fun _ _ => False) (Dr b o vs.length) g w hp.length g (w.setCells b o vs) hp.length :=
    ⟨poke_e0 b o vs hni, fun _ _ _ => rfl, fun b' _ _ _ _ => poke_same b o vs ht b', fun b' _ _ _ => poke_same b o vs ht b', fun b' _ _ _ => poke_same b o vs ht b'⟩
  refine R.change c (fun t htn => ⟨id, fun cs hcs j y hj hy => ⟨id, fun b' o' hl how k z hz hzn hd => ?_⟩, fun b' o' hl how j y hj hy hd => ?_⟩) (fun _ _ _ _ => id) (fun t r pre h u hu => ?_)
    (fun i cs hc => ⟨id, fun j y hj hy => ⟨id, fun b' o' hl how k z hz hzn hd => ?_⟩, fun b' o' hl j y hj hy hd => ?_⟩) (fun i ks vs' hc => ⟨id, fun b' es k _ h => setCells_map b vs o w h⟩) (fun b' k hk => by rw [poke_there b o vs ht]; exact R.immCell b' k hk) (fun b' k hk => by rw [(setCells_rest b vs o w).2.2.2.1]; exact R.ownLt b' k hk) (fun _ _ _ _ _ _ _ h => h)
    (fun i T e bs hc b' hb' => by
      by_cases hv : vs = []
      · subst hv; exact SameBlk.refl _ _ _
      · exact poke_other b o vs fun e => by subst e; exact h7 i T _ bs hc hv hb')
  · have e := hd.1; subst e; exact h4 t j o' k y z cs how hl hcs hj hz hzn hd
  · have e := hd.1; subst e
    rcases how with how | how
    · exact h3 t o' j y how hl hj hy hd
    · exact h1 t o' j y how hl hj hy hd
  · cases pre with
    | none => cases r <;> exact hu
    | some q =>
      have hne := h6 t r q h
      cases r <;> simp only [valAt] at hu ⊢ <;> rw [poke_cell b o vs hne] <;> exact hu
  · have e := hd.1; subst e; exact h5 i j o' k y z cs how hl hc hj hz hzn hd
  · have e := hd.1; subst e
    obtain ⟨b1, hb1⟩ := R.heap i cs hc
    have := hb1.loc
    rw [hl] at this; cases this
    rw [Nat.zero_add] at hd
    exact h2 i cs j y hb1.own hc hj hy hd

theorem X.poke {base : Nat} {d : Bool} {b o : Nat} {vs : List Value} (hni : ∀ j, j < vs.length → ¬ g.imm b (o + j)) (hf : g.own b ≠ some .frg ∧ g.own b ≠ some .froz)
    (hc : d = false → ∀ i, i < base → g.own b ≠ some (.obj i) ∧ ∀ pre, g.own b ≠ some (.st (.heap i) pre)) : X base d g w hp g (w.setCells b o vs) hp := by
  obtain ⟨e1, e2, e3, e4, e5⟩ := setCells_rest b vs o w
  refine ⟨poke_e0 b o vs hni, e1, e2, e3, by omega, fun b' hb => poke_other b o vs fun e => ?_, fun hd i hi => ⟨rfl, fun _ => rfl, fun b' hb => poke_other b o vs fun e => ?_⟩⟩
  · subst e; rcases hb with h | h
    · exact hf.1 h
    · exact hf.2 h
  · subst e
    obtain ⟨h1, h2⟩ := hc hd i hi
    rcases hb with h | ⟨pre, h⟩
    · exact h1 h
    · exact h2 pre h

theorem L.poke {b o : Nat} {vs : List Value} (hni : ∀ j, j < vs.length → ¬ g.imm b (o + j)) {r : Root} {pre : Option Nat} {v : Value} {x : PV} (h : L g w hn r pre v x) (hne : g.own b ≠ some (.st r pre)) : L g (w.setCells b o vs) hn r pre v x :=
  h.mono (D := fun _ _ => False) (poke_e0 b o vs hni) rfl (fun b' hb => (poke_other b o vs fun e => by subst e; exact hne hb).same _) (fun _ _ _ _ _ _ _ _ => id)

/-- Where the taken stands free, it does so still when cells have lost what they held. -/
structure Less (fr fr' : Fr) (hp hp' : Heap) : Prop where
  slot : ∀ (t : Nat), get fr' t = get fr t ∨ get fr' t = .undef ∨ ∃ cs cs', get fr t = .box cs ∧ get fr' t = .box cs' ∧ ∀ (o : Nat) (y : PV), cs'[o]? = some y → y = .undef ∨ cs[o]? = some y
  heap : ∀ (i : Nat) (cs' : List PV), hp'[i]? = some (.cells cs') → ∀ (o : Nat) (y : PV), cs'[o]? = some y → y = .undef ∨ ∃ cs, hp[i]? = some (.cells cs) ∧ cs[o]? = some y
  len : hp'.length = hp.length

theorem Less.ref (h : Less fr fr' hp hp') {t : Nat} {x} (e : refOf (get fr' t) = some x) : refOf (get fr t) = some x := by
  rcases h.slot t with h1 | h1 | ⟨cs, cs', _, h1, _⟩
  · rwa [h1] at e
  · rw [h1] at e; cases e
  · rw [h1] at e; cases e
theorem FreeP.less (h : Less fr fr' hp hp') {p : Root} {pp : Option Nat} (f : FreeP fr hp p pp) : FreeP fr' hp' p pp := by
  refine ⟨fun t e => f.ref t (h.ref e), fun t e => ⟨fun hn => ?_, fun o ho cs hcs y hy => ?_⟩, fun i e => ?_⟩
  · have h0 := (f.slot t e).1 hn
    rcases h.slot t with h1 | h1 | ⟨cs, cs', h2, _⟩
    · rw [h1]; exact h0
    · exact h1
    · rw [h0] at h2; cases h2
  · rcases h.slot t with h1 | h1 | ⟨cs0, cs0', h2, h3, h4⟩
    · rw [h1] at hcs; exact (f.slot t e).2 o ho cs hcs y hy
    · rw [h1] at hcs; rcases hcs with h2 | h2 <;> cases h2
    · rw [h3] at hcs
      rcases hcs with h5 | h5
      · cases h5
        rcases h4 o y hy with h6 | h6
        · exact h6
        · exact (f.slot t e).2 o ho cs0 (.inl h2) y h6
      · cases h5
  · obtain ⟨o, ho, h1⟩ := f.heap i e
    refine ⟨o, ho, fun cs' hc y hy => ?_⟩
    rcases h.heap i cs' hc o y hy with h4 | ⟨cs, h2, h4⟩
    · exact h4
    · exact h1 cs h2 y h4
theorem Less.undef (h : Less fr fr' hp hp') {t : Nat} (e : get fr t = .undef) : get fr' t = .undef := by
  rcases h.slot t with h1 | h1 | ⟨cs, cs', h2, _⟩
  · rw [h1]; exact e
  · exact h1
  · rw [e] at h2; cases h2
theorem TakenV.less (h : Less fr fr' hp hp') {base : Nat} {d d' : Bool} (hd : d' = false → d = false) {fr0 : Fr} {v : Value} {y : PV} (hst : (cellsOf y).all storable = true) (T : TakenV g w hn tm fr hp base d fr0 v y) : TakenV g w hn tm fr' hp' base d' fr0 v y := by
  cases T with
  | flat _ _ hs hl hna hVs =>
    refine .flat _ _ hs (fun t pre e => ?_) hna hVs
    rw [cellsOf_one hna] at hst
    have hst : storable y = true := by simpa using hst
    exfalso
    cases y <;> simp [refOf] at e <;> first | cases hst | skip
    obtain ⟨rfl, rfl⟩ := e
    cases hst
  | last _ cs hV => exact .last _ cs hV
  | moved p pp _ tg n cs f hL m ho => exact .moved p pp _ tg n cs (f.less h) hL (fun e => m (hd e)) ho
  | agg t0 vs cs hg hr hs hL ho => exact .agg t0 vs cs (h.undef hg) (fun t' pre e => hr t' pre (h.ref e)) hs hL ho
end
end Go.PS
end

section
/-
  Variables written.
-/
namespace Go.PS
section
variable {g g' g1 g2 : G} {w w' w1 w2 : World} {hn hn' : Nat} {tm : Array Value} {fr fr' : Fr} {hp hp' hp1 hp2 : Heap} {P : Program} {t : Nat}

theorem root_put {st : St} {r : Root} {cs cs' : List PV} (hr : rootPV st r = .box cs) : rootPV (putRoot st r (.box cs')) r = .box cs' := by
  cases r with
  | slot t => simp [rootPV, putRoot, get_cons]
  | heap i =>
    simp [rootPV, putRoot, PV.kids, rootPV_lt hr]

theorem Less.put {st : St} {r : Root} {cs cs' : List PV} (k : Kill) (hr : rootPV st r = .box cs) (h : ∀ (o : Nat) (y : PV), cs'[o]? = some y → y = .undef ∨ cs[o]? = some y) :
    Less st.fr (putRoot { st with fr := killFr k st.fr } r (.box cs')).fr st.hp (putRoot { st with fr := killFr k st.fr } r (.box cs')).hp := by
  have hk : ∀ t, get (killFr k st.fr) t = get st.fr t ∨ get (killFr k st.fr) t = .undef := fun t => by
    rw [get_kill]
    rcases on_cases k (get st.fr t) with h1 | ⟨h1, _⟩
    · exact .inl h1
    · exact .inr h1
  refine ⟨fun t => ?_, fun i c hc => ?_, putRoot_length _ _ _⟩
  · cases r with
    | slot s =>
      simp only [putRoot, get_cons]
      split
      · rename_i e; subst e; exact .inr (.inr ⟨cs, cs', hr, rfl, h⟩)
      · rcases hk t with h1 | h1
        · exact .inl h1
        · exact .inr (.inl h1)
    | heap i =>
      simp only [putRoot]
      rcases hk t with h1 | h1
      · exact .inl h1
      · exact .inr (.inl h1)
  · cases r with
    | slot s => exact fun o y hy => .inr ⟨c, hc, hy⟩
    | heap j =>
      simp only [putRoot, PV.kids] at hc
      rw [List.getElem?_set] at hc
      split at hc
      · rename_i e; subst e
        split at hc
        · cases hc
          exact fun o y hy => (h o y hy).imp id fun hy' => ⟨_, rootPV_cells hr hy', hy'⟩
        · cases hc
      · exact fun o y hy => .inr ⟨c, hc, hy⟩

theorem putRoot_twice {st : St} {r : Root} {x y : PV} : (∀ t, get (putRoot (putRoot st r x) r y).fr t = get (putRoot st r y).fr t) ∧ (putRoot (putRoot st r x) r y).hp = (putRoot st r y).hp := by
  cases r with
  | slot t => exact ⟨fun t' => by simp only [putRoot, get_cons]; split <;> rfl, rfl⟩
  | heap i => exact ⟨fun _ => rfl, by simp [putRoot]⟩

theorem putRoot_dirty_eq {st : St} {r : Root} {x y : PV} : (putRoot st r x).dirty = (putRoot st r y).dirty ∧ (putRoot (putRoot st r x) r y).dirty = (putRoot st r y).dirty := by
  cases r with
  | slot t => exact ⟨rfl, rfl⟩
  | heap i => refine ⟨rfl, ?_⟩; show ((st.dirty || decide (i < st.base)) || decide (i < st.base)) = (st.dirty || decide (i < st.base)); rw [Bool.or_assoc, Bool.or_self]

/-- A variable's cells are written. -/
theorem storeBox {st : St} (R : Rel g w tm st.fr st.hp) {fr0 : Fr} {v : Value} {y : PV} (T : TakenV g w st.hp.length tm st.fr st.hp st.base st.dirty fr0 v y) (hst : (cellsOf y).all storable = true)
    {r : Root} {cs : List PV} (hr : rootPV st r = .box cs) (off : Nat) (hle : off + (cellsOf y).length ≤ cs.length) (k : Kill) (hk : ∀ j, j < (cellsOf y).length → k.hits r (some (off + j)) = true) (ty : TypeId) :
    let st' := putRoot { st with fr := killFr k st.fr } r (.box (splice cs off (cellsOf (retag P ty y))))
    ∃ b g' w', g.loc r none = (b, 0) ∧ v.cells.size = (cellsOf y).length ∧ w' = w.setCells b off v.cells.toList ∧ (∀ j, j < v.cells.size → (w.cell? ⟨b, off + j, none⟩).isSome = true ∧ w.frozen? ⟨b, off + j, none⟩ = false) ∧
      (∀ u ∈ v.cells, u.oneCell' = true) ∧ Rel g' w' tm st'.fr st'.hp ∧ StepR st st' g w g' w' := by
  intro st'
  let n := (cellsOf y).length
  let cs3 := splice cs off (List.replicate n .undef)
  let st2 : St := { st with fr := killFr k st.fr }
  let st3 := putRoot st2 r (.box cs3)
  have hr2 : rootPV st2 r = .box cs := rootPV_killFr hr
  have hlen3 : off + (List.replicate n PV.undef).length ≤ cs.length := by simpa [n] using hle
  have hcs3 : ∀ (o : Nat) (y : PV), cs3[o]? = some y → (off ≤ o ∧ o < off + n → y = .undef) ∧ (¬ (off ≤ o ∧ o < off + n) → cs[o]? = some y) := by
    intro o z hz
    simp only [cs3] at hz
    rw [splice_get _ _ _ _ hlen3] at hz
    simp only [List.length_replicate] at hz
    split at hz
    · rename_i hin
      refine ⟨fun _ => ?_, fun h => (h hin).elim⟩
      have := List.mem_of_getElem? hz
      exact (List.mem_replicate.1 this).2
    · rename_i hout; exact ⟨fun h => (hout h).elim, fun _ => hz⟩
  have hless : Less st.fr st3.fr st.hp st3.hp := Less.put k hr fun o z hz => by
    by_cases h : off ≤ o ∧ o < off + n
    · exact .inl ((hcs3 o z hz).1 h)
    · exact .inr ((hcs3 o z hz).2 h)
  have hlen : st3.hp.length = st.hp.length := putRoot_length _ _ _
  obtain ⟨d1, d2, d3⟩ := putRoot_dirty (st := st2) (r := r) (x := .box cs3)
  have R3 : Rel g w tm st3.fr st3.hp := Rel.putBox (st := st2) (R.kill k) hr2 fun key b hO => by
    refine ⟨hO.loc, hO.own, hO.imm, fun j hj => hO.room j (by simpa [cs3, splice_length] using hj), fun j z hz => ?_⟩
    have hlt : j < cs.length := by have := lt_of_some hz; simpa [cs3, splice_length] using this
    obtain ⟨u, h1, h2⟩ := hO.cells j _ (List.getElem?_eq_getElem hlt)
    by_cases h : off ≤ j ∧ j < off + n
    · rw [(hcs3 j z hz).1 h]; exact ⟨u, h1, L.undef _⟩
    · have := (hcs3 j z hz).2 h
      rw [List.getElem?_eq_getElem hlt] at this; cases this
      exact ⟨u, h1, h2⟩
  have hr3 : rootPV st3 r = .box cs3 := root_put hr2
  have hfree : ∀ j, j < n → FreeP st3.fr st3.hp r (some (off + j)) := fun j hj => by
    have hcell : ∀ z, cs3[off + j]? = some z → z = .undef := fun z hz => (hcs3 _ z hz).1 ⟨by omega, by omega⟩
    refine ⟨fun t e => ?_, fun t e => ⟨fun e => (by cases e), fun o e2 c hc z hz => ?_⟩, fun i e => ⟨_, rfl, fun c hc z hz => ?_⟩⟩
    · have hkk := hk j hj
      cases r with
      | slot s =>
        simp only [st3, putRoot, get_cons] at e
        split at e
        · cases e
        · rw [get_kill] at e; exact refOf_kill hkk e
      | heap i => simp only [st3, putRoot] at e; rw [get_kill] at e; exact refOf_kill hkk e
    · cases e2
      subst e
      simp only [rootPV] at hr3
      rw [hr3] at hc
      rcases hc with hc | hc
      · cases hc; exact hcell z hz
      · cases hc
    · subst e
      simp only [rootPV, hc] at hr3
      cases hr3
      exact hcell z hz
  have T3 : TakenV g w st3.hp.length tm st3.fr st3.hp st3.base st3.dirty fr0 v y := by
    have := T.less hless (d' := st3.dirty) (fun hd => by cases h : st.dirty with | false => rfl | true => rw [d2 h] at hd; cases hd) hst
    rw [hlen, show st3.base = st.base from d1]; exact this
  obtain ⟨g4, R4, X4, hsz, hL4, _⟩ := Taken.toCells R3 T3 hst r off hfree (fun hd => by rw [show st3.base = st.base from d1]; exact d3 hd)
    (.inr fun d e => by subst e; simp only [rootPV] at hr3; rw [hr3]; simp)
  obtain ⟨b, hO3, hs3⟩ := R3.obj hr3
  obtain ⟨b4, hO4, hs4⟩ := R4.obj hr3
  have hbb : b4 = b := by
    cases r with
    | slot t => have h1 := hs3 t rfl; rw [hs4 t rfl] at h1; cases h1; rfl
    | heap i =>
      have hi : i < st3.hp.length := rootPV_lt hr3
      have h1 := X4.e0.loc i hi
      rw [hO4.loc, hO3.loc] at h1; cases h1; rfl
  subst hbb
  have hvl : v.cells.toList.length = n := by simpa using hsz
  have hcs3l : cs3.length = cs.length := splice_length _ _ _
  have hthere : ∀ j, j < v.cells.toList.length → (w.cell? ⟨b4, off + j, none⟩).isSome = true := fun j hj => by
    obtain ⟨u, h1, _⟩ := hO4.cells (off + j) _ (List.getElem?_eq_getElem (by omega))
    rw [h1]; rfl
  have hni : ∀ j, j < v.cells.toList.length → ¬ g4.imm b4 (off + j) := fun j _ => hO4.imm _
  have hkeyst : ∀ r' pre, g4.own b4 ≠ some (.st r' pre) := fun r' pre e => by
    rw [hO4.own] at e; cases r <;> cases e
  have hrange : ∀ j z, cs3[j]? = some z → z ≠ .undef → ¬ Dr b4 off v.cells.toList.length b4 j := fun j z hz hzn hd => by
    obtain ⟨_, h1, h2⟩ := hd
    exact hzn ((hcs3 j z hz).1 ⟨h1, by omega⟩)
  have R5 : Rel g4 (w.setCells b4 off v.cells.toList) tm st3.fr st3.hp := by
    refine R4.poke hthere hni (fun t o' j z ho hl hz hzn => ?_) (fun i c j z ho hc hz hzn => ?_) (fun t o' j z ho => (hkeyst _ _ ho).elim) (fun t q o' j x z c ho => (hkeyst _ _ ho).elim)
      (fun i q o' j x z c ho => (hkeyst _ _ ho).elim) (fun t r' q he hd => ?_) (fun i T e bs hc hv ho => ?_)
    · rw [hO4.own] at ho
      have e : r = .slot t := keyOf_inj (by simpa [keyOf] using ho)
      subst e
      rw [hO4.loc] at hl; cases hl
      simp only [rootPV] at hr3
      rw [hr3] at hz
      rw [Nat.zero_add]
      exact hrange j z hz hzn
    · rw [hO4.own] at ho
      have e : r = .heap i := keyOf_inj (by simpa [keyOf] using ho)
      subst e
      simp only [rootPV, hc] at hr3
      cases hr3
      exact hrange j z hz hzn
    · obtain ⟨c', hc'⟩ := R4.refObj he
      obtain ⟨b', hO', _⟩ := R4.obj hc'
      rw [hO'.loc] at hd
      obtain ⟨h1, h2, h3⟩ := hd
      have h1 : b' = b4 := h1
      subst h1
      have e := hO'.own
      rw [hO4.own] at e
      have e : r = r' := keyOf_inj (by simpa using e)
      subst e
      have := (hfree (q - off) (by simp at h2 h3; omega)).ref t
      simp at h2
      rw [show off + (q - off) = q by omega] at this
      exact this he
    · rw [hO4.own] at ho
      have e : r = .heap i := keyOf_inj (by simpa [keyOf] using ho)
      subst e
      simp only [rootPV, hc] at hr3
      cases hr3
  have R6 := Rel.putBox (st := st3) R5 hr3 (cs' := splice cs off (cellsOf (retag P ty y))) fun key b' hO => by
    have hb' : b' = b4 := by have := hO.loc; rw [hO4.loc] at this; cases this; rfl
    subst hb'
    have hle' : off + (cellsOf (retag P ty y)).length ≤ cs.length := by rw [retag_cells_length]; exact hle
    refine ⟨hO.loc, hO.own, hO.imm, fun j hj => hO.room j (by rw [splice_length] at hj; omega), fun j z hz => ?_⟩
    rw [splice_get _ _ _ _ hle'] at hz
    split at hz
    · rename_i hin
      rw [retag_cells_length] at hin
      have hlt : j - off < v.cells.size := by rw [hsz]; omega
      have hv : v.cells[j - off]? = some v.cells[j - off] := Array.getElem?_eq_getElem hlt
      refine ⟨v.cells[j - off], ?_, ?_⟩
      · have := poke_in (w := w) b' off v.cells.toList hthere (j - off) v.cells[j - off] (by rw [Array.getElem?_toList]; exact hv)
        rwa [show off + (j - off) = j by omega] at this
      · have := (retag_cells (P := P) (T := ty) hL4 (j - off) _ z hv hz).poke hni (hkeyst _ _)
        rwa [show off + (j - off) = j by omega] at this
    · rename_i hout
      rw [retag_cells_length] at hout
      refine hO.cells j z ?_
      simp only [cs3]
      rw [splice_get _ _ _ _ hlen3, if_neg (by simpa [n] using hout)]
      exact hz
  obtain ⟨e1, e2⟩ := putRoot_twice (st := st2) (r := r) (x := .box cs3) (y := .box (splice cs off (cellsOf (retag P ty y))))
  obtain ⟨f1, f2⟩ := putRoot_dirty_eq (st := st2) (r := r) (x := .box cs3) (y := .box (splice cs off (cellsOf (retag P ty y))))
  refine ⟨b4, g4, _, hO3.loc, hsz, rfl, fun j hj => ⟨hthere j (by simpa using hj), hO4.room _ (by omega)⟩, fun u hu => ?_, ?_, ?_⟩
  · obtain ⟨j, hj, rfl⟩ := Array.mem_iff_getElem.1 hu
    have hj' : j < (cellsOf y).length := by omega
    have hL := hL4 j _ _ (Array.getElem?_eq_getElem hj) (List.getElem?_eq_getElem hj')
    have hsk : storable (cellsOf y)[j] = true := List.all_eq_true.1 hst _ (List.getElem_mem hj')
    generalize v.cells[j] = u at hL
    generalize (cellsOf y)[j] = z at hL hsk
    cases hL with
    | of h => cases h <;> first | rfl | cases hsk | skip
              rename_i h; cases ‹Value› <;> first | rfl | (cases h; done) | (cases hsk; done)
    | _ => rfl
  · have := R6.congr (fr' := st'.fr) fun t => (e1 t).symm
    rw [e2] at this
    exact this
  · refine ⟨(putRoot_dirty (st := st2) (r := r)).1, fun hd => by rw [show st'.dirty = st3.dirty from f1.symm]; exact d2 hd, ?_⟩
    have x1 : X st.base st3.dirty g w st.hp g w st3.hp := putRoot_X (st := st2)
    have x2 : X st.base st3.dirty g w st3.hp g4 w st3.hp := by have := X4; rwa [show st3.base = st.base from d1] at this
    have x3 : X st.base st3.dirty g4 w st3.hp g4 (w.setCells b4 off v.cells.toList) st3.hp := X.poke hni
      ⟨by rw [hO4.own]; cases r <;> simp [keyOf], by rw [hO4.own]; cases r <;> simp [keyOf]⟩ fun hd i hi => ⟨fun e => ?_, fun pre => hkeyst _ _⟩
    · have x4 : X st.base (putRoot st3 r (.box (splice cs off (cellsOf (retag P ty y))))).dirty g4 (w.setCells b4 off v.cells.toList) st3.hp g4 (w.setCells b4 off v.cells.toList) (putRoot st3 r (.box (splice cs off (cellsOf (retag P ty y))))).hp := by
        have := putRoot_X (g := g4) (w := w.setCells b4 off v.cells.toList) (st := st3) (r := r) (x := .box (splice cs off (cellsOf (retag P ty y))))
        rwa [show st3.base = st.base from d1] at this
      have := ((x1.trans x2).trans x3).trans x4
      rw [e2] at this
      refine this.weaken fun hd => ?_
      have h1 : st3.dirty = false := by rw [show st3.dirty = st'.dirty from f1]; exact hd
      rw [f2, show (putRoot st2 r (.box (splice cs off (cellsOf (retag P ty y))))).dirty = st'.dirty from rfl, hd, h1]; rfl
    · rw [hO4.own] at e
      have e : r = .heap i := keyOf_inj (by simpa [keyOf] using e)
      have := d3 hd i e
      have : st.base ≤ i := this
      omega
end
end Go.PS
end

section
/-
  Rows written.
-/
namespace Go.PS
section
variable {g g' g1 g2 : G} {w w' w1 w2 : World} {hn hn' : Nat} {tm : Array Value} {fr fr' : Fr} {hp hp' hp1 hp2 : Heap} {P : Program} {t : Nat}

theorem nav_put {st : St} {r : Root} {pre : Option Nat} {s s' : Nat} {n n' : Nat} {cs cs' : List PV} (h : nav st r pre = some (.sl (.mu s) n cs)) : nav (put st r pre (.sl (.mu s') n' cs')) r pre = some (.sl (.mu s') n' cs') := by
  cases pre with
  | none =>
    obtain ⟨t, rfl, hg⟩ := nav_slot h rfl
    simp [nav, put, putRoot, rootPV, get_cons]
  | some o =>
    obtain ⟨cs0, hr, ho⟩ := nav_root h
    have e : put st r (some o) (.sl (.mu s') n' cs') = putRoot st r (.box (cs0.set o (.sl (.mu s') n' cs'))) := by simp only [put, hr, PV.withKids, PV.kids]
    rw [e]
    have := root_put (cs' := cs0.set o (.sl (.mu s') n' cs')) hr
    unfold nav
    rw [this]
    simp [lt_of_some ho]

theorem put_twice {st : St} {r : Root} {pre : Option Nat} {s s' s2 n n' n2 : Nat} {cs cs' cs2 : List PV} (h : nav st r pre = some (.sl (.mu s) n cs)) :
    (∀ t, get (put (put st r pre (.sl (.mu s') n' cs')) r pre (.sl (.mu s2) n2 cs2)).fr t = get (put st r pre (.sl (.mu s2) n2 cs2)).fr t) ∧
    (put (put st r pre (.sl (.mu s') n' cs')) r pre (.sl (.mu s2) n2 cs2)).hp = (put st r pre (.sl (.mu s2) n2 cs2)).hp ∧
    (put st r pre (.sl (.mu s') n' cs')).dirty = (put st r pre (.sl (.mu s2) n2 cs2)).dirty ∧
    (put (put st r pre (.sl (.mu s') n' cs')) r pre (.sl (.mu s2) n2 cs2)).dirty = (put st r pre (.sl (.mu s2) n2 cs2)).dirty := by
  cases pre with
  | none =>
    simp only [put]
    obtain ⟨h1, h2⟩ := putRoot_twice (st := st) (r := r) (x := .sl (.mu s') n' cs') (y := .sl (.mu s2) n2 cs2)
    obtain ⟨h3, h4⟩ := putRoot_dirty_eq (st := st) (r := r) (x := .sl (.mu s') n' cs') (y := .sl (.mu s2) n2 cs2)
    exact ⟨h1, h2, h3, h4⟩
  | some o =>
    obtain ⟨cs0, hr, ho⟩ := nav_root h
    have e : ∀ x, put st r (some o) x = putRoot st r (.box (cs0.set o x)) := fun x => by simp only [put, hr, PV.withKids, PV.kids]
    have e2 : ∀ x y, put (put st r (some o) x) r (some o) y = putRoot (putRoot st r (.box (cs0.set o x))) r (.box (cs0.set o y)) := fun x y => by
      rw [e x]
      have := root_put (cs' := cs0.set o x) hr
      simp only [put, this, PV.withKids, PV.kids, List.set_set]
    rw [e2, e, e]
    obtain ⟨h1, h2⟩ := putRoot_twice (st := st) (r := r) (x := .box (cs0.set o (.sl (.mu s') n' cs'))) (y := .box (cs0.set o (.sl (.mu s2) n2 cs2)))
    obtain ⟨h3, h4⟩ := putRoot_dirty_eq (st := st) (r := r) (x := .box (cs0.set o (.sl (.mu s') n' cs'))) (y := .box (cs0.set o (.sl (.mu s2) n2 cs2)))
    exact ⟨h1, h2, h3, h4⟩

/-- A row's cells are written. -/
theorem storeRow {st : St} (R : Rel g w tm st.fr st.hp) {r : Root} {pre : Option Nat} {s n : Nat} {cs : List PV} (hnav : nav st r pre = some (.sl (.mu s) n cs)) {vs : List Value} {ys : List PV} (hlen : vs.length = ys.length)
    (hV : ∀ (j : Nat) (v : Value) (y : PV), vs[j]? = some v → ys[j]? = some y → V g w st.hp.length v y) (off : Nat) (hle : off + ys.length ≤ cs.length) (h0 : 0 < ys.length) :
    let st' := put st r pre (.sl (.mu s) n (splice cs off ys))
    ∃ b o, g.loc r pre = (b, o) ∧ (∀ j, j < vs.length → (w.cell? ⟨b, o + off + j, none⟩).isSome = true ∧ w.frozen? ⟨b, o + off + j, none⟩ = false) ∧
      Rel g (w.setCells b (o + off) vs) tm st'.fr st'.hp ∧ StepR st st' g w g (w.setCells b (o + off) vs) := by
  intro st'
  have hns : navS st r pre = some (.mu s, n, cs) := by unfold navS; rw [hnav]
  obtain ⟨_, u0, hu0, hL0⟩ := navS_at R hns
  have key : ∃ b o cap, g.own b = some (.st r pre) ∧ g.loc r pre = (b, o) ∧ n ≤ cap ∧ cs.length = n * s ∧
      (∀ j, j < cap * s → (w.cell? ⟨b, o + j, none⟩).isSome = true ∧ w.frozen? ⟨b, o + j, none⟩ = false) ∧ (∀ j, ¬ g.imm b j) := by
    cases hL0 with
    | of h =>
      cases h with
      | sl0 a tg => exfalso; have h1 : off + ys.length ≤ ([] : List PV).length := hle; simp only [List.length_nil] at h1; omega
      | sl tg b o n cap cs f htg => rcases htg with h | ⟨h, _⟩ <;> cases h
    | mu how hl hle hlen room hi hc => exact ⟨_, _, _, how, hl, hle, hlen, room, hi⟩
  obtain ⟨b, o, cap, how, hloc, hcap, hcl, hroom, himm⟩ := key
  let cs3 := splice cs off (List.replicate ys.length PV.undef)
  let st3 := put st r pre (.sl (.mu s) n cs3)
  have hlen3 : off + (List.replicate ys.length PV.undef).length ≤ cs.length := by simpa using hle
  have hcs3 : ∀ (j : Nat) (y : PV), cs3[j]? = some y → (off ≤ j ∧ j < off + ys.length → y = .undef) ∧ (¬ (off ≤ j ∧ j < off + ys.length) → cs[j]? = some y) := by
    intro j z hz
    simp only [cs3] at hz
    rw [splice_get _ _ _ _ hlen3] at hz
    simp only [List.length_replicate] at hz
    split at hz
    · rename_i hin
      exact ⟨fun _ => (List.mem_replicate.1 (List.mem_of_getElem? hz)).2, fun h => (h hin).elim⟩
    · rename_i hout; exact ⟨fun h => (hout h).elim, fun _ => hz⟩
  have hcs3l : cs3.length = cs.length := splice_length _ _ _
  have R3 : Rel g w tm st3.fr st3.hp := R.putNode hnav fun u hL => by
    cases hL with
    | of h =>
      cases h with
      | sl0 a tg => exfalso; have h1 : off + ys.length ≤ ([] : List PV).length := hle; simp only [List.length_nil] at h1; omega
      | sl tg b o n cap cs f htg => rcases htg with h | ⟨h, _⟩ <;> cases h
    | mu how hl hle hlen room hi hc =>
      refine .mu how hl hle (by rw [hcs3l]; exact hlen) room hi fun j z hz => ?_
      have hlt : j < cs.length := by have := lt_of_some hz; omega
      obtain ⟨v, h1, h2⟩ := hc j _ (List.getElem?_eq_getElem hlt)
      by_cases h : off ≤ j ∧ j < off + ys.length
      · rw [(hcs3 j z hz).1 h]; exact ⟨v, h1, .undef _⟩
      · have := (hcs3 j z hz).2 h
        rw [List.getElem?_eq_getElem hlt] at this; cases this
        exact ⟨v, h1, h2⟩
  have hnav3 : nav st3 r pre = some (.sl (.mu s) n cs3) := nav_put hnav
  have hcslt : cs.length ≤ cap * s := by rw [hcl]; exact Nat.mul_le_mul_right _ hcap
  have hthere : ∀ j, j < vs.length → (w.cell? ⟨b, o + off + j, none⟩).isSome = true ∧ w.frozen? ⟨b, o + off + j, none⟩ = false := fun j hj => by
    have := hroom (off + j) (by omega)
    rwa [← Nat.add_assoc] at this
  have hni : ∀ j, j < vs.length → ¬ g.imm b (o + off + j) := fun j _ => himm _
  have hrange : ∀ o' j z, g.loc r pre = (b, o') → cs3[j]? = some z → z ≠ .undef → ¬ Dr b (o + off) vs.length b (o' + j) := fun o' j z hl hz hzn hd => by
    rw [hloc] at hl; cases hl
    obtain ⟨_, h1, h2⟩ := hd
    exact hzn ((hcs3 j z hz).1 ⟨by omega, by omega⟩)
  have R5 : Rel g (w.setCells b (o + off) vs) tm st3.fr st3.hp := by
    refine R3.poke (fun j hj => (hthere j hj).1) hni (fun t o' j z ho => ?_) (fun i c j z ho => ?_) (fun t o' j z ho hl hz hzn => ?_) (fun t q o' j x z c ho hl hc hx hz hzn => ?_) (fun i q o' j x z c ho hl hc hx hz hzn => ?_) (fun t r' q he hd => ?_) (fun i T e bs _ _ ho => by rw [how] at ho; cases ho)
    · rw [how] at ho; cases ho
    · rw [how] at ho; cases ho
    · rw [how] at ho; cases ho
      obtain ⟨t', e, hg⟩ := nav_slot hnav3 rfl
      cases e
      rw [hg] at hz
      exact hrange o' j z hl hz hzn
    · rw [how] at ho; cases ho
      obtain ⟨c0, hr, hc0⟩ := nav_root hnav3
      simp only [rootPV] at hr
      rw [hr] at hc
      rcases hc with hc | hc
      · cases hc
        rw [hc0] at hx; cases hx
        exact hrange o' j z hl hz hzn
      · cases hc
    · rw [how] at ho; cases ho
      obtain ⟨c0, hr, hc0⟩ := nav_root hnav3
      simp only [rootPV, hc] at hr
      cases hr
      rw [hc0] at hx; cases hx
      exact hrange o' j z hl hz hzn
    · obtain ⟨c', hc'⟩ := R3.refObj he
      obtain ⟨b', hO', _⟩ := R3.obj hc'
      rw [hO'.loc] at hd
      have h1 : b' = b := hd.1
      subst h1
      have e := hO'.own
      rw [how] at e
      cases r' <;> cases e
  have R6 := Rel.putNode (st := st3) R5 hnav3 (tg' := .mu s) (n' := n) (cs' := splice cs off ys) fun u hL => by
    generalize hz3 : cs3 = c3 at hL
    cases hL with
    | of h =>
      cases h with
      | sl0 a tg => exfalso; have h1 := hcs3l; rw [hz3] at h1; simp only [List.length_nil] at h1; omega
      | sl tg b o n cap cs f htg => rcases htg with h | ⟨h, _⟩ <;> cases h
    | mu how' hl hle' hlen' room hi hc =>
      rw [hloc] at hl; cases hl
      refine .mu how' hloc hle' (by rw [splice_length]; exact hcl) room hi fun j z hz => ?_
      rw [splice_get _ _ _ _ hle] at hz
      split at hz
      · rename_i hin
        have hlt : j - off < vs.length := by omega
        have hv : vs[j - off]? = some vs[j - off] := List.getElem?_eq_getElem hlt
        refine ⟨vs[j - off], ?_, (hV (j - off) _ z hv hz).mono ?_⟩
        · have := poke_in (w := w) b (o + off) vs (fun j hj => (hthere j hj).1) (j - off) _ hv
          rwa [show o + off + (j - off) = o + j by omega] at this
        · have := poke_e0 (w := w) (hn := st.hp.length) b (o + off) vs hni
          rw [show st3.hp.length = st.hp.length from put_dirty.2.2.2]
          exact this
      · rename_i hout
        refine hc j z ?_
        rw [← hz3]
        simp only [cs3]
        rw [splice_get _ _ _ _ hlen3, if_neg (by simpa using hout)]
        exact hz
  obtain ⟨e1, e2, e3, e4⟩ := put_twice (st := st) (r := r) (pre := pre) (s' := s) (n' := n) (cs' := cs3) (s2 := s) (n2 := n) (cs2 := splice cs off ys) hnav
  obtain ⟨d1, d2, d3, d4⟩ := put_dirty (st := st) (r := r) (pre := pre) (x := .sl (.mu s) n (splice cs off ys))
  refine ⟨b, o, hloc, hthere, ?_, ⟨d1, d2, ?_⟩⟩
  · have := R6.congr (fr' := st'.fr) fun t => (e1 t).symm
    rw [e2] at this
    exact this
  · have x1 : X st.base st3.dirty g w st.hp g w st3.hp := put_X (st := st)
    have x3 : X st.base st3.dirty g w st3.hp g (w.setCells b (o + off) vs) st3.hp := X.poke hni ⟨by rw [how]; simp, by rw [how]; simp⟩ fun hd i hi => ⟨by rw [how]; simp, fun pre' e => by
      rw [how] at e; cases e
      have := d3 (by rw [← e3]; exact hd) i rfl
      omega⟩
    have x4 := put_X (g := g) (w := w.setCells b (o + off) vs) (st := st3) (r := r) (pre := pre) (x := .sl (.mu s) n (splice cs off ys))
    rw [show st3.base = st.base from put_dirty.1, e2, e4] at x4
    refine ((x1.trans x3).trans x4).weaken fun hd => ?_
    have h1 : st3.dirty = false := by rw [show st3.dirty = st'.dirty from e3]; exact hd
    rw [h1, show (put st r pre (.sl (.mu s) n (splice cs off ys))).dirty = st'.dirty from rfl, hd]; rfl
end
end Go.PS
end

section
/-
  Operations, as the evaluator steps: stores.
-/
namespace Go.PS
section
variable {g g' g1 g2 : G} {w w' w1 w2 : World} {hn hn' : Nat} {tm : Array Value} {fr fr' : Fr} {hp hp' hp1 hp2 : Heap} {P : Program} {t : Nat}

theorem V.cells_out {u : Value} {y : PV} (h : V g w hn u (out y)) (hst : (cellsOf y).all storable = true) : u.cells.size = (cellsOf y).length ∧
    (∀ (j : Nat) (v : Value) (z : PV), u.cells[j]? = some v → ((cellsOf y).map PS.outCell)[j]? = some z → V g w hn v z) ∧ ∀ c ∈ u.cells, c.oneCell' = true := by
  have one : ∀ {v : Value} {z : PV}, V g w hn v (PS.outCell z) → storable z = true → v.oneCell' = true := fun {v z} h hs => by
    generalize hz : PS.outCell z = z' at h
    cases h <;> first | rfl | skip
    · exfalso; cases z <;> simp [PS.outCell] at hz <;> cases hs
    · rename_i h; cases v <;> first | rfl | (cases h; done) | skip
      exfalso; cases z <;> simp [PS.outCell] at hz <;> subst hz <;> cases hs
    · exfalso; cases z <;> simp [PS.outCell] at hz <;> cases hs
  by_cases hy : ∃ cs, y = .agg cs
  · obtain ⟨cs, rfl⟩ := hy
    cases h with
    | agg vs _ hs hv =>
      refine ⟨by simpa [cellsOf, Value.cells] using hs, hv, fun c hc => ?_⟩
      obtain ⟨j, hj, rfl⟩ := Array.mem_iff_getElem.1 hc
      have hj' : j < cs.length := by simpa using (hs ▸ hj : j < (cs.map PS.outCell).length)
      have := hv j _ (PS.outCell cs[j]) (Array.getElem?_eq_getElem hj) (by simp [hj'])
      exact one this (List.all_eq_true.1 hst _ (List.getElem_mem hj'))
  · have hna : ∀ cs, y ≠ .agg cs := fun cs e => hy ⟨cs, e⟩
    have hc := cellsOf_one hna
    rw [hc] at hst ⊢
    have hst : storable y = true := by simpa using hst
    have ho : out y = PS.outCell y := by cases y <;> first | rfl | exact (hna _ rfl).elim
    rw [ho] at h
    have h1 := one h hst
    have hcv : u.cells = #[u] := by cases u <;> first | rfl | cases h1
    rw [hcv]
    refine ⟨rfl, fun j v z h1 h2 => ?_, fun c hc => by simp at hc; subst hc; exact h1⟩
    cases j with
    | zero => simp at h1 h2; subst h1; subst h2; exact h
    | succ j => simp at h2

theorem run_storeAt {T : TypeId} {b o : Nat} {u : Value} {i : TypeInfo} (hi : P.info? T = some i) (hs : u.cells.size = sizeT P T) (ht : ∀ j, j < u.cells.size → (w.cell? ⟨b, o + j, none⟩).isSome = true ∧ w.frozen? ⟨b, o + j, none⟩ = false)
    (h1 : ∀ c ∈ u.cells, c.oneCell' = true) : (Instr.storeAt T (.pointer (some ⟨b, o, none⟩)) u).run P w = .ok () (w.setCells b o u.cells.toList) := by
  have := run_storeCells_cells (P := P) b o u.cells.toList 0 w (fun j hj => by simpa using (ht j (by simpa using hj)).1) (fun j hj => by simpa using (ht j (by simpa using hj)).2)
    (fun v hv => h1 v (by simpa using hv))
  simp only [Nat.add_zero] at this
  simp [Instr.storeAt, Instr.sureAddr, storeVar, run_sizeT hi, hs, this]

theorem storeOK {st st' : St} {a : Act} (R : Rel g w a.tmps st.fr st.hp) {o : Oper} (hd : ∀ d, o.dst = some d → d < a.tmps.size) {T : TypeId} {x y : Operand} (ho : o.op = .store T x y) (h : (store P st T x y).map (fun st => setSlot st o.dst .undef) = some st') :
    StepOK P a o st st' g w := by
  simp only [Option.map_eq_some_iff] at h
  obtain ⟨st2, h, rfl⟩ := h
  have fin : ∀ {g' w'}, (Instr.storeAt T (a.eval x) (a.eval y)).run P w = .ok () w' → Rel g' w' a.tmps st2.fr st2.hp → StepR st st2 g w g' w' → StepOK P a o st (setSlot st2 o.dst .undef) g w := fun {g' w'} h1 h2 h3 =>
    Runs.skip (w' := w') (by simp [execOp, ho, h1]) ⟨g', h2.putFlat hd (fun t => (V.undef _).slot t) (fun t pre e => by cases e), h3.setSlot _ _⟩
  unfold store at h
  split at h
  · cases h
  · rename_i st1 v ht
    split at h
    · rename_i r pre off hop
      split at h
      · rename_i nd hnav
        split at h
        · rename_i hc
          obtain ⟨hsz, hinfo, hle, hst, hpos⟩ := hc
          obtain ⟨i, hi⟩ := Option.isSome_iff_exists.1 hinfo
          split at h
          · rename_i cs
            cases h
            obtain ⟨R1, S1, T1, e1⟩ := take_sound rfl R ht
            rw [← S1.base] at T1
            obtain ⟨rfl, hr⟩ := nav_box hnav
            obtain ⟨⟨tx, hx⟩, _⟩ := opv_sound R1 a rfl x
            rw [hop] at hx
            obtain ⟨b0, o0, hl0, hv0, _⟩ := hx.ptr_inv
            have hkill : ∀ j, j < (cellsOf v).length → (killOf r off v).hits r (some (off + j)) = true := fun j hj => by
              by_cases hy : ∃ cs, v = .agg cs
              · obtain ⟨cs, rfl⟩ := hy
                simp [killOf, Kill.hits]
              · have hna : ∀ cs, v ≠ .agg cs := fun cs e => hy ⟨cs, e⟩
                rw [cellsOf_one hna] at hj
                have hk : killOf r off v = .at r off := by cases v <;> first | rfl | exact (hna _ rfl).elim
                rw [hk]
                simp at hj
                subst hj
                simp [Kill.hits]
            obtain ⟨b, g2, w2, hl, hcs, rfl, hthere, hone, R2, S2⟩ := storeBox (P := P) R1 T1 hst hr off (by simpa [PV.kids] using hle) _ hkill T
            rw [hl0] at hl; cases hl
            refine fin (g' := g2) ?_ R2 (S1.trans S2)
            rw [hv0, Nat.zero_add]
            exact run_storeAt hi (hcs.trans hsz) hthere hone
          · rename_i s n cs
            cases h
            obtain ⟨g1, R1, S1, V1, e1⟩ := takeOut_take rfl R (x := y) (y := out v) (st' := st1) (by rw [ht]; simp only [hst, if_true])
            obtain ⟨hcs, hVs, hone⟩ := V1.cells_out hst
            obtain ⟨⟨tx, hx⟩, _⟩ := opv_sound R1 a rfl x
            rw [hop] at hx
            obtain ⟨b0, o0, hl0, hv0, _⟩ := hx.ptr_inv
            obtain ⟨b, o', hl, hthere, R2, S2⟩ := storeRow R1 hnav (vs := (a.eval y).cells.toList) (ys := (cellsOf v).map outCell) (by simpa using hcs) (fun j u z h1 h2 => hVs j u z (by simpa using h1) h2) off
              (by simpa [PV.kids] using hle) (by simpa using hpos)
            rw [hl0] at hl; cases hl
            refine fin (g' := g1) ?_ R2 (S1.trans S2)
            rw [hv0]
            exact run_storeAt hi (hcs.trans hsz) (by simpa using hthere) hone
          · cases h
        · cases h
      · cases h
    · cases h
end
end Go.PS
end

section
/-
  Operations, as the evaluator steps: slices that are made, closures.
-/
namespace Go.PS
section
variable {g g' g1 g2 : G} {w w' w1 w2 : World} {hn hn' : Nat} {tm : Array Value} {fr fr' : Fr} {hp hp' hp1 hp2 : Heap} {P : Program} {t : Nat}

theorem flatten_get (z : List PV) : ∀ (n k : Nat), ((List.replicate n z).flatten)[k]? = if k < n * z.length then z[k % z.length]? else none
  | 0, k => by simp
  | n + 1, k => by
    rw [List.replicate_succ, List.flatten_cons, List.getElem?_append]
    split
    · rename_i h
      rw [if_pos (by rw [Nat.succ_mul]; omega), Nat.mod_eq_of_lt h]
    · rename_i h
      rw [flatten_get z n, Nat.succ_mul]
      have h1 : z.length ≤ k := by omega
      by_cases h2 : k - z.length < n * z.length
      · rw [if_pos h2, if_pos (by omega), ← Nat.mod_eq_sub_mod h1]
      · rw [if_neg h2, if_neg (by omega)]
theorem flatten_length (z : List PV) (n : Nat) : ((List.replicate n z).flatten).length = n * z.length := by simp

/-- Pointwise lasting. -/
def VL (g : G) (w : World) (hn : Nat) (vs : Array Value) (cs : List PV) : Prop :=
  vs.size = cs.length ∧ ∀ (j : Nat) (v : Value) (y : PV), vs[j]? = some v → cs[j]? = some y → V g w hn v y

theorem VL.zeros {zs : Array Value} {z : List PV} (h : VL g w hn zs z) (n : Nat) : VL g w hn ((Array.range (n * z.length)).map (zs[· % zs.size]!)) (List.replicate n z).flatten := by
  refine ⟨by simp, fun j v y hv hy => ?_⟩
  rw [flatten_get] at hy
  split at hy
  · rename_i hlt
    have hz0 : 0 < z.length := by
      rcases Nat.eq_zero_or_pos z.length with h0 | h0
      · rw [h0] at hlt; omega
      · exact h0
    have hm : j % zs.size < zs.size := Nat.mod_lt _ (by rw [h.1]; exact hz0)
    simp only [Array.getElem?_map, Array.getElem?_range, hlt, if_true, Option.map_some, Option.some.injEq] at hv
    subst hv
    rw [getElem!_pos zs _ hm]
    exact h.2 (j % zs.size) _ _ (Array.getElem?_eq_getElem hm) (by rw [h.1]; exact hy)
  · cases hy

theorem VL.outCells {zs : Array Value} {z : List PV} (h : VL g w hn zs z) : VL g w hn zs (z.map outCell) := by
  refine ⟨by simpa using h.1, fun j v y hv hy => ?_⟩
  simp only [List.getElem?_map, Option.map_eq_some_iff] at hy
  obtain ⟨c, hc, rfl⟩ := hy
  exact (h.2 j v c hv hc).outCell

theorem V.cells {u : Value} {y : PV} (h : V g w hn u y) (hu : (∃ cs, y = .agg cs) ∨ u.cells = #[u]) : VL g w hn u.cells (cellsOf y) := by
  rcases hu with ⟨cs, rfl⟩ | hu
  · cases h with | agg vs _ hs hv => exact ⟨hs, hv⟩
  · by_cases hy : ∃ cs, y = .agg cs
    · obtain ⟨cs, rfl⟩ := hy
      cases h with | agg vs _ hs hv => exact ⟨hs, hv⟩
    · rw [hu, cellsOf_one fun cs e => hy ⟨cs, e⟩]
      refine ⟨rfl, fun j v z h1 h2 => ?_⟩
      cases j with
      | zero => simp at h1 h2; subst h1; subst h2; exact h
      | succ j => simp at h2

theorem fillP_sound (pl : Nat → Option (Nat × Nat)) : ∀ (is : List Nat) (us : List Value) (ys : List PV) {vs : Array Value} {cs cs' : List PV}, us.length = ys.length → VL g w hn vs cs →
    (∀ (j : Nat) (u : Value) (y : PV), us[j]? = some u → ys[j]? = some y → VL g w hn u.cells (cellsOf y)) → fillP pl cs is ys = some cs' →
    ∃ vs', Instr.fill pl vs (is.zip us) = some vs' ∧ VL g w hn vs' cs'
  | [], [], [], vs, cs, cs', _, hv, _, h => by cases h; exact ⟨vs, rfl, hv⟩
  | i :: is, u :: us, y :: ys, vs, cs, cs', hl, hv, hu, h => by
    unfold fillP at h
    split at h
    · rename_i off size hpl
      split at h
      · rename_i hc
        have h0 := hu 0 u y rfl rfl
        have hle : off + u.cells.size ≤ vs.size := by rw [h0.1, hv.1]; omega
        obtain ⟨vs', h1, h2⟩ := fillP_sound pl is us ys (vs := u.cells.zipIdx.foldl (fun cs (x : Value × Nat) => cs.setIfInBounds (off + x.2) x.1) vs) (by simpa using hl)
          ⟨by rw [fill_size, splice_length]; exact hv.1, fun j v z hvj hzj => by
            rw [fill_get _ _ _ hle] at hvj
            rw [splice_get _ _ _ _ (by omega)] at hzj
            by_cases hj : off ≤ j ∧ j < off + (cellsOf y).length
            · rw [if_pos (by rw [h0.1]; exact hj)] at hvj
              rw [if_pos hj] at hzj
              exact h0.2 _ _ _ hvj hzj
            · rw [if_neg (by rw [h0.1]; exact hj)] at hvj
              rw [if_neg hj] at hzj
              exact hv.2 _ _ _ hvj hzj⟩ (fun j u y h1 h2 => hu (j + 1) u y (by simpa using h1) (by simpa using h2)) h
        refine ⟨vs', ?_, h2⟩
        simp only [List.zip_cons_cons, Instr.fill, hpl]
        rw [if_neg]
        · exact h1
        · simp only [ne_eq, Bool.or_eq_true, decide_eq_true_eq, not_or, Decidable.not_not]
          have := h0.1; omega
      · cases h
    · cases h
  | [], [], y :: ys, _, _, _, hl, _, _, _ => by simp at hl
  | [], u :: us, [], _, _, _, hl, _, _, _ => by simp at hl
  | [], u :: us, y :: ys, vs, cs, cs', _, _, _, h => by simp [fillP] at h
  | i :: is, [], [], vs, cs, cs', _, _, _, h => by simp [fillP] at h
  | i :: is, [], y :: ys, _, _, _, hl, _, _, _ => by simp at hl
  | i :: is, u :: us, [], _, _, _, hl, _, _, _ => by simp at hl

end
end Go.PS
end

section
/-
  Operations, as the evaluator steps: slices that are made, closures, part 2.
-/
namespace Go.PS
section
variable {g g' g1 g2 : G} {w w' w1 w2 : World} {hn hn' : Nat} {tm : Array Value} {fr fr' : Fr} {hp hp' hp1 hp2 : Heap} {P : Program} {t : Nat}

theorem takeL_one : ∀ (xs : List Operand) {st st' : St} {ys : List PV}, takeL st xs = some (st', ys) → ∀ y ∈ ys, (∃ cs, y = .agg cs) ∨ storable y = true
  | [], _, _, _, h, y, hy => by cases h; cases hy
  | x :: xs, st, st', ys, h, y, hy => by
    unfold takeL at h
    split at h
    · cases h
    · rename_i st1 v h1
      split at h
      · cases h
      · rename_i st2 vs h2
        cases h
        rcases List.mem_cons.1 hy with rfl | hy
        · unfold takeOut at h1
          split at h1
          · unfold shareAt at h1
            split at h1
            · cases h1; exact .inr rfl
            · cases h1; exact .inr rfl
            · cases h1
          · split at h1
            · rename_i st3 u ht
              split at h1
              · rename_i hst
                cases h1
                rcases outC_cases x u with e | ⟨rfl, e⟩
                · rw [e]; cases u <;> first | exact .inl ⟨_, rfl⟩ | (simp [cellsOf] at hst; right; simp [out, outCell]; first | exact hst | rfl)
                · rw [e]; exact .inr rfl
              · cases h1
            · cases h1
        · exact takeL_one xs h2 y hy

theorem fillP_length {pl : Nat → Option (Nat × Nat)} : ∀ {cs : List PV} {is : List Nat} {ys cs' : List PV}, fillP pl cs is ys = some cs' → cs'.length = cs.length := by
  intro cs is
  induction is generalizing cs with
  | nil => intro ys cs' h; cases ys <;> simp [fillP] at h; rw [h]
  | cons i is ih =>
    intro ys cs' h
    cases ys with
    | nil => simp [fillP] at h
    | cons y ys =>
      unfold fillP at h
      split at h
      · split at h
        · rw [ih h, splice_length]
        · cases h
      · cases h

/-- What is on its way comes to where an operation puts it. -/
theorem Rel.landDst {a : Act} {st : St} (R : Rel g w a.tmps st.fr st.hp) {dst : Option Nat} (hd : ∀ d, dst = some d → d < a.tmps.size) {v : Value} {x : PV} (h : ResV g w st.hp.length v x) :
    ∃ g', Rel g' w (a.put dst v).tmps (setSlot st dst x).fr (setSlot st dst x).hp ∧ StepR st (setSlot st dst x) g w g' w := by
  cases dst with
  | none => exact ⟨g, R, StepR.refl _ _ _⟩
  | some d =>
    obtain ⟨g', R', X'⟩ := R.land (base := st.base) (dd := st.dirty) (hd d rfl) h
    exact ⟨g', R', StepR.ofX rfl rfl X' id⟩

theorem newFacts (R : Rel g w tm fr hp) {cells : Array Value} {cs : List PV} {cap sz : Nat} (hroom : cap * sz ≤ cells.size)
    (hc : ∀ (j : Nat) (y : PV), cs[j]? = some y → ∃ u, cells[j]? = some u ∧ V g w hn u y) (e : TypeId) : g.own w.heap.size = none ∧ w.heap.size < (w.alloc (.cells cells e)).heap.size ∧
    (∀ j, j < cap * sz → ((w.alloc (.cells cells e)).cell? ⟨w.heap.size, 0 + j, none⟩).isSome = true ∧ (w.alloc (.cells cells e)).frozen? ⟨w.heap.size, 0 + j, none⟩ = false) ∧ (∀ j, ¬ g.imm w.heap.size j) ∧ Cells g (w.alloc (.cells cells e)) hn w.heap.size 0 cs := by
  have hg := Grow.alloc w (.cells cells e)
  refine ⟨own_new R (Nat.le_refl _), by rw [size_alloc]; omega, fun j hj => ⟨by rw [Nat.zero_add, cell_new, Array.getElem?_eq_getElem (by omega)]; rfl, by rw [Nat.zero_add]; exact frozen_new _ _ _ _⟩, fun j => notImm_new R (Nat.le_refl _) j, fun j y hy => ?_⟩
  obtain ⟨u, h1, h2⟩ := hc j y hy
  exact ⟨u, by rw [Nat.zero_add, cell_new]; exact h1, h2.mono ⟨fun b o hi => ⟨hi, hg.cell (R.lt_imm hi)⟩, fun _ _ => rfl, fun _ _ => rfl, Nat.le_refl _⟩⟩

/-- A new row is on its way. -/
theorem newResV (R : Rel g w tm fr hp) {cells : Array Value} {cs : List PV} {n cap sz : Nat} (hle : n ≤ cap) (hlen : cs.length = n * sz) (hroom : cap * sz ≤ cells.size) (h0 : 0 < n ∨ 0 < sz)
    (hc : ∀ (j : Nat) (y : PV), cs[j]? = some y → ∃ u, cells[j]? = some u ∧ V g w hn u y) (e : TypeId) : ResV g (w.alloc (.cells cells e)) hn (.slice (some ⟨w.heap.size, 0, none⟩) n cap) (.sl (.mu sz) n cs) := by
  obtain ⟨h1, h2, h3, h4, h5⟩ := newFacts R hroom hc e
  exact .mu h1 h2 hle hlen h3 h4 h5 h0

theorem V.cells_of {u : Value} {y : PV} (h : V g w hn u y) (hy : (∃ cs, y = .agg cs) ∨ storable y = true) : VL g w hn u.cells (cellsOf y) := by
  refine h.cells ?_
  rcases hy with hy | hy
  · exact .inl hy
  · exact .inr (cells_one (h.not_agg hy))

theorem buildSliceOK {st st' : St} {a : Act} (R : Rel g w a.tmps st.fr st.hp) {H : Hint} {own : FuncId → Option Nat} {callF : CallF} {o : Oper} (hd : ∀ d, o.dst = some d → d < a.tmps.size) {T : TypeId} {n : Nat} {parts : Array (Nat × Operand)} (ho : o.op = .buildSlice T n parts) (h : stepOp P H own callF st o = some st') :
    StepOK P a o st st' g w := by
  simp only [stepOp, ho] at h
  split at h
  · rename_i st1 vs e ht he
    split at h
    · rename_i z hz
      split at h
      · rename_i hc
        split at h
        · rename_i cs hf
          cases h
          obtain ⟨g1, R1, S1, hlen, hV, e1⟩ := takeL_sound rfl _ R ht
          have hone := takeL_one _ ht
          obtain ⟨zv, hz1, hz2, hz3⟩ := zero_sound (g := g1) (w := w) (hn := st1.hp.length) hz
          have hu : P.underlying T = some (.slice e) := by
            unfold elemT at he
            split at he
            · rename_i hu; cases he; exact hu
            · cases he
          have hi : ∃ i, P.info? e = some i := by
            unfold zeroT at hz
            split at hz
            · rename_i i hi; exact ⟨i, hi⟩
            · cases hz
          obtain ⟨i, hi⟩ := hi
          have hVz : VL g1 w st1.hp.length zv.cells z := ⟨hz2, hz3⟩
          have hVz' := hVz.outCells
          have hzl : (z.map outCell).length = sizeT P e := by simpa using hc.2
          have hVzs := hVz'.zeros n
          rw [hzl] at hVzs
          obtain ⟨vs', hf1, hVL⟩ := fillP_sound (fun i => some (i * sizeT P e, sizeT P e)) (parts.toList.map (·.1)) ((parts.toList.map (·.2)).map a.eval) vs (by simpa using hlen.symm) hVzs (fun j u y hu hy => by
            simp only [List.getElem?_map, Option.map_eq_some_iff] at hu
            obtain ⟨x, hx, rfl⟩ := hu
            exact (hV j x y (by simpa using hx) hy).cells_of (hone y (List.mem_of_getElem? hy))) hf
          have hg := Grow.alloc w (.cells vs' e)
          have R1' := R1.grow hg
          have hres : ResV g1 (w.alloc (.cells vs' e)) st1.hp.length (.slice (some ⟨w.heap.size, 0, none⟩) n n) (.sl (.mu (sizeT P e)) n cs) := by
            have hcl := fillP_length hf
            rw [flatten_length, hzl] at hcl
            rcases Nat.eq_zero_or_pos n with h0 | h0
            · subst h0
              have : cs = [] := List.eq_nil_of_length_eq_zero (by simpa using hcl)
              subst this
              exact .of (.sl0 _ _)
            · exact newResV R1 (Nat.le_refl _) hcl (by rw [hVL.1, hcl]; exact Nat.le_refl _) (.inl h0) (fun j y hy => by
                have hlt : j < vs'.size := by rw [hVL.1]; exact lt_of_some hy
                exact ⟨vs'[j], Array.getElem?_eq_getElem hlt, hVL.2 j _ y (Array.getElem?_eq_getElem hlt) hy⟩) e
          obtain ⟨g2, R2, S2⟩ := R1'.landDst (a := a) (st := st1) (dst := o.dst) hd hres
          have hrun : (execOp a.eval o).run P w = .ok (.value (.slice (some ⟨w.heap.size, 0, none⟩) n n)) (w.alloc (.cells vs' e)) := by
            have hzip : (parts.toList.map (·.1)).zip ((parts.toList.map (·.2)).map a.eval) = parts.toList.map fun x => (x.1, a.eval x.2) := by
              rw [List.map_map, List.zip_map']
              rfl
            rw [hzip] at hf1
            have hmap : (parts.map fun (x : Nat × Operand) => (x.1, a.eval x.2)).toList = parts.toList.map fun x => (x.1, a.eval x.2) := by simp
            have hno : ¬ n * sizeT P e > 2 ^ 24 := by have := hc.1; omega
            by_cases h0 : n * sizeT P e = 0
            · have hr0 : ∀ f : Nat → Value, (Array.range 0).map f = #[] := fun f => by simp
              rw [h0, hr0] at hf1
              simp only [execOp, ho, Instr.buildSlice, Sem.run_bind, run_underlying hu, Result.andThen_ok, run_sizeT hi, h0, if_true, Sem.run_pure]
              have hr1 : ∀ z : Array Value, (Array.range 0).map (fun x => z[x % z.size]!) = #[] := fun z => hr0 _
              rw [if_neg (by decide)]
              simp only [Sem.run_bind, Sem.run_pure, Result.andThen_ok, hmap, hr1, hf1]
              simp [newRow]
            · simp only [execOp, ho, Instr.buildSlice, Sem.run_bind, run_underlying hu, Result.andThen_ok, run_sizeT hi, if_neg hno, if_neg h0, hz1, Sem.run_pure]
              simp only [hmap, hf1]
              simp [newRow]
          exact Runs.value hrun ⟨g2, R2, (S1.trans (StepR.ofX rfl rfl (X.grow R1 hg) (by simp))).trans S2⟩
        · cases h
      · cases h
    · cases h
  · cases h

theorem makeFuncOK {st st' : St} {a : Act} (R : Rel g w a.tmps st.fr st.hp) {H : Hint} {own : FuncId → Option Nat} {callF : CallF} {o : Oper} (hd : ∀ d, o.dst = some d → d < a.tmps.size) {f : FuncId} {first cap : Array Operand} (ho : o.op = .makeFunc (.func f) first cap) (h : stepOp P H own callF st o = some st') :
    StepOK P a o st st' g w := by
  simp only [stepOp, ho] at h
  split at h
  · rename_i h0
    split at h
    · rename_i st1 vs ht
      cases h
      obtain ⟨g1, R1, S1, hlen, hV, e1⟩ := takeL_sound rfl _ R ht
      have hfirst : first = #[] := Array.eq_empty_of_size_eq_zero h0
      have hVf : V g1 w st1.hp.length (.func (.func f) #[] (cap.map a.eval)) (.fn f vs) := .fn f _ _ (by simpa using hlen.symm) fun j v y hv hy => by
        simp only [Array.getElem?_map, Option.map_eq_some_iff] at hv
        obtain ⟨x, hx, rfl⟩ := hv
        exact hV j x y (by simpa using hx) hy
      refine Runs.value (v := .func (.func f) #[] (cap.map a.eval)) ?_ ⟨g1, R1.putFlat hd (fun t => hVf.slot t) hVf.lv, S1.setSlot _ _⟩
      simp [execOp, ho, Instr.makeFunc, hfirst]
    · cases h
  · cases h

theorem makeSliceOK {st : St} {a : Act} (R : Rel g w a.tmps st.fr st.hp) {o : Oper} {d : Nat} (hdst : o.dst = some d) (hd : d < a.tmps.size) {T : TypeId} {l c : Operand} (ho : o.op = .makeSlice T l c) {z : PV} (h : stepA P st o = some z) :
    StepOK P a o st (setSlot st o.dst z) g w := by
  simp only [stepA, ho] at h
  split at h
  · rename_i e k n k' m he hl hc
    split at h
    · rename_i z0 hz
      split at h
      · rename_i hcond
        cases h
        obtain ⟨rfl, hn0, hn1, hzl, hbytes⟩ := hcond
        obtain ⟨zv, hz1, hz2, hz3⟩ := zero_sound (g := g) (w := w) (hn := st.hp.length) hz
        obtain ⟨⟨tl, hsl⟩, _⟩ := opv_sound R a rfl l
        obtain ⟨⟨tc, hsc⟩, _⟩ := opv_sound R a rfl c
        rw [hl] at hsl
        rw [hc] at hsc
        have hvl := hsl.int_inv
        have hvc := hsc.int_inv
        have hu : P.underlying T = some (.slice e) := by
          unfold elemT at he
          split at he
          · rename_i hu; cases he; exact hu
          · cases he
        obtain ⟨i, hi⟩ : ∃ i, P.info? e = some i := by
          unfold zeroT at hz
          split at hz
          · rename_i i hi; exact ⟨i, hi⟩
          · cases hz
        have hb : i.bytes * n ≤ 140737488355328 := by simpa [hi] using hbytes
        have hwrap : IntKind.i64.wrap n = n := IntWalk.i64_in n ⟨by omega, by omega⟩
        have hVzs := (VL.outCells (g := g) (w := w) (hn := st.hp.length) (zs := zv.cells) (z := z0) ⟨hz2, hz3⟩).zeros n.toNat
        rw [List.length_map, hzl] at hVzs
        let cells : Array Value := (Array.range (n.toNat * sizeT P e)).map (zv.cells[· % zv.cells.size]!)
        have hrun : (execOp a.eval o).run P w = .ok (.value (.slice (some ⟨w.heap.size, 0, none⟩) n.toNat n.toNat)) (w.alloc (.cells cells e)) := by
          have k1 : ¬ n < 0 := by omega
          have k2 : ¬ 281474976710656 < (i.bytes : Int) * n := by omega
          have hti : (Go.typeInfo e).run P w = .ok i w := by simp [Go.typeInfo, hi, go_sem]
          have ha1 : (Go.asInt (.int k n)).run P w = .ok n w := by simp [Go.asInt, Go.asIntOf]
          have ha2 : (Go.asInt (.int k' n)).run P w = .ok n w := by simp [Go.asInt, Go.asIntOf]
          simp only [execOp, ho, Instr.makeSlice, Sem.run_bind, run_underlying hu, Result.andThen_ok, hvl, hvc, ha1, ha2, hti, Sem.run_pure, hwrap]
          by_cases h0 : n.toNat * sizeT P e = 0
          · have hc0 : cells = #[] := by simp only [cells]; rw [h0]; simp
            simp [k1, k2, run_askRoom, run_sizeT hi, h0, newRow, hc0]
            have hz0 : (Array.range 0).map (fun _ => (default : Value)) = #[] := by simp
            rw [hz0]
          · simp [k1, k2, run_askRoom, run_sizeT hi, h0, newRow, hz1, cells]
        have hg := Grow.alloc w (.cells cells e)
        have R1 := R.grow hg
        rcases Int.lt_or_eq_of_le hn0 with hpos | hzero
        · obtain ⟨g2, R2, X2⟩ := R1.newRow (base := st.base) (dd := st.dirty) hd (b := w.heap.size) (n := n.toNat) (cap := n.toNat) (sz := sizeT P e) (cs := (List.replicate n.toNat (z0.map outCell)).flatten) (own_new R (Nat.le_refl _))
            (by rw [size_alloc]; omega) (Nat.le_refl _) (by rw [flatten_length, List.length_map, hzl]) (fun j hj => ⟨by rw [cell_new, Array.getElem?_eq_getElem (by simpa [cells] using hj)]; rfl, frozen_new _ _ _ _⟩) (fun j => notImm_new R (Nat.le_refl _) j)
            (fun j y hy => by
              have hlt : j < cells.size := by have := lt_of_some hy; rw [flatten_length, List.length_map, hzl] at this; simpa [cells] using this
              refine ⟨cells[j], by rw [Nat.zero_add, cell_new]; exact Array.getElem?_eq_getElem hlt, ?_⟩
              exact (hVzs.2 j _ y (Array.getElem?_eq_getElem hlt) hy).mono ⟨fun b o hi => ⟨hi, hg.cell (R.lt_imm hi)⟩, fun _ _ => rfl, fun _ _ => rfl, Nat.le_refl _⟩) (.inl (by omega))
          refine Runs.value hrun ⟨g2, ?_, StepR.ofX (st' := setSlot st o.dst _) (setSlot_rest _ _ _).2.1 (setSlot_rest _ _ _).2.2 (d := false || st.dirty) ?_ (by simp)⟩
          · rw [hdst]; exact R2
          · rw [(setSlot_rest _ _ _).1]
            exact (X.grow R hg).trans X2
        · subst hzero
          refine Runs.value hrun ⟨g, ?_, StepR.ofX (st' := setSlot st o.dst _) (setSlot_rest _ _ _).2.1 (setSlot_rest _ _ _).2.2 (d := false) ?_ (by simp)⟩
          · exact Rel.putFlat (g := g) (w := w.alloc (.cells cells e)) (st := st) R1 (fun d' e => by rw [hdst] at e; cases e; exact hd) (fun t => (V.sl0 (some ⟨w.heap.size, 0, none⟩) (.mu (sizeT P e))).slot t) (V.sl0 (g := g) (w := w.alloc (.cells cells e)) (hn := st.hp.length) (some ⟨w.heap.size, 0, none⟩) (.mu (sizeT P e))).lv
          · rw [(setSlot_rest _ _ _).1]
            exact X.grow R hg
      · cases h
    · cases h
  · cases h
end
end Go.PS
end

section
/-
  Maps that are written.
-/
namespace Go.PS
section
variable {g g' g1 g2 : G} {w w' w1 w2 : World} {hn hn' : Nat} {tm : Array Value} {fr fr' : Fr} {hp hp' hp1 hp2 : Heap} {P : Program} {t : Nat}

def setBlk (w : World) (b : Nat) (o : Obj) : World := { w with heap := w.heap.setIfInBounds b o }

theorem setBlk_other {b b' : Nat} {o : Obj} (h : b' ≠ b) : (setBlk w b o).heap[b']? = w.heap[b']? := by
  simp only [setBlk]; rw [Array.getElem?_setIfInBounds, if_neg (Ne.symm h)]
theorem setBlk_here {b : Nat} {o o' : Obj} (h : w.heap[b]? = some o') : (setBlk w b o).heap[b]? = some o := by
  simp only [setBlk]; rw [Array.getElem?_setIfInBounds, if_pos rfl, if_pos (Array.getElem?_eq_some_iff.1 h).1]
theorem setBlk_cell {b : Nat} {es es' : Array MapEntry} {c c' : Nat} (h : w.heap[b]? = some (.map es c)) (a : Addr) : (setBlk w b (.map es' c')).cell? a = w.cell? a := by
  unfold World.cell?
  by_cases e : a.block = b
  · rw [e, setBlk_here h, h]
  · rw [setBlk_other e]
theorem setBlk_frozen {b : Nat} {es es' : Array MapEntry} {c c' : Nat} (h : w.heap[b]? = some (.map es c)) (a : Addr) : (setBlk w b (.map es' c')).frozen? a = w.frozen? a := by
  unfold World.frozen?
  by_cases e : a.block = b
  · rw [e, setBlk_here h, h]
  · rw [setBlk_other e]

theorem Rel.mapSet (R : Rel g w tm fr hp) {i b : Nat} {ks' vs' : List PV} {es es' : Array MapEntry} {c c' : Nat} (hO : Obj1 g w hp.length (.heap i) (.obj i) b [])
    (hb : w.heap[b]? = some (.map es c)) (hM : MapC g (setBlk w b (.map es' c')) hp.length b ks' vs') (hnr : ∀ s n p, hp[i]? ≠ some (.row s n p)) : Rel g (setBlk w b (.map es' c')) tm fr (hp.set i (.map ks' vs')) := by
  have hcell := fun a => setBlk_cell (es' := es') (c' := c') hb a
  have hfro := fun a => setBlk_frozen (es' := es') (c' := c') hb a
  have e0 : Ext0 g w hp.length g (setBlk w b (.map es' c')) hp.length := ⟨fun _ _ h => ⟨h, hcell _⟩, fun _ _ => rfl, fun _ _ => rfl, Nat.le_refl _⟩
  have sb : ∀ b', SameB (fun _ _ => False) g w g (setBlk w b (.map es' c')) b' := fun b' => ⟨rfl, fun _ => Iff.rfl, fun _ _ => hcell _, fun _ => by rw [hcell], fun _ => hfro _⟩
  have R0 := R.setObj (i := i) hO hnr
  have hlen : (hp.set i (.cells [])).length = hp.length := List.length_set
  have ch : Chg (fun _ _ => False) (fun _ _ => False) g w (hp.set i (.cells [])).length g (setBlk w b (.map es' c')) (hp.set i (.cells [])).length := by
    rw [hlen]
    exact ⟨e0, fun _ _ _ => rfl, fun b' _ _ _ _ => sb b', fun b' _ _ _ => sb b', fun b' _ _ _ => sb b'⟩
  have cl : ∀ r cs, Clear (fun _ _ => False) (fun _ _ => False) g r cs := fun r cs j y _ _ => ⟨id, fun _ _ _ _ _ _ _ _ => id⟩
  have R1 : Rel g (setBlk w b (.map es' c')) tm fr (hp.set i (.cells [])) := by
    refine R0.change ch (fun t _ => ⟨id, fun cs _ => cl _ cs, fun _ _ _ _ _ _ _ _ => id⟩) (fun _ _ _ _ => id) (fun t r pre h u hu => ?_) (fun i cs _ => ⟨id, cl _ cs, fun _ _ _ _ _ _ _ => id⟩)
      (fun j ks vs hj => ⟨id, fun b' es c hb' h => ?_⟩) (fun b' o ho => by rw [hcell]; exact R.immCell b' o ho) (fun b' k hk => by have := R.ownLt b' k hk; simpa [setBlk] using this) (fun _ _ _ _ _ _ _ h => h)
      (fun j T e bs hj b' hb' => ⟨rfl, setBlk_other (by
        rintro rfl
        rw [hO.own] at hb'
        cases hb'
        rw [List.getElem?_set, if_pos rfl] at hj
        split at hj <;> cases hj), fun _ => Iff.rfl⟩)
    · cases pre with
      | none => cases r <;> exact hu
      | some o => cases r <;> simp only [valAt] at hu ⊢ <;> rw [hcell] <;> exact hu
    · have hne : b' ≠ b := by
        rintro rfl
        rw [hO.own] at hb'
        cases hb'
        rw [List.getElem?_set, if_pos rfl] at hj
        split at hj <;> cases hj
      rw [setBlk_other hne]; exact h
  have R2 := R1.setMap (i := i) (ks := ks') (vs := vs') (b := b) (by rw [hlen]; exact ⟨hO.loc, hO.own, hO.imm, fun j hj => by simp at hj, fun j y hy => by simp at hy⟩) (by rw [hlen]; exact hM) (fun s n p e => by rw [List.getElem?_set_self'] at e; cases h : hp[i]? <;> rw [h] at e <;> cases e)
  rwa [List.set_set] at R2

theorem X.mapSet {base : Nat} {d : Bool} {i b : Nat} {nd : Node} {es es' : Array MapEntry} {c c' : Nat} (hO : Obj1 g w hp.length (.heap i) (.obj i) b [])
    (hb : w.heap[b]? = some (.map es c)) (hd : d = false → base ≤ i) : X base d g w hp g (setBlk w b (.map es' c')) (hp.set i nd) := by
  have hcell := fun a => setBlk_cell (es' := es') (c' := c') hb a
  have sk : ∀ b', g.own b' ≠ some (.obj i) → SameBlk g w g (setBlk w b (.map es' c')) b' := fun b' h => ⟨rfl, setBlk_other (by rintro rfl; exact h hO.own), fun _ => Iff.rfl⟩
  refine ⟨⟨fun _ _ h => ⟨h, hcell _⟩, fun _ _ => rfl, fun _ _ => rfl, by rw [List.length_set]; exact Nat.le_refl _⟩, rfl, rfl, rfl, by simp [setBlk], fun b' hb' => sk b' ?_, fun hd' j hj => ⟨?_, fun _ => rfl, fun b' hb' => sk b' ?_⟩⟩
  · rcases hb' with h | h <;> rw [h] <;> simp
  · have := hd hd'; rw [List.getElem?_set, if_neg (by omega)]
  · have := hd hd'
    rcases hb' with h | ⟨pre, h⟩ <;> rw [h] <;> simp; omega

theorem run_setObj_map {b : Nat} {es es' : Array MapEntry} {c c' : Nat} (h : w.heap[b]? = some (.map es c)) : (setObj b (.map es' c')).run P w = .ok () (setBlk w b (.map es' c')) := by
  simp [setObj, Sem.run, h, setBlk]

theorem findK_same {x : PV} : ∀ {ks : List PV} {j : Nat}, findK x ks = some (some j) → ∃ y, ks[j]? = some y ∧ sameK x y = some true
  | [], j, h => by cases h
  | y :: ys, j, h => by
    unfold findK at h
    split at h
    · rename_i hs; cases h; exact ⟨y, rfl, hs⟩
    · split at h
      · rename_i m hm
        cases h
        obtain ⟨z, h1, h2⟩ := findK_same hm
        exact ⟨z, by simpa using h1, h2⟩
      · rename_i hr
        exact (hr _ h).elim
    · cases h
theorem sameK_eq {K : TypeId} {x y : PV} {u v : Value} (hk : keyT P K x = true) (h : sameK x y = some true) (hx : V g w hn u x) (hy : V g w hn v y) : x = y ∧ u = v := by
  rcases keyT_desc hk with ⟨k, n, k', _, rfl⟩ | ⟨s, _, rfl⟩
  · unfold sameK at h
    split at h
    · rename_i k1 a k2 b e
      cases e
      split at h
      · rename_i hk; subst hk
        simp at h; subst h
        exact ⟨rfl, by rw [hx.int_eq, hy.int_eq]⟩
      · cases h
    · rename_i e; cases e
    · cases h
  · unfold sameK at h
    split at h
    · rename_i e; cases e
    · rename_i a b e
      cases e
      simp at h; subst h
      obtain ⟨p, rfl, e1⟩ := hx.str_eq
      obtain ⟨q, rfl, e2⟩ := hy.str_eq
      have : p = q := by
        have : p.data.toList = q.data.toList := e1.trans e2.symm
        cases p; cases q; simp at this ⊢; exact this
      exact ⟨rfl, by rw [this]⟩
    · cases h
theorem run_keyThatStays {K : TypeId} {x : PV} {u : Value} (hk : keyT P K x = true) (hx : V g w hn u x) : (Instr.keyThatStays u u).run P w = .ok u w := by
  have hs : Instr.sameBits 10000 u u = true := by
    rcases keyT_desc hk with ⟨k, n, k', _, rfl⟩ | ⟨s, _, rfl⟩
    · rw [hx.int_eq]; simp [Instr.sameBits]
    · obtain ⟨p, rfl, _⟩ := hx.str_eq; simp only [Instr.sameBits]; rw [beq_data]; simp
  simp [Instr.keyThatStays, hs]

theorem mapPut_sound {st st' : St} {a : Act} (R : Rel g w a.tmps st.fr st.hp) {T : TypeId} {m k x : Operand} (h : mapPut P st T m k x = some st') :
    ∃ g' w', (Instr.mapUpdate T (a.eval m) (a.eval k) (a.eval x)).run P w = .ok () w' ∧ Rel g' w' a.tmps st'.fr st'.hp ∧ StepR st st' g w g' w' := by
  unfold mapPut at h
  split at h
  rotate_left
  · cases h
  rename_i st1 y K E ht hT
  split at h
  rotate_left
  · cases h
  rename_i i hm
  split at h
  rotate_left
  · cases h
  rename_i ks vs hh
  split at h
  rotate_left
  · cases h
  rename_i hk
  obtain ⟨g1, R1, S1, hlen, hV, e1, o1⟩ := takeL_sound rfl _ R ht
  have hy : V g1 w st1.hp.length (a.eval x) y := hV 0 x y rfl rfl
  obtain ⟨⟨tm', hm'⟩, _⟩ := opv_sound R a rfl m
  obtain ⟨⟨tk, hk'⟩, _⟩ := opv_sound R a rfl k
  rw [hm] at hm'
  have hkV0 : V g w st.hp.length (a.eval k) (opv st.fr k) := by
    generalize opv st.fr k = key at hk hk'
    generalize a.eval k = kw at hk'
    rcases keyT_desc hk with ⟨k, n, k', _, rfl⟩ | ⟨s, _, rfl⟩
    · cases hk' with | of h => cases h with | of h => exact h
    · cases hk' with | of h => cases h with | of h => exact h
  have hkV : V g1 w st1.hp.length (a.eval k) (opv st.fr k) := hkV0.mono S1.x.e0
  obtain ⟨b, hO, es, c, h1, h2, h3, h4⟩ := R1.maps _ _ _ hh
  have hmv : a.eval m = .map (some b) := by
    generalize a.eval m = mv at hm'
    cases hm' with
    | of hx => cases hx with
      | of hx => cases hx with
        | mp _ b' hi hl =>
          have := S1.x.e0.loc i hi
          rw [hl, hO.loc] at this; cases this; rfl
  have kv := fun (j : Nat) (e : MapEntry) (y : PV) (he : es[j]? = some e) (hy : ks[j]? = some y) => (h4 j e he).1 y hy
  have fin : ∀ (es' : Array MapEntry) (c' : Nat) (ks' vs' : List PV), es'.size = ks'.length → es'.size = vs'.length →
      (∀ (j : Nat) (e : MapEntry), es'[j]? = some e → (∀ x, ks'[j]? = some x → V g1 w st1.hp.length e.key x) ∧ (∀ y, vs'[j]? = some y → V g1 w st1.hp.length e.val y)) →
      (Instr.mapUpdate T (a.eval m) (a.eval k) (a.eval x)).run P w = .ok () (setBlk w b (.map es' c')) →
      st' = { st1 with hp := st1.hp.set i (.map ks' vs'), dirty := st1.dirty || decide (i < st1.base) } →
      ∃ g' w', (Instr.mapUpdate T (a.eval m) (a.eval k) (a.eval x)).run P w = .ok () w' ∧ Rel g' w' a.tmps st'.fr st'.hp ∧ StepR st st' g w g' w' := by
    intro es' c' ks' vs' l1 l2 hv hrun e
    subst e
    have e0 : Ext0 g1 w st1.hp.length g1 (setBlk w b (.map es' c')) st1.hp.length := ⟨fun _ _ h => ⟨h, setBlk_cell h1 _⟩, fun _ _ => rfl, fun _ _ => rfl, Nat.le_refl _⟩
    have hM : MapC g1 (setBlk w b (.map es' c')) st1.hp.length b ks' vs' := ⟨es', c', setBlk_here h1, l1, l2, fun j e he => ⟨fun x hx => ((hv j e he).1 x hx).mono e0, fun y hy => ((hv j e he).2 y hy).mono e0⟩⟩
    refine ⟨g1, _, hrun, R1.mapSet hO h1 hM (fun s n p e => by rw [hh] at e; cases e), S1.trans ⟨rfl, fun hd => by simp [hd], ?_⟩⟩
    exact X.mapSet hO h1 fun hd => by simp at hd; exact hd.2
  split at h
  · rename_i j hf
    cases h
    obtain ⟨_, hfk⟩ := run_findKey hk hkV h2 kv hf
    obtain ⟨e, he, hr⟩ := hfk j rfl
    obtain ⟨z, hz, hsame⟩ := findK_same hf
    obtain ⟨hxz, huv⟩ := sameK_eq hk hsame hkV (kv j e z he hz)
    refine fin (es.modify j fun e => { e with key := a.eval k, val := a.eval x }) c ks (vs.set j y) (by simpa using h2) (by simpa using h3) (fun j' e' he' => ?_) ?_ rfl
    · rw [Array.getElem?_modify] at he'
      by_cases hj : j = j'
      · subst hj
        rw [if_pos rfl, he] at he'
        cases he'
        refine ⟨fun x hx => ?_, fun y' hy' => ?_⟩
        · rw [hz] at hx; cases hx; rw [← hxz]; exact hkV
        · rw [List.getElem?_set, if_pos rfl] at hy'
          split at hy'
          · cases hy'; exact hy
          · cases hy'
      · rw [if_neg hj] at he'
        refine ⟨(h4 j' e' he').1, fun y' hy' => ?_⟩
        rw [List.getElem?_set, if_neg hj] at hy'
        exact (h4 j' e' he').2 y' hy'
    · have hst := run_keyThatStays (P := P) hk hkV
      rw [hmv]
      unfold Instr.mapUpdate
      simp only [Sem.run_bind, run_underlying hT, Result.andThen_ok, Sem.run_pure, run_getObj_map h1, run_checkKey hk, hr, he, Option.map_some, Option.getD_some, ← huv, hst, run_setObj_map h1]
  · rename_i hf
    cases h
    obtain ⟨hfk, _⟩ := run_findKey hk hkV h2 kv hf
    refine fin (es.push { key := a.eval k, val := a.eval x, born := c }) (c + 1) (ks ++ [opv st.fr k]) (vs ++ [y]) (by simp [h2]) (by simp [h3]) (fun j' e' he' => ?_) ?_ rfl
    · rw [Array.getElem?_push] at he'
      by_cases hj : j' = es.size
      · subst hj
        rw [if_pos rfl] at he'
        cases he'
        refine ⟨fun x hx => ?_, fun y' hy' => ?_⟩
        · rw [h2] at hx; simp at hx; subst hx; exact hkV
        · rw [h3] at hy'; simp at hy'; subst hy'; exact hy
      · rw [if_neg hj] at he'
        have hlt : j' < es.size := (Array.getElem?_eq_some_iff.1 he').1
        refine ⟨fun x hx => ?_, fun y' hy' => ?_⟩
        · rw [List.getElem?_append_left (by omega)] at hx; exact (h4 j' e' he').1 x hx
        · rw [List.getElem?_append_left (by omega)] at hy'; exact (h4 j' e' he').2 y' hy'
    · rw [hmv]
      unfold Instr.mapUpdate
      simp only [Sem.run_bind, run_underlying hT, Result.andThen_ok, Sem.run_pure, run_getObj_map h1, run_checkKey hk, hfk rfl, run_setObj_map h1]
  · cases h

theorem mapPutOK {st st' : St} {a : Act} (R : Rel g w a.tmps st.fr st.hp) {o : Oper} (hd : ∀ d, o.dst = some d → d < a.tmps.size) {T : TypeId} {m k x : Operand} (ho : o.op = .mapUpdate T m k x ∨ o.op = .insert T m k x)
    (h : mapPut P st T m k x = some st') : StepOK P a o st (setSlot st' o.dst .undef) g w := by
  obtain ⟨g', w', hr, R', S'⟩ := mapPut_sound R h
  have hrun : (execOp a.eval o).run P w = .ok .skip w' := by
    rcases ho with ho | ho <;> simp [execOp, ho, hr]
  exact Runs.skip hrun ⟨g', R'.putFlat hd (fun t => .of (.of (.undef _))) (fun t pre h => by cases h), S'.setSlot _ _⟩
end
end Go.PS
end
