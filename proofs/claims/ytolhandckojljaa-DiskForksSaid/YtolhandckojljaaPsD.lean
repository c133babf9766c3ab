/-
  An evaluator of the model on pure values, and its soundness: what evalCall answers for a function and its arguments, the function returns in the model, and nothing older turns. Part 4 of 4.
-/
import Derived.Test.YtolhandckojljaaPsC
import Derived.ChangeMade
import Derived.RowKit3
import Derived.ChangeSame
import Derived.ReadAgain
import Derived.ChangeArms
import Derived.DataReads
import Derived.DataElems

set_option linter.all false
section
namespace Go.PS
open Go
/-- Where the first answers, the second answers the same. -/
def Le {α : Type} (x y : Option α) : Prop := ∀ i, x = some i → y = some i
theorem Le.rfl' {α : Type} (x : Option α) : Le x x := fun _ h => h
theorem Le.bind {α β : Type} {x y : Option α} {f g : α → Option β} (h : Le x y) (h' : ∀ a, Le (f a) (g a)) : Le (x >>= f) (y >>= g) := by
  intro i hi
  simp only [Bind.bind, Option.bind_eq_some_iff] at hi ⊢
  obtain ⟨a, ha, hi⟩ := hi
  exact ⟨a, h a ha, h' a i hi⟩
theorem Le.map {α β : Type} {x y : Option α} {f : α → β} (h : Le x y) : Le (x.map f) (y.map f) := by
  intro i hi
  simp only [Option.map_eq_some_iff] at hi ⊢
  obtain ⟨a, ha, hi⟩ := hi
  exact ⟨a, h a ha, hi⟩
theorem Le.mapM {α β : Type} {f g : α → Option β} (h : ∀ a, Le (f a) (g a)) : ∀ l : List α, Le (l.mapM f) (l.mapM g)
  | [] => Le.rfl' _
  | a :: l => by
    rw [List.mapM_cons, List.mapM_cons]
    exact Le.bind (h a) fun b => Le.bind (Le.mapM h l) fun _ => Le.rfl' _
theorem Le.forIn {α β : Type} {f g : α → β → Option (ForInStep β)} (h : ∀ a b, Le (f a b) (g a b)) : ∀ (l : List α) (b : β), Le (forIn l b f) (forIn l b g)
  | [], _ => Le.rfl' _
  | a :: l, b => by
    rw [List.forIn_cons, List.forIn_cons]
    exact Le.bind (h a b) fun r => by
      cases r with
      | done b => exact Le.rfl' _
      | yield b => exact Le.forIn h l b
theorem Le.forInA {α β : Type} {f g : α → β → Option (ForInStep β)} (h : ∀ a b, Le (f a b) (g a b)) (l : Array α) (b : β) : Le (ForIn.forIn l b f) (ForIn.forIn l b g) := by
  rw [← Array.forIn_toList, ← Array.forIn_toList]; exact Le.forIn h _ _
section
variable {info info' : TypeId → Option TypeInfo} (h : ∀ t, Le (info t) (info' t))
include h
theorem reckonStruct_mono (fs : Array Field) : Le (Made.reckonStruct info fs) (Made.reckonStruct info' fs) := by
  unfold Made.reckonStruct
  refine Le.bind (Le.forInA (fun f b => ?_) _ _) fun _ => Le.rfl' _
  repeat' (first | exact Le.rfl' _ | exact h _ | (refine Le.bind ?_ fun _ => ?_) | split)
theorem funcStr_mono (ps : Array TypeId) (rs : Array TypeId) (v : Bool) : Le (Made.funcStr info ps rs v) (Made.funcStr info' ps rs v) := by
  unfold Made.funcStr
  repeat' (first | exact Le.rfl' _ | exact h _ | exact Le.map (h _) | (refine Le.mapM (fun _ => ?_) _) | (refine Le.bind ?_ fun _ => ?_) | split)
theorem reckon_mono (d : TypeDesc) : Le (Made.reckon info d) (Made.reckon info' d) := by
  unfold Made.reckon
  cases d <;> simp only
  all_goals first | exact reckonStruct_mono h _ | (repeat' (first | exact Le.rfl' _ | exact h _ | exact funcStr_mono h _ _ _ | exact Le.map (h _) | (refine Le.bind ?_ fun _ => ?_) | split)) | skip
end
theorem infoAt_mono (T : Tables) : ∀ n t, Le (Made.infoAt T n t) (Made.infoAt T (n + 1) t)
  | 0, t => fun i hi => by unfold Made.infoAt at hi; cases hi
  | n + 1, t => by
    unfold Made.infoAt
    split
    · exact Le.rfl' _
    · cases Made.decode (t - T.types.size) with
      | none => exact Le.rfl' _
      | some d => exact reckon_mono (infoAt_mono T n) d
theorem infoAt_succ {T : Tables} {n t : Nat} {i : TypeInfo} (h : Made.infoAt T n t = some i) : Made.infoAt T (n + 1) t = some i :=
  infoAt_mono T n t i h
theorem info_of99 {P : Program} {t : TypeId} {i : TypeInfo} (h : Made.infoAt P.toTables 99 t = some i) : P.info? t = some i := by
  unfold Tables.info?
  split
  · rename_i ht; unfold Made.infoAt at h; rwa [if_pos ht] at h
  · exact infoAt_succ h

theorem forIn_inv {α β : Type} {f : α → β → Option (ForInStep β)} {I : β → Prop} (hstep : ∀ a b r, f a b = some r → I b → I r.value) : ∀ (l : List α) (b r : β), forIn l b f = some r → I b → I r
  | [], b, r, h, hb => by simp at h; cases h; exact hb
  | a :: l, b, r, h, hb => by
    rw [List.forIn_cons] at h
    simp only [bind, Option.bind_eq_some_iff] at h
    obtain ⟨x, hx, h⟩ := h
    have hI := hstep a b x hx hb
    cases x with
    | done x => simp at h; cases h; exact hI
    | yield x => exact forIn_inv hstep l x r h hI

theorem push_inv {info : TypeId → Option TypeInfo} {o : Array Field} {f g : Field} {i : TypeInfo} (hi : info f.type = some i) (ht : g.type = f.type) (h : ∀ f ∈ o, ∃ j, info f.type = some j) : ∀ f ∈ o.push g, ∃ j, info f.type = some j := by
  intro x hx
  rcases Array.mem_push.1 hx with hx | hx
  · exact h x hx
  · subst hx; exact ⟨i, ht ▸ hi⟩

theorem reckonStruct_desc {info : TypeId → Option TypeInfo} {fs : Array Field} {i : TypeInfo} (h : Made.reckonStruct info fs = some i) : ∃ out : Array Field, i.desc = .struct out ∧ ∀ f ∈ out, ∃ j, info f.type = some j := by
  unfold Made.reckonStruct at h
  simp only [bind, Option.bind_eq_some_iff, pure] at h
  obtain ⟨a, ha, h⟩ := h
  have : ∀ f ∈ a.1, ∃ j, info f.type = some j := by
    rw [← Array.forIn_toList] at ha
    refine forIn_inv (I := fun s => ∀ f ∈ s.1, ∃ j, info f.type = some j) ?_ _ _ _ ha (by simp)
    intro f b r hr hb
    simp only [Option.bind_eq_some_iff] at hr
    obtain ⟨i, hi, hr⟩ := hr
    repeat' split at hr
    all_goals simp only [Option.bind_eq_some_iff, Option.bind_some, Option.some.injEq, reduceCtorEq, false_and, exists_false] at hr
    all_goals try (obtain ⟨_, _, hr⟩ := hr)
    all_goals try subst hr
    all_goals first | exact push_inv hi rfl hb | skip
    all_goals (split at hr <;> (cases hr; exact push_inv hi rfl hb))
  split at h <;> (cases h; exact ⟨_, rfl, this⟩)

theorem reckon_info {info : TypeId → Option TypeInfo} {d : TypeDesc} {i : TypeInfo} (h : Made.reckon info d = some i) :
    (∀ e, i.desc = .slice e → ∃ j, info e = some j) ∧ (∀ n e, i.desc = .array n e → ∃ j, info e = some j ∧ i.size = n * j.size) ∧ (∀ fs, i.desc = .struct fs → ∀ f ∈ fs, ∃ j, info f.type = some j) := by
  unfold Made.reckon at h
  split at h
  all_goals try simp only [bind, Option.bind_eq_some_iff, pure] at h
  case h_7 =>
    obtain ⟨out, h1, h2⟩ := reckonStruct_desc h
    refine ⟨fun e he => ?_, fun n e he => ?_, fun fs hf => ?_⟩
    · rw [h1] at he; cases he
    · rw [h1] at he; cases he
    · rw [h1] at hf; cases hf; exact h2
  all_goals repeat' first
    | (obtain ⟨_, _, h⟩ := h)
    | (split at h)
  all_goals try simp only [Option.bind_eq_some_iff] at h
  all_goals try (obtain ⟨_, _, h⟩ := h)
  all_goals try cases h
  all_goals refine ⟨fun e he => ?_, fun n e he => ?_, fun fs hf => ?_⟩
  all_goals try (cases he; done)
  all_goals try (cases hf; done)
  all_goals (cases he; first | exact ⟨_, by assumption⟩ | exact ⟨_, by assumption, rfl⟩)

def tabT (P : Program) (T : TypeId) : Bool :=
  (P.underlying T).isSome &&
  match P.underlying T with
  | some (.slice e) => (P.info? e).isSome
  | some (.array n e) => (match P.info? e, P.info? T with | some i, some j => decide (j.size = n * i.size) | _, _ => false)
  | some (.struct fs) => fs.toList.all fun f => (P.info? f.type).isSome
  | _ => true

theorem under_of_info {P : Program} (h : (List.range P.types.size).all (tabT P) = true) {T : TypeId} {i : TypeInfo} (hi : P.info? T = some i) : ∃ d, P.underlying T = some d := by
  by_cases ht : T < P.types.size
  · have := List.all_eq_true.1 h T (List.mem_range.2 ht)
    simp only [tabT, Bool.and_eq_true, Option.isSome_iff_exists] at this
    exact this.1
  · have hb := Tables.info?_beyond ht hi
    unfold Program.underlying
    split
    · rename_i h'; rw [h'] at hi; cases hi; cases hb
    · exact ⟨_, rfl⟩
    · rename_i h'; rw [h'] at hi; cases hi

theorem beyond {P : Program} {T : TypeId} {d : TypeDesc} (ht : ¬ T < P.types.size) (h : P.underlying T = some d) :
    ∃ i, P.info? T = some i ∧ i.desc = d ∧ (∀ e, i.desc = .slice e → ∃ j, P.info? e = some j) ∧ (∀ n e, i.desc = .array n e → ∃ j, P.info? e = some j ∧ i.size = n * j.size) ∧ (∀ fs, i.desc = .struct fs → ∀ f ∈ fs, ∃ j, P.info? f.type = some j) := by
  obtain ⟨i, hi⟩ := info_of_underlying h
  have hb := Tables.info?_beyond ht hi
  have hd : i.desc = d := by
    unfold Program.underlying at h
    rw [hi] at h
    split at h
    · rename_i h'; cases h'; cases hb
    · rename_i h'; cases h'; cases h; rfl
    · rename_i h'; cases h'
  refine ⟨i, hi, hd, ?_⟩
  unfold Tables.info? at hi
  rw [if_neg ht] at hi
  unfold Made.depth at hi
  unfold Made.infoAt at hi
  rw [if_neg ht] at hi
  simp only [Option.bind_eq_some_iff] at hi
  obtain ⟨d', _, hr⟩ := hi
  obtain ⟨h1, h2, h3⟩ := reckon_info hr
  exact ⟨fun e he => (h1 e he).imp fun _ h => info_of99 h, fun n e he => (h2 n e he).imp fun _ h => ⟨info_of99 h.1, h.2⟩, fun fs hf f hm => (h3 fs hf f hm).imp fun _ h => info_of99 h⟩

theorem tabs_of {P : Program} (h : (List.range P.types.size).all (tabT P) = true) : Tabs P := by
  have hT : ∀ T, T < P.types.size → tabT P T = true := fun T hd => List.all_eq_true.1 h T (List.mem_range.2 hd)
  have hs : ∀ T e, P.underlying T = some (.slice e) → ∃ i, P.info? e = some i := fun T e hu => by
    by_cases ht : T < P.types.size
    · have := hT T ht; simp only [tabT, hu, Bool.and_eq_true, Option.isSome_iff_exists] at this; exact this.2
    · obtain ⟨i, _, hd, h1, _⟩ := beyond ht hu; exact h1 e hd
  have ha : ∀ T n e, P.underlying T = some (.array n e) → ∃ i j, P.info? e = some i ∧ P.info? T = some j ∧ j.size = n * i.size := fun T n e hu => by
    by_cases ht : T < P.types.size
    · have := hT T ht; simp only [tabT, hu, Bool.and_eq_true] at this
      have := this.2
      split at this
      · rename_i i j h1 h2; exact ⟨i, j, h1, h2, by simpa using this⟩
      · cases this
    · obtain ⟨i, hi, hd, _, h2, _⟩ := beyond ht hu; obtain ⟨j, hj, hz⟩ := h2 n e hd; exact ⟨j, i, hj, hi, hz⟩
  have hf : ∀ T fs f, P.underlying T = some (.struct fs) → f ∈ fs → ∃ i, P.info? f.type = some i := fun T fs f hu hm => by
    by_cases ht : T < P.types.size
    · have := hT T ht; simp only [tabT, hu, List.all_eq_true, Bool.and_eq_true, Option.isSome_iff_exists] at this; exact this.2 f (by simpa using hm)
    · obtain ⟨i, _, hd, _, _, h3⟩ := beyond ht hu; exact h3 fs hd f hm
  exact ⟨hs, ha, hf, fun T e hu => (hs T e hu).elim fun _ h' => under_of_info h h', fun T n e hu => (ha T n e hu).elim fun _ h' => h'.elim fun _ h' => under_of_info h h'.1, fun T fs f hu hm => (hf T fs f hu hm).elim fun _ h' => under_of_info h h'⟩

def wfF (P : Program) (H : FuncId → Hint) (f : Nat) : Bool :=
  match P.funcs[f]? with
  | some fn => decide (fn.name ≠ "runtime.NumGoroutine") && (match fn.body with | some b => wfCode (H f) fn.ntmps b | none => true)
  | none => true

theorem wf_of {P : Program} {H : FuncId → Hint} (h : ∀ f, f < P.funcs.size → wfF P H f = true) (hm : P.follows .mixedOrders = true) : WF P H := by
  have hF : ∀ f fn, P.funcs[f]? = some fn → wfF P H f = true := fun f fn hd => h f (Array.getElem?_eq_some_iff.1 hd).1
  refine ⟨?_, ?_, hm⟩
  · intro f fn hf; have := hF f fn hf; simp only [wfF, hf, Bool.and_eq_true, decide_eq_true_eq] at this; exact this.1
  · intro f fn body hf hb; have := hF f fn hf; simp only [wfF, hf, hb, Bool.and_eq_true, decide_eq_true_eq] at this; exact this.2
end Go.PS
end

section
/-
  From the evaluator to a row's walk.
-/
namespace Go.PS
open Go Go.RowKit Go.ChangeShapes Go.WideShapes

/-- Of what lies there nothing turns. -/
def Kept (W w' : World) : Prop := W.keptBut w' (fun _ => False) ∧ ∀ a : Addr, a.block < W.heap.size → w'.frozen? a = W.frozen? a

theorem post_of_kept {E : Type} {enc : TypeId × Value → E} {P : Program} {f : Func} {s : ChangeSpec} {apart fresh handsOn again : Bool} {W W' : World} {args : Array Value} {v : Value} {ds gs : List (DataW E)} {before pa pv : List MemPlace}
    (hW : DataW.Whole enc P f.params.toList s.vars apart W args.toList ds gs before)
    (hres : ∀ (b : Nat) (sp : Nat → Bool) (hd : Bool), DataW.TrodAll enc P W' b sp hd f.resultTypes.toList (v.resultList f.resultTypes.size) (s.fn E (ds ++ gs)).results [])
    (hargs : ∀ sp : Nat → Bool, (∀ p ∈ before, sp p.block = true) → DataW.TrodAll enc P W' 0 sp true f.params.toList args.toList (s.fn E (ds ++ gs)).args pa)
    (hvars : ∀ sp : Nat → Bool, (∀ p ∈ before, sp p.block = true) → DataW.TrodVars enc P W' sp s.vars (s.fn E (ds ++ gs)).vars pv)
    (hps : before = pa ++ pv) (hk : Kept W W')
    (hok : ∀ (j : Nat) (t : TypeId) (r : Value), f.resultTypes[j]? = some t → (v.resultList f.resultTypes.size)[j]? = some r → Value.okWide P W' .any 0 t r) :
    s.post enc P f apart fresh handsOn again W args v W' := by
  have hold : ∀ p ∈ before, (fun b => decide (b < W.heap.size)) p.block = true := fun p hp => by simpa using hW.lt p hp
  have hlt : ∀ p ∈ before, p.block < W.heap.size := fun p hp => hW.lt p hp
  refine ⟨ds, gs, before, [], pa, pv, hW, hres _ _ _, hargs _ hold, hvars _ hold, World.keptBut_mono (fun p hp => ⟨hp, ?_⟩) (World.keptBut_mono (fun _ f => f.elim) hk.1), fun _ => ?_⟩
  · rw [hps, List.mem_append] at hp
    exact Or.inr hp
  · obtain ⟨_, _, _, _, _, hz, hn⟩ := hW
    refine ⟨hok, _, _, ([] ++ pa) ++ pv, ⟨[] ++ pa, pv, trodAll_append (hargs _ (fun _ _ => rfl)) (hres _ _ _), hvars _ (fun _ _ => rfl), rfl, ?_, ?_⟩, ?_⟩
    · intro b off hp
      have hp' : MemPlace.cell b off ∈ before := by rw [hps]; simpa using hp
      rw [hk.2 _ (hlt _ hp')]
      exact hz b off hp'
    · intro ha
      have := hn ha
      rw [hps] at this
      simpa using this
    · intro p hp _
      rw [hps]
      simpa using hp

variable {P : Program} {H : FuncId → Hint}

/-- At the start: whatever lies there is another's, and lasts. -/
def g0 (w : World) : G := { loc := fun _ _ => (0, 0), own := fun b => if b < w.heap.size then some .frg else none, imm := fun b o => (w.cell? ⟨b, o, none⟩).isSome = true }

theorem rel0 (w : World) : Rel (g0 w) w #[] [] [] := by
  refine ⟨fun t => .of (.undef _), fun i cs h => by simp at h, fun b o h => h, fun b k h => ?_, fun t t' pre h => (by cases h), fun t h => (h rfl).elim⟩
  simp only [g0] at h
  split at h
  · assumption
  · cases h

theorem law_kept (Tb : Tabs P) (W : WF P H) (hprim : PrimSound P H) {n : Nat} {f : FuncId} {args : List PV} {hp' : Heap} {d : Bool}
    (h : evalCall P H n f args [] = some (.bool true, hp', d)) {us : Array Value} {w : World} (hs : us.size = args.length)
    (hV : ∀ (j : Nat) (u : Value) (y : PV), us[j]? = some u → args[j]? = some y → V (g0 w) w 0 u y) :
    Calls P f us w fun e w' => e = .returned (.bool true) ∧ Kept w w' := by
  obtain ⟨_, hc⟩ := evalCall_sound Tb H W hprim n f args [] _ hp' d h (g0 w) w us (rel0 w) hs ⟨0, fun j u y _ h1 h2 => hV j u y h1 h2, fun u y h1 h2 => .of (hV 0 u y h1 h2)⟩
  refine hc.mono fun e w' ⟨v, g', he, _, x, hr⟩ => ?_
  have hv : v = .bool true := by
    cases hr with
    | of h => cases h; rfl
  subst hv
  have hb : ∀ b, b < w.heap.size → w'.heap[b]? = w.heap[b]? := fun b hb => (x.far b (.inl (by simp [g0, hb]))).heap
  refine ⟨he, ⟨x.os, x.out, fun i hi => ?_⟩, fun a ha => by simp only [World.frozen?, hb a.block ha]⟩
  · rw [hb i hi]
    cases hx : w.heap[i]? with
    | none => rfl
    | some o => cases o <;> simp
end Go.PS
end

section
/-
  Equations for the evaluator, as a set of rules.
-/
namespace Go.PS
variable {P : Program} {H : Hint} {own : FuncId → Option Nat} {callF : CallF} {n : Nat}
def loopBody (P : Program) (H : Hint) (own : FuncId → Option Nat) (callF : CallF) (n : Nat) (b : Code) (st : St) : Option (Ex × St) :=
  evalCode P H own callF n b none (canon (H.head (firstReg b)) st)
theorem ev_seq (a b : Code) (st : St) : evalCode P H own callF n (.seq a b) none st = (match evalCode P H own callF n a none st with
    | some (.normal, st) => evalCode P H own callF n b none st
    | r => r) := by rw [evalCode]; rfl
theorem ev_skip (st : St) : evalCode P H own callF n .skip none st = some (.normal, st) := by rw [evalCode]
theorem ev_ret (st : St) : evalCode P H own callF n .ret none st = some (.ret, st) := by rw [evalCode]
theorem ev_exit (id : Nat) (st : St) : evalCode P H own callF n (.exit id) none st = some (.exit id, st) := by rw [evalCode]
theorem ev_goto (l : Nat) (st : St) : evalCode P H own callF n (.goto l) none st = some (.goto l, st) := by rw [evalCode]
theorem ev_region (id : Nat) (ops : Array Oper) (st : St) : evalCode P H own callF n (.region id ops false) none st = (match evalOps P H own callF ops ops.toList st with
    | some st => some (.normal, canon (H.keep id) (softAll (H.soft id) st))
    | none => none) := by rw [evalCode]; rfl
theorem ev_draw (id : Nat) (ops : Array Oper) (st : St) : evalCode P H own callF n (.region id ops true) none st = (match evalDraw P H own callF id ops st with
    | some st => some (.normal, canon (H.keep id) (softAll (H.soft id) st))
    | none => none) := by rw [evalCode]; rfl
theorem ev_cond (c : Operand) (a b : Code) (st : St) : evalCode P H own callF n (.cond c a b) none st = (match opv st.fr c with
    | .bool true => evalCode P H own callF n a none st
    | .bool false => evalCode P H own callF n b none st
    | _ => none) := by rw [evalCode]; rfl
theorem ev_block (id : Nat) (b : Code) (st : St) : evalCode P H own callF n (.block id b) none st = (match evalCode P H own callF n b none st with
    | some (.exit id', st) => if id' = id then some (.normal, st) else some (.exit id', st)
    | r => r) := by rw [evalCode]; rfl
theorem ev_loop (b : Code) (st : St) : evalCode P H own callF n (.loop b) none st = iter (loopBody P H own callF n b) n st := by rw [evalCode]; rfl

/-- A loop whose states are told one by one. -/
theorem iter_count {body : St → Option (Ex × St)} (s : Nat → St) (out : Ex × St) : ∀ (N fuel : Nat) (st : St), st = s 0 → N < fuel → (∀ k, k < N → body (s k) = some (.normal, s (k + 1))) → body (s N) = some out → (out.1 = .normal → False) → iter body fuel st = some out
  | _, 0, _, _, h, _, _, _ => by omega
  | 0, fuel + 1, st, h0, _, _, he, hn => by
    subst h0
    simp only [iter, he]
    split
    · rename_i h; cases h; exact (hn rfl).elim
    · rfl
  | N + 1, fuel + 1, st, h0, hf, hs, he, hn => by
    subst h0
    simp only [iter, hs 0 (by omega)]
    exact iter_count (fun k => s (k + 1)) out N fuel _ rfl (by omega) (fun k hk => hs (k + 1) (by omega)) he hn
theorem wrap_id {x : Int} (h : -9223372036854775808 ≤ x ∧ x ≤ 9223372036854775807) : IntKind.i64.wrap x = x := by
  simp [IntKind.wrap, IntKind.signed, IntKind.bits]; omega
end Go.PS
end

section
/-
  The arguments read again behind the call as they did, whatever their types.
-/
namespace Go.PS
open Go Go.RowKit Go.ChangeShapes Go.WideShapes

/-- Every old block is as it was. -/
structure Old (W w' : World) : Prop where
  os : w'.os = W.os
  out : w'.output = W.output
  heap : ∀ b, b < W.heap.size → w'.heap[b]? = W.heap[b]?

theorem Old.kept {W w' : World} (h : Old W w') : Kept W w' :=
  ⟨⟨h.os, h.out, fun i hi => by
    rw [h.heap i hi]
    cases hx : W.heap[i]? with
    | none => rfl
    | some o => cases o <;> simp⟩, fun a ha => by simp only [World.frozen?, h.heap a.block ha]⟩

theorem Old.same {W w' : World} (h : Old W w') {p : MemPlace} (hp : p.block < W.heap.size) : W.sameAt w' p := by
  cases p with
  | cell b off => simp only [World.sameAt, World.cell?, h.heap b hp]
  | map b => exact h.heap b hp

section
variable {E : Type} {enc : TypeId × Value → E} {P : Program} {H : FuncId → Hint}

theorem law_old (Tb : Tabs P) (W : WF P H) (hprim : PrimSound P H) {n : Nat} {f : FuncId} {args : List PV} {hp' : Heap} {d : Bool}
    (h : evalCall P H n f args [] = some (.bool true, hp', d)) {us : Array Value} {w : World} (hs : us.size = args.length)
    (hV : ∀ (j : Nat) (u : Value) (y : PV), us[j]? = some u → args[j]? = some y → V (g0 w) w 0 u y) :
    Calls P f us w fun e w' => e = .returned (.bool true) ∧ Old w w' := by
  obtain ⟨_, hc⟩ := evalCall_sound Tb H W hprim n f args [] _ hp' d h (g0 w) w us (rel0 w) hs ⟨0, fun j u y _ h1 h2 => hV j u y h1 h2, fun u y h1 h2 => .of (hV 0 u y h1 h2)⟩
  refine hc.mono fun e w' ⟨v, g', he, _, x, hr⟩ => ?_
  have hv : v = .bool true := by
    cases hr with
    | of h => cases h; rfl
  subst hv
  exact ⟨he, x.os, x.out, fun b hb => (x.far b (.inl (by simp [g0, hb]))).heap⟩

theorem carry_all {w w' : World} {sp : Nat → Bool} {held : Bool} : ∀ {ts : List TypeId} {vs : List Value} {ds : List (DataW E)} {ps : List MemPlace},
    DataW.TrodAll enc P w 0 sp held ts vs ds ps → (∀ p ∈ ps, w.sameAt w' p) → DataW.TrodAll enc P w' 0 sp held ts vs ds ps
  | [], [], [], _, h, _ => h
  | _ :: _, _ :: _, _ :: _, _, ⟨p, q, ⟨n, h1⟩, h2, e⟩, hs =>
    ⟨p, q, ⟨n, DataW.trod_carry n _ _ _ h1 fun x hx => hs x (by rw [e]; exact List.mem_append_left _ hx)⟩, carry_all h2 (fun x hx => hs x (by rw [e]; exact List.mem_append_right _ hx)), e⟩

theorem args_again (hl : laidOutB P = true) (hm : mapsRowed P = true) (hz : ((List.range P.types.size).all fun t => match P.underlying t with | some (.slice e) => decide (0 < P.cellsOf e) | _ => true) = true)
    {W W' : World} (ho : Old W W') {ts : List TypeId} {vs : List Value} {ds : List (DataW E)} {ps : List MemPlace} (hts : ∀ t ∈ ts, t < P.types.size)
    (h : DataW.TrodAll enc P W 0 (fun _ => true) true ts vs ds ps) (sp : Nat → Bool) (hs : ∀ p ∈ ps, sp p.block = true) : DataW.TrodAll enc P W' 0 sp true ts vs ds ps :=
  carry_all (DataW.TrodAll.respare (kids_rows hl hm) (slices_full_of P hz) hts h hs) fun p hp => ho.same (h.lt p hp)
end
end Go.PS
end

section
/-
  Arguments of data: what trod reads, as the evaluator's values.
-/
namespace Go.PS
open Go Go.RowKit Go.ChangeShapes Go.WideShapes

/-- The evaluator's cells of a value of a type of data. -/
inductive Ty (P : Program) : TypeId → List PV → Prop where
  | int {T k n} (h : P.underlying T = some (.int k)) (hw : (Lit.int k n).wf = true) : Ty P T [.int k n]
  | bool {T b} (h : P.underlying T = some .bool) : Ty P T [.bool b]
  | str {T s} (h : P.underlying T = some .string) (hs : s.length ≤ maxLen) : Ty P T [.str s]
  | slice {T e} {rows : List (List PV)} (h : P.underlying T = some (.slice e)) (hn : rows.length ≤ maxLen) (hr : ∀ r ∈ rows, Ty P e r) : Ty P T [.sl .sh rows.length rows.flatten]
  | struct {T fs} {parts : List (List PV)} (h : P.underlying T = some (.struct fs)) (hl : parts.length = fs.size) (hp : ∀ (i : Nat) (f : Field) (p : List PV), fs[i]? = some f → parts[i]? = some p → Ty P f.type p) : Ty P T parts.flatten

/-- A type of data. -/
def dataT (P : Program) : Nat → TypeId → Bool
  | 0, _ => false
  | d + 1, t => decide (t < P.types.size) && match P.underlying t with
    | some (.int _) | some .bool | some .string => true
    | some (.slice e) => dataT P d e
    | some (.struct fs) => fs.toList.all fun f => dataT P d f.type
    | _ => false

def Vs (w : World) (cs : List Value) (ys : List PV) : Prop := ys.length = cs.length ∧ ∀ (j : Nat) (v : Value) (y : PV), cs[j]? = some v → ys[j]? = some y → V (g0 w) w 0 v y

theorem Vs.nil (w : World) : Vs w [] [] := ⟨rfl, fun j v y h => by simp at h⟩
theorem Vs.one {w : World} {v : Value} {y : PV} (h : V (g0 w) w 0 v y) : Vs w [v] [y] := ⟨rfl, fun j v' y' h1 h2 => by
  cases j with
  | zero => cases h1; cases h2; exact h
  | succ j => simp at h1⟩
theorem Vs.append {w : World} {cs cs' : List Value} {ys ys' : List PV} (h : Vs w cs ys) (h' : Vs w cs' ys') : Vs w (cs ++ cs') (ys ++ ys') := by
  refine ⟨by simp [h.1, h'.1], fun j v y h1 h2 => ?_⟩
  by_cases hj : j < cs.length
  · rw [List.getElem?_append_left hj] at h1
    rw [List.getElem?_append_left (by rw [h.1]; exact hj)] at h2
    exact h.2 j v y h1 h2
  · rw [List.getElem?_append_right (by omega)] at h1
    rw [List.getElem?_append_right (by rw [h.1]; omega), h.1] at h2
    exact h'.2 _ v y h1 h2

/-- A struct's parts, one behind the other. -/
theorem parts_of {P : Program} {w : World} {cs : List Value} : ∀ (fs : List Field) (off : Nat),
    (∀ (j : Nat) f, fs[j]? = some f → f.offset = off + ((fs.take j).map fun f => P.cellsOf f.type).sum) →
    cs.length = off + (fs.map fun f => P.cellsOf f.type).sum →
    (∀ f ∈ fs, ∃ ys, Ty P f.type ys ∧ Vs w ((cs.drop f.offset).take (P.cellsOf f.type)) ys) →
    ∃ parts : List (List PV), parts.length = fs.length ∧ (∀ (i : Nat) (f : Field) (p : List PV), fs[i]? = some f → parts[i]? = some p → Ty P f.type p) ∧ Vs w (cs.drop off) parts.flatten
  | [], off, _, hl, _ => ⟨[], rfl, fun i f p h => by simp at h, by
      have : cs.drop off = [] := by simp at hl; simp [hl]
      rw [this]; exact Vs.nil w⟩
  | f :: fs, off, ho, hl, hp => by
    have h0 : f.offset = off := by simpa using ho 0 f rfl
    obtain ⟨ys, ht, hv⟩ := hp f (by simp)
    rw [h0] at hv
    obtain ⟨parts, h1, h2, h3⟩ := parts_of (P := P) (w := w) (cs := cs) fs (off + P.cellsOf f.type) (fun j g hg => by
        have := ho (j + 1) g (by simpa using hg)
        rw [List.take_succ_cons, List.map_cons, List.sum_cons] at this
        omega) (by simp at hl; omega) (fun g hg => hp g (by simp [hg]))
    refine ⟨ys :: parts, by simp [h1], fun i g p hi hpi => ?_, ?_⟩
    · cases i with
      | zero => simp at hi hpi; subst hi; subst hpi; exact ht
      | succ i => exact h2 i g p (by simpa using hi) (by simpa using hpi)
    · have e : cs.drop off = (cs.drop off).take (P.cellsOf f.type) ++ cs.drop (off + P.cellsOf f.type) := by
        rw [← List.drop_drop, List.take_append_drop]
      rw [e]
      exact hv.append h3

section
variable {E : Type} {enc : TypeId × Value → E} {P : Program} {w : World} {sp : Nat → Bool} {held : Bool}

/-- A slice's rows, one behind the other, in memory. -/
theorem rows_of {e : TypeId} {a : Addr} (hz : 0 < P.cellsOf e) : ∀ (n : Nat),
    (∀ i, i < n → ∃ cs ys, w.cells? 0 (a.add (i * P.cellsOf e)) (P.cellsOf e) = some cs ∧ Ty P e ys ∧ Vs w cs ys) →
    ∃ rows : List (List PV), rows.length = n ∧ (∀ r ∈ rows, Ty P e r) ∧ rows.flatten.length = n * P.cellsOf e ∧
      ∀ (j : Nat) (y : PV), rows.flatten[j]? = some y → ∃ v, w.cell? (a.add j) = some v ∧ V (g0 w) w 0 v y
  | 0, _ => ⟨[], rfl, fun r h => by simp at h, by simp, fun j y h => by simp at h⟩
  | n + 1, h => by
    obtain ⟨rows, h1, h2, h3, h4⟩ := rows_of hz n fun i hi => h i (by omega)
    obtain ⟨cs, ys, hc, ht, hv⟩ := h n (by omega)
    obtain ⟨_, hl, hg⟩ := World.cells?_some hc
    refine ⟨rows ++ [ys], by simp [h1], fun r hr => ?_, ?_, fun j y hj => ?_⟩
    · rcases List.mem_append.1 hr with hr | hr
      · exact h2 r hr
      · simp at hr; subst hr; exact ht
    · simp [h3, hv.1, hl, Nat.add_mul]
    · rw [List.flatten_append] at hj
      by_cases hlt : j < n * P.cellsOf e
      · rw [List.getElem?_append_left (by rw [h3]; exact hlt)] at hj
        exact h4 j y hj
      · rw [List.getElem?_append_right (by rw [h3]; omega), h3] at hj
        simp only [List.flatten_cons, List.flatten_nil, List.append_nil] at hj
        have hb : j - n * P.cellsOf e < P.cellsOf e := by
          have := (List.getElem?_eq_some_iff.1 hj).1
          rw [hv.1, hl] at this; exact this
        have hcell := hg (j - n * P.cellsOf e) hb
        have ea : (a.add (n * P.cellsOf e)).add (j - n * P.cellsOf e) = a.add j := by
          rw [Addr.add_add]; congr 1; omega
        rw [ea] at hcell
        have hlt2 : j - n * P.cellsOf e < cs.length := by omega
        rw [List.getElem?_eq_getElem hlt2] at hcell
        exact ⟨_, hcell, hv.2 _ _ y (List.getElem?_eq_getElem hlt2) hj⟩

theorem mapM_each {α β : Type} {f : α → Option β} {l : List α} {r : List β} (h : l.mapM f = some r) : ∀ (i : Nat) x, l[i]? = some x → ∃ y, r[i]? = some y ∧ f x = some y := fun i x hx => by
  have := mapM_some_get h i x hx
  have hl := mapM_some_length h
  have hlt : i < r.length := by rw [hl]; exact (List.getElem?_eq_some_iff.1 hx).1
  rw [List.getElem?_eq_getElem hlt] at this
  exact ⟨_, List.getElem?_eq_getElem hlt, this⟩

theorem trod_V (hl : laidOutB P = true) (hz : ∀ t e, t < P.types.size → P.underlying t = some (.slice e) → 0 < P.cellsOf e) : ∀ (d n : Nat) (t : TypeId) (cs : List Value) (x : DataW E × List MemPlace),
    dataT P d t = true → DataW.trod enc P w 0 sp held n t cs = some x → ∃ ys, Ty P t ys ∧ Vs w cs ys
  | 0, _, _, _, _, h, _ => by cases h
  | d + 1, n, t, cs, x, hd, h => by
    simp only [dataT, Bool.and_eq_true, decide_eq_true_eq] at hd
    obtain ⟨htl, hd⟩ := hd
    cases hu : P.underlying t with
    | none => rw [hu] at hd; cases hd
    | some u =>
      rw [hu] at hd
      cases u <;> simp only at hd
      all_goals try (cases hd; done)
      case bool =>
        obtain ⟨b, rfl, _⟩ := DataW.trod_bool hu h
        exact ⟨_, .bool hu, .one (.bool _)⟩
      case int k =>
        obtain ⟨m, rfl, _, hw⟩ := DataW.trod_int hu h
        exact ⟨_, .int hu hw, .one (.int _ _)⟩
      case string =>
        obtain ⟨s, rfl, _, hs⟩ := DataW.trod_string hu h
        exact ⟨_, .str hu (by simpa using hs), .one (.str _)⟩
      case slice e =>
        rcases DataW.trod_slice hu h with ⟨rfl, _⟩ | ⟨a, len, cap, elems, rest, m, _, rfl, _, _, hle, hcap, hlen, hel, _⟩
        · exact ⟨_, .slice (rows := []) hu (by simp) (by simp), .one (.sl0 _ _)⟩
        · obtain ⟨rows, h1, h2, h3, h4⟩ := rows_of (P := P) (w := w) (e := e) (a := a) (hz t e htl hu) len fun i hi => by
            have := hel i hi
            rw [List.getElem?_eq_getElem (by omega)] at this
            simp only [Option.bind_eq_some_iff] at this
            obtain ⟨c, hc, ht⟩ := this
            obtain ⟨ys, hy, hv⟩ := trod_V hl hz d m e c _ hd ht
            exact ⟨c, ys, hc, hy, hv⟩
          refine ⟨_, .slice (rows := rows) hu (by omega) h2, .one ?_⟩
          by_cases h0 : len = 0
          · have hr : rows = [] := List.length_eq_zero_iff.1 (by omega)
            subst hr; subst h0
            exact .sh0 _ _
          · have hpos : 0 < rows.flatten.length := by rw [h3]; exact Nat.mul_pos (by omega) (hz t e htl hu)
            obtain ⟨v0, hv0, _⟩ := h4 0 _ (List.getElem?_eq_getElem hpos)
            have hsp : a.spot = none := by
              have e0 : a.add 0 = a := by simp [Addr.add]
              rw [e0] at hv0
              unfold World.cell? at hv0
              split at hv0
              · split at hv0
                · cases hv0
                · rename_i hs; simpa using hs
              · cases hv0
            have ea : ∀ j, a.add j = ⟨a.block, a.off + j, none⟩ := fun j => by
              unfold Addr.add
              split
              · rename_i hj; subst hj; cases a; simp at hsp; subst hsp; rfl
              · rfl
            have e1 : a = ⟨a.block, a.off, none⟩ := by cases a; simp at hsp; subst hsp; rfl
            rw [e1, h1]
            exact .sl _ _ _ _ _ _ (fun j => (w.cell? ⟨a.block, a.off + j, none⟩).getD Go.undef) (.inl rfl) hle
              (fun j y hj => by
                obtain ⟨v, hv, _⟩ := h4 j y hj
                rw [ea] at hv
                exact ⟨by simp [g0, hv], by simp [hv]⟩)
              (fun j y hj => by
                obtain ⟨v, hv, hV⟩ := h4 j y hj
                rw [ea] at hv
                simpa [hv] using hV)
      case struct fs =>
        obtain ⟨xs, m, _, _, hlen, hxl, hxs⟩ := DataW.trod_struct hu h
        obtain ⟨k1, k2, k3⟩ := kid_struct hl htl hu
        obtain ⟨parts, p1, p2, p3⟩ := parts_of (P := P) (w := w) (cs := cs) fs.toList 0 (fun j f hf => by simpa using k3 j f hf) (by omega) fun f hf => by
          obtain ⟨i, hi, rfl⟩ := List.mem_iff_getElem.1 hf
          have := hxs i fs.toList[i] (by simp [Array.getElem?_eq_getElem (by simpa using hi)])
          rw [List.getElem?_eq_getElem (by rw [hxl]; simpa using hi)] at this
          exact trod_V hl hz d m _ _ _ (List.all_eq_true.1 hd _ hf) this
        exact ⟨_, .struct (parts := parts) hu (by simpa using p1) (fun i f p hi hp => p2 i f p (by simpa using hi) hp), by simpa using p3⟩
end
end Go.PS
end

section
/-
  A law, whatever its parameters' types of data are.
-/
namespace Go.PS
open Go Go.RowKit Go.ChangeShapes Go.WideShapes

/-- The evaluator's value of an argument. -/
def TyA (P : Program) (t : TypeId) (y : PV) : Prop := match P.underlying t with
  | some (.struct _) => ∃ cs, y = .agg cs ∧ Ty P t cs
  | _ => Ty P t [y]

section
variable {E : Type} {enc : TypeId × Value → E} {P : Program} {w : World} {sp : Nat → Bool} {held : Bool} {H : FuncId → Hint}

theorem arg_V (hl : laidOutB P = true) (hz : ∀ t e, t < P.types.size → P.underlying t = some (.slice e) → 0 < P.cellsOf e) {d : Nat} {t : TypeId} {v : Value} {x : DataW E} {ps : List MemPlace} {r : Reach} {b0 : Nat}
    (hd : dataT P d t = true) (hval : Value.okWide P w r b0 t v) (h : DataW.Trod enc P w 0 sp held t v x ps) : ∃ y, TyA P t y ∧ V (g0 w) w 0 v y := by
  obtain ⟨n, h⟩ := h
  obtain ⟨ys, ht, hv⟩ := trod_V hl hz d n t _ _ hd h
  cases d with
  | zero => cases hd
  | succ d =>
    simp only [dataT, Bool.and_eq_true, decide_eq_true_eq] at hd
    unfold TyA
    cases hu : P.underlying t with
    | none => rw [hu] at hd; cases hd.2
    | some u =>
      rw [hu] at hd
      have one : v.cells.toList = [v] → ∃ y, Ty P t [y] ∧ V (g0 w) w 0 v y := fun hc => by
        rw [hc] at hv
        have hlen := hv.1
        cases ys with
        | nil => simp at hlen
        | cons y ys =>
          have : ys = [] := by simpa using hlen
          subst this
          exact ⟨y, ht, hv.2 0 v y rfl rfl⟩
      cases u <;> simp only at hd ⊢
      all_goals try (cases hd.2; done)
      case bool => obtain ⟨b, rfl⟩ := okWide_bool hu hval; exact one rfl
      case int k => obtain ⟨b, rfl⟩ := okWide_int hu hval; exact one rfl
      case string => obtain ⟨b, rfl⟩ := okWide_string hu hval; exact one rfl
      case slice e => obtain ⟨a, l, c, rfl⟩ := okWide_slice hu hval; exact one rfl
      case struct fs =>
        obtain ⟨cs, rfl, _⟩ := okWide_struct hu hval
        exact ⟨.agg ys, ⟨ys, rfl, ht⟩, .agg _ _ (by simpa [Value.cells] using hv.1.symm) fun j u y h1 h2 => hv.2 j u y (by simpa [Value.cells] using h1) h2⟩

/-- All arguments. -/
theorem args_V (hl : laidOutB P = true) (hz : ∀ t e, t < P.types.size → P.underlying t = some (.slice e) → 0 < P.cellsOf e) {d : Nat} {r : Reach} {b0 : Nat} : ∀ {ts : List TypeId} {vs : List Value} {ds : List (DataW E)} {ps : List MemPlace},
    (∀ t ∈ ts, dataT P d t = true) → (∀ (j : Nat) t v, ts[j]? = some t → vs[j]? = some v → Value.okWide P w r b0 t v) → DataW.TrodAll enc P w 0 sp held ts vs ds ps →
    ∃ ys : List PV, ys.length = ts.length ∧ vs.length = ts.length ∧ (∀ (j : Nat) t y, ts[j]? = some t → ys[j]? = some y → TyA P t y) ∧ ∀ (j : Nat) v y, vs[j]? = some v → ys[j]? = some y → V (g0 w) w 0 v y
  | [], [], [], _, _, _, _ => ⟨[], rfl, rfl, fun j t y h => by simp at h, fun j v y h => by simp at h⟩
  | t :: ts, v :: vs, _ :: _, _, hd, hval, ⟨p, q, h1, h2, _⟩ => by
    obtain ⟨y, hy, hV⟩ := arg_V hl hz (hd t (by simp)) (hval 0 t v rfl rfl) h1
    obtain ⟨ys, l1, l2, l3, l4⟩ := args_V hl hz (fun t ht => hd t (by simp [ht])) (fun j t v ht hv => hval (j + 1) t v (by simpa using ht) (by simpa using hv)) h2
    refine ⟨y :: ys, by simp [l1], by simp [l2], fun j t y h h' => ?_, fun j v y h h' => ?_⟩
    · cases j with
      | zero => cases h; cases h'; exact hy
      | succ j => exact l3 j t y (by simpa using h) (by simpa using h')
    · cases j with
      | zero => cases h; cases h'; exact hV
      | succ j => exact l4 j v y (by simpa using h) (by simpa using h')
end
attribute [irreducible] TyA
end Go.PS
end

section
/-
  More rules: loops by a measure, wraps.
-/
namespace Go.PS

/-- A loop with an invariant and a measure. -/
theorem iter_post {body : St → Option (Ex × St)} {α β : Type} (s : α → St) (I : α → Prop) (μ : α → Nat) (o : β → Ex × St) (J : β → Prop)
    (hs : ∀ x, I x → (∃ y, body (s x) = some (.normal, s y) ∧ I y ∧ μ y < μ x) ∨ (∃ y, body (s x) = some (o y) ∧ ((o y).1 = .normal → False) ∧ J y)) :
    ∀ {fuel : Nat} {st : St} {r : Option (Ex × St)}, iter body fuel st = r → ∀ x, st = s x → I x → μ x < fuel → ∃ y, r = some (o y) ∧ J y
  | 0, _, _, _, _, _, _, h => by omega
  | fuel + 1, _, r, hr, x, h0, hi, hf => by
    subst h0
    rcases hs x hi with ⟨y, h1, h2, h3⟩ | ⟨y, h1, h2, h3⟩
    · simp only [iter, h1] at hr
      exact iter_post s I μ o J hs hr y rfl h2 (by omega)
    · refine ⟨y, ?_, h3⟩
      simp only [iter, h1] at hr
      rw [← hr]
      split
      · rename_i h
        simp only [Option.some.injEq] at h
        exact (h2 (by rw [h])).elim
      · rfl

theorem iter_elim {body : St → Option (Ex × St)} {fuel : Nat} {st : St} {r : Option (Ex × St)} (hit : iter body fuel st = r) {Q : Prop} {α β : Type} (s : α → St) (I : α → Prop) (μ : α → Nat) (o : β → Ex × St) (J : β → Prop) (x : α) (h0 : st = s x) (hi : I x) (hf : μ x < fuel)
    (hs : ∀ x, I x → (∃ y, body (s x) = some (.normal, s y) ∧ I y ∧ μ y < μ x) ∨ (∃ y, body (s x) = some (o y) ∧ ((o y).1 = .normal → False) ∧ J y))
    (k : ∀ y, r = some (o y) → J y → Q) : Q := by
  obtain ⟨y, h1, h2⟩ := iter_post s I μ o J hs hit x h0 hi hf
  exact k y h1 h2
theorem wrap_u64 (x : Int) : IntKind.u64.wrap x = x % 18446744073709551616 := by
  simp [IntKind.wrap, IntKind.signed, IntKind.bits]
theorem wrap_u8 (x : Int) : IntKind.u8.wrap x = x % 256 := by
  simp [IntKind.wrap, IntKind.signed, IntKind.bits]
def condB (v : PV) (a b : Option (Ex × St)) : Option (Ex × St) := match v with
  | .bool true => a
  | .bool false => b
  | _ => none
def blockEx (id : Nat) (x : Option (Ex × St)) : Option (Ex × St) := match x with
  | some (.exit id', st) => if id' = id then some (.normal, st) else some (.exit id', st)
  | r => r
def fin (P : Program) (rs : List ResultVar) (x : Option (Ex × St)) : Option (PV × Heap × Bool) := match x with
  | some (.normal, st) | some (.ret, st) => (match takeRs P st rs with
    | some (st, v) => some (v, st.hp, st.dirty)
    | none => none)
  | _ => none
@[congr] theorem condB_congr {x y : PV} {a b : Option (Ex × St)} (h : x = y) : condB x a b = condB y a b := by rw [h]
@[congr] theorem omap_congr {α β : Type} {x y : Option α} {f : α → β} (h : x = y) : Option.map f x = Option.map f y := by rw [h]
@[congr] theorem fin_congr {P : Program} {fn : List ResultVar} {x y : Option (Ex × St)} (h : x = y) : fin P fn x = fin P fn y := by rw [h]
@[congr] theorem blockEx_congr {id : Nat} {x y : Option (Ex × St)} (h : x = y) : blockEx id x = blockEx id y := by rw [h]
theorem cb_true (a b : Option (Ex × St)) : condB (.bool true) a b = a := rfl
theorem cb_false (a b : Option (Ex × St)) : condB (.bool false) a b = b := rfl
theorem be_exit (id i : Nat) (st : St) : blockEx id (some (.exit i, st)) = if i = id then some (.normal, st) else some (.exit i, st) := rfl
theorem be_normal (id : Nat) (st : St) : blockEx id (some (.normal, st)) = some (.normal, st) := rfl
theorem be_goto (id i : Nat) (st : St) : blockEx id (some (.goto i, st)) = some (.goto i, st) := rfl
theorem be_ret (id : Nat) (st : St) : blockEx id (some (.ret, st)) = some (.ret, st) := rfl
theorem fin_ret (P : Program) (fn : List ResultVar) (st : St) : fin P fn (some (.ret, st)) = (takeRs P st fn).map fun r => (r.2, r.1.hp, r.1.dirty) := by
  simp only [fin]; cases takeRs P st fn <;> rfl
theorem fin_normal (P : Program) (fn : List ResultVar) (st : St) : fin P fn (some (.normal, st)) = (takeRs P st fn).map fun r => (r.2, r.1.hp, r.1.dirty) := by
  simp only [fin]; cases takeRs P st fn <;> rfl
section
variable {P : Program} {H : Hint} {own : FuncId → Option Nat} {callF : CallF} {n : Nat}
def seqK (P : Program) (H : Hint) (own : FuncId → Option Nat) (callF : CallF) (n : Nat) (x : Option (Ex × St)) (b : Code) : Option (Ex × St) := match x with
  | some (.normal, st) => evalCode P H own callF n b none st
  | r => r
theorem xv_seq (a b : Code) (st : St) : evalCode P H own callF n (.seq a b) none st = seqK P H own callF n (evalCode P H own callF n a none st) b := ev_seq a b st
theorem sk_normal (b : Code) (st : St) : seqK P H own callF n (some (.normal, st)) b = evalCode P H own callF n b none st := rfl
theorem sk_exit (b : Code) (st : St) (i : Nat) : seqK P H own callF n (some (.exit i, st)) b = some (.exit i, st) := rfl
theorem sk_goto (b : Code) (st : St) (i : Nat) : seqK P H own callF n (some (.goto i, st)) b = some (.goto i, st) := rfl
theorem sk_ret (b : Code) (st : St) : seqK P H own callF n (some (.ret, st)) b = some (.ret, st) := rfl
@[congr] theorem seqK_congr {x y : Option (Ex × St)} {b : Code} (h : x = y) : seqK P H own callF n x b = seqK P H own callF n y b := by rw [h]
def opsK (P : Program) (H : Hint) (own : FuncId → Option Nat) (callF : CallF) (ops : Array Oper) (x : Option St) (rest : List Oper) : Option St := match x with
  | some st => evalOps P H own callF ops rest st
  | none => none
def regK (keep : List Nat) (soft : List (Nat × Option Nat)) (x : Option St) : Option (Ex × St) := match x with
  | some st => some (.normal, canon keep (softAll soft st))
  | none => none
theorem ok_some (ops : Array Oper) (rest : List Oper) (st : St) : opsK P H own callF ops (some st) rest = evalOps P H own callF ops rest st := rfl
theorem rk_some (keep : List Nat) (soft : List (Nat × Option Nat)) (st : St) : regK keep soft (some st) = some (.normal, canon keep (softAll soft st)) := rfl
@[congr] theorem opsK_congr {x y : Option St} {ops : Array Oper} {rest : List Oper} (h : x = y) : opsK P H own callF ops x rest = opsK P H own callF ops y rest := by rw [h]
@[congr] theorem regK_congr {x y : Option St} {keep : List Nat} {soft : List (Nat × Option Nat)} (h : x = y) : regK keep soft x = regK keep soft y := by rw [h]
theorem xo_nil (ops : Array Oper) (st : St) : evalOps P H own callF ops [] st = some st := rfl
theorem xo_cons (ops : Array Oper) (o : Oper) (rest : List Oper) (st : St) : evalOps P H own callF ops (o :: rest) st = (match wantedP ops st.fr o with
    | some true => opsK P H own callF ops (stepOp P H own callF st o) rest
    | some false => evalOps P H own callF ops rest (setSlot st o.dst (.raw (.tuple #[])))
    | none => none) := by rw [evalOps]; rfl
theorem xv_region (id : Nat) (ops : Array Oper) (st : St) : evalCode P H own callF n (.region id ops false) none st = regK (H.keep id) (H.soft id) (evalOps P H own callF ops ops.toList st) := ev_region id ops st
theorem xv_draw (id : Nat) (ops : Array Oper) (st : St) : evalCode P H own callF n (.region id ops true) none st = regK (H.keep id) (H.soft id) (evalDraw P H own callF id ops st) := ev_draw id ops st
def drK (P : Program) (H : Hint) (own : FuncId → Option Nat) (callF : CallF) (ops : Array Oper) (free : List Nat) (i : Nat) (rest : List Oper) (cls : List (Nat × Cl)) (x : Option (St × Cl)) : Option (St × List (Nat × Cl)) := match x with
  | some (st, c) => evalD P H own callF ops free (i + 1) rest ((i, c) :: cls) st
  | none => none
def drS (P : Program) (H : Hint) (own : FuncId → Option Nat) (callF : CallF) (ops : Array Oper) (free : List Nat) (i : Nat) (rest : List Oper) (cls : List (Nat × Cl)) (x : Option St) : Option (St × List (Nat × Cl)) := match x with
  | some st => evalD P H own callF ops free (i + 1) rest cls st
  | none => none
theorem dk_some (ops : Array Oper) (free : List Nat) (i : Nat) (rest : List Oper) (cls : List (Nat × Cl)) (st : St) (c : Cl) : drK P H own callF ops free i rest cls (some (st, c)) = evalD P H own callF ops free (i + 1) rest ((i, c) :: cls) st := rfl
theorem ds_some (ops : Array Oper) (free : List Nat) (i : Nat) (rest : List Oper) (cls : List (Nat × Cl)) (st : St) : drS P H own callF ops free i rest cls (some st) = evalD P H own callF ops free (i + 1) rest cls st := rfl
@[congr] theorem drK_congr {ops : Array Oper} {free : List Nat} {i : Nat} {rest : List Oper} {cls : List (Nat × Cl)} {x y : Option (St × Cl)} (h : x = y) : drK P H own callF ops free i rest cls x = drK P H own callF ops free i rest cls y := by rw [h]
@[congr] theorem drS_congr {ops : Array Oper} {free : List Nat} {i : Nat} {rest : List Oper} {cls : List (Nat × Cl)} {x y : Option St} (h : x = y) : drS P H own callF ops free i rest cls x = drS P H own callF ops free i rest cls y := by rw [h]
theorem xd_nil (ops : Array Oper) (free : List Nat) (i : Nat) (cls : List (Nat × Cl)) (st : St) : evalD P H own callF ops free i [] cls st = some (st, cls) := rfl
theorem xd_cons (ops : Array Oper) (free : List Nat) (i : Nat) (o : Oper) (rest : List Oper) (cls : List (Nat × Cl)) (st : St) : evalD P H own callF ops free i (o :: rest) cls st =
    if free.contains i = true then drK P H own callF ops free i rest cls (gD P H own callF ops st o) else drS P H own callF ops free i rest cls (gS P H own callF ops st o) := by rw [evalD]; rfl
def chkK (pairs : List (Nat × Nat)) (x : Option (St × List (Nat × Cl))) : Option St := match x with
  | some (st, cls) => if pairs.all (fun p => !clash (clOf cls p.1) (clOf cls p.2)) then some st else none
  | none => none
theorem ck_some (pairs : List (Nat × Nat)) (st : St) (cls : List (Nat × Cl)) : chkK pairs (some (st, cls)) = if pairs.all (fun p => !clash (clOf cls p.1) (clOf cls p.2)) then some st else none := rfl
@[congr] theorem chkK_congr {pairs : List (Nat × Nat)} {x y : Option (St × List (Nat × Cl))} (h : x = y) : chkK pairs x = chkK pairs y := by rw [h]
theorem xd_draw (id : Nat) (ops : Array Oper) (st : St) : evalDraw P H own callF id ops st = chkK (H.pairs id) (evalD P H own callF ops (H.free id) 0 ops.toList [] st) := rfl
theorem xv_cond (c : Operand) (a b : Code) (st : St) : evalCode P H own callF n (.cond c a b) none st = condB (opv st.fr c) (evalCode P H own callF n a none st) (evalCode P H own callF n b none st) := ev_cond c a b st
theorem xv_block (id : Nat) (b : Code) (st : St) : evalCode P H own callF n (.block id b) none st = blockEx id (evalCode P H own callF n b none st) := ev_block id b st
end
theorem evalCall_at {P : Program} {H : FuncId → Hint} {f : FuncId} {hint : Hint} {fn : Func} {body : Code} {rs : List ResultVar} (n : Nat) (args : List PV) (hp : Heap) (h0 : H f = hint) (h1 : hint.prim = none) (h2 : P.funcs[f]? = some fn) (h3 : fn.body = some body) (h4 : args.length ≤ fn.ntmps) (h5 : fn.results.toList = rs) :
    evalCall P H (n + 1) f args hp = fin P rs (evalCode P hint (fun f => (H f).own) (evalCall P H n) n body none { fr := args.zipIdx.map (fun (v, i) => (i, v)), hp := hp, base := hp.length, dirty := false }) := by
  rw [← h5, evalCall, h0, h1, h2]
  simp only [h3]
  rw [if_neg (by omega)]
  rfl
def fstR (x : Option (PV × Heap × Bool)) : Option PV := match x with
  | some r => some r.1
  | none => none
@[congr] theorem fstR_congr {x y : Option (PV × Heap × Bool)} (h : x = y) : fstR x = fstR y := by rw [h]
theorem fstR_some (r : PV × Heap × Bool) : fstR (some r) = some r.1 := rfl
theorem of_map {x : Option (PV × Heap × Bool)} {v : PV} (h : fstR x = some v) : ∃ hp d, x = some (v, hp, d) := by
  match x, h with
  | some (a, b, c), h => simp [fstR] at h; subst h; exact ⟨b, c, rfl⟩
theorem fits_at {P : Program} {t : TypeId} {z : List PV} {B : Nat} (hz : zeroT P t = some z) (h : ((P.info? t).map fun i => (i.bytes, decide (0 < i.bytes ∧ z.length = i.size))) = some (B, true)) (m : Nat) : fits P t m = decide (m * B ≤ 140737488355328) := by
  unfold fits
  cases hi : P.info? t with
  | none => rw [hi] at h; cases h
  | some i =>
    rw [hi] at h
    simp only [Option.map_some, Option.some.injEq, Prod.mk.injEq, decide_eq_true_eq] at h
    obtain ⟨rfl, h1, h2⟩ := h
    simp [hz, h1, h2]
theorem any_at {P : Program} {t : TypeId} {B : Nat} (h : ((P.info? t).map fun i => i.bytes) = some B) (n : Int) : (P.info? t).any (fun i => decide ((i.bytes : Int) * n ≤ 140737488355328)) = decide ((B : Int) * n ≤ 140737488355328) := by
  cases hi : P.info? t with
  | none => rw [hi] at h; cases h
  | some i =>
    rw [hi] at h
    simp only [Option.map_some, Option.some.injEq] at h
    subst h
    rfl
theorem tm {a : Int} (b : Int) (h : 0 ≤ a) : a.tmod b = a % b := Int.tmod_eq_emod_of_nonneg h
theorem td {a : Int} (b : Int) (h : 0 ≤ a) : a.tdiv b = a / b := Int.tdiv_eq_ediv_of_nonneg h
theorem fd {a : Int} {b : Int} (h : 0 ≤ b) : a.fdiv b = a / b := Int.fdiv_eq_ediv_of_nonneg _ h
theorem tmod_emod {a c d : Int} (h : c ≠ 0) : (a % c).tmod d = a % c % d := tm d (Int.emod_nonneg a h)
attribute [simp] fstR_some loopBody firstReg IntKind.bits IntKind.signed tmod_emod
attribute [simp] ownPart dSlice1 dMake sk_normal sk_exit sk_goto sk_ret cb_true cb_false be_exit be_normal be_goto be_ret fin_ret fin_normal xv_seq xv_region xv_draw xv_cond xv_block ok_some rk_some xo_nil xo_cons dk_some ds_some xd_nil xd_cons xd_draw ck_some gD gS stepD stepD1 dA dPure dCall dLoad dStore dAssign dAlloc dBuild dSlice dAppend idle Oper.looksAt Op.operands Call.operands known rooty touch plainOp depth foot rootS refOf viewH refH okOp okArgs okV clash clOf isView isMu shares appAt ev_skip ev_ret ev_exit ev_goto ev_loop stepOp stepA wantedP PS.get opv setSlot setFr Kill.on viewSlot bin binI noOwn assign preShare canon softAll soft1 keepRef takeRs takeOut take takeV ofConst takeL cellsOf storable out retag outCell
  drop killFr buildOp boxOp placeOf buildL splice lasting callOp takeArgs plain plainA plain1 conv un load nav rootPV putRoot put store killOf PV.kids PV.withKids fieldOf wrap_u64 wrap_u8 moveOut Kill.hits eqVal asInt minL maxL takeRes takeMany viewCell shr shareCells content navS lenOf indexAddr indexVal sliceOp bounds bound lowB copyTo copySrc copyOp appendGo appendOp shareAt shareRange fillP binS
end Go.PS
end

section
/-
  The evaluator's values of an argument, by its type.
-/
namespace Go.PS
open Go
variable {P : Program} {t : TypeId} {y : PV}
theorem inv_int {k : IntKind} (h : P.underlying t = some (.int k)) (hy : TyA P t y) : ∃ v, y = .int k v ∧ (Lit.int k v).wf = true := by
  unfold TyA at hy; rw [h] at hy
  simp only at hy
  generalize hz : [y] = z at hy
  cases hy with
  | int h' hw => rw [h] at h'; cases h'; cases hz; exact ⟨_, rfl, hw⟩
  | bool h' => rw [h] at h'; cases h'
  | str h' hs => rw [h] at h'; cases h'
  | slice h' _ _ => rw [h] at h'; cases h'
  | struct h' _ _ => rw [h] at h'; cases h'
theorem inv_str (h : P.underlying t = some .string) (hy : TyA P t y) : ∃ s, y = .str s ∧ s.length ≤ maxLen := by
  unfold TyA at hy; rw [h] at hy
  simp only at hy
  generalize hz : [y] = z at hy
  cases hy with
  | int h' hw => rw [h] at h'; cases h'
  | bool h' => rw [h] at h'; cases h'
  | str h' hs => cases hz; exact ⟨_, rfl, hs⟩
  | slice h' _ _ => rw [h] at h'; cases h'
  | struct h' _ _ => rw [h] at h'; cases h'
theorem inv_slice {e : TypeId} (h : P.underlying t = some (.slice e)) (hy : TyA P t y) : ∃ rows : List (List PV), y = .sl .sh rows.length rows.flatten ∧ rows.length ≤ maxLen ∧ ∀ r ∈ rows, Ty P e r := by
  unfold TyA at hy; rw [h] at hy
  simp only at hy
  generalize hz : [y] = z at hy
  cases hy with
  | int h' hw => rw [h] at h'; cases h'
  | bool h' => rw [h] at h'; cases h'
  | str h' hs => rw [h] at h'; cases h'
  | slice h' h1 h2 => rw [h] at h'; cases h'; cases hz; exact ⟨_, rfl, h1, h2⟩
  | struct h' _ _ => rw [h] at h'; cases h'
theorem ty_int {k : IntKind} {cs : List PV} (h : P.underlying t = some (.int k)) (hy : Ty P t cs) : ∃ v, cs = [.int k v] ∧ (Lit.int k v).wf = true := by
  cases hy with
  | int h' hw => rw [h] at h'; cases h'; exact ⟨_, rfl, hw⟩
  | bool h' => rw [h] at h'; cases h'
  | str h' hs => rw [h] at h'; cases h'
  | slice h' _ _ => rw [h] at h'; cases h'
  | struct h' _ _ => rw [h] at h'; cases h'
theorem ty_str {cs : List PV} (h : P.underlying t = some .string) (hy : Ty P t cs) : ∃ s, cs = [.str s] ∧ s.length ≤ maxLen := by
  cases hy with
  | int h' hw => rw [h] at h'; cases h'
  | bool h' => rw [h] at h'; cases h'
  | str h' hs => exact ⟨_, rfl, hs⟩
  | slice h' _ _ => rw [h] at h'; cases h'
  | struct h' _ _ => rw [h] at h'; cases h'
theorem ty_bool {cs : List PV} (h : P.underlying t = some .bool) (hy : Ty P t cs) : ∃ b, cs = [.bool b] := by
  cases hy with
  | int h' hw => rw [h] at h'; cases h'
  | bool h' => exact ⟨_, rfl⟩
  | str h' hs => rw [h] at h'; cases h'
  | slice h' _ _ => rw [h] at h'; cases h'
  | struct h' _ _ => rw [h] at h'; cases h'
theorem ty_slice {e : TypeId} {cs : List PV} (h : P.underlying t = some (.slice e)) (hy : Ty P t cs) : ∃ rows : List (List PV), cs = [.sl .sh rows.length rows.flatten] ∧ rows.length ≤ maxLen ∧ ∀ r ∈ rows, Ty P e r := by
  cases hy with
  | int h' hw => rw [h] at h'; cases h'
  | bool h' => rw [h] at h'; cases h'
  | str h' hs => rw [h] at h'; cases h'
  | slice h' h1 h2 => rw [h] at h'; cases h'; exact ⟨_, rfl, h1, h2⟩
  | struct h' _ _ => rw [h] at h'; cases h'
theorem ty_struct {fs : Array Field} {cs : List PV} (h : P.underlying t = some (.struct fs)) (hy : Ty P t cs) : ∃ parts : List (List PV), cs = parts.flatten ∧ parts.length = fs.size ∧ ∀ (i : Nat) (f : Field) (p : List PV), fs[i]? = some f → parts[i]? = some p → Ty P f.type p := by
  cases hy with
  | int h' hw => rw [h] at h'; cases h'
  | bool h' => rw [h] at h'; cases h'
  | str h' hs => rw [h] at h'; cases h'
  | slice h' _ _ => rw [h] at h'; cases h'
  | struct h' h1 h2 => rw [h] at h'; cases h'; exact ⟨_, rfl, h1, h2⟩
theorem inv_struct {fs : Array Field} (h : P.underlying t = some (.struct fs)) (hy : TyA P t y) : ∃ cs, y = .agg cs ∧ Ty P t cs := by
  unfold TyA at hy; rw [h] at hy
  exact hy
/-- Rows, each read. -/
theorem rows_map {e : TypeId} {α : Type} {f : α → List PV} {Q : α → Prop} (hr1 : ∀ r, Ty P e r → ∃ a, r = f a ∧ Q a) : ∀ rows : List (List PV), (∀ r ∈ rows, Ty P e r) → ∃ l : List α, l.length = rows.length ∧ rows.flatten = l.flatMap f ∧ ∀ a ∈ l, Q a
  | [], _ => ⟨[], rfl, rfl, fun v h => by simp at h⟩
  | r :: rows, hr => by
    obtain ⟨l, h1, h2, h3⟩ := rows_map hr1 rows fun r h => hr r (by simp [h])
    obtain ⟨a, rfl, hq⟩ := hr1 r (hr r (by simp))
    exact ⟨a :: l, by simp [h1], by simp [h2], fun v hv => by
      rcases List.mem_cons.1 hv with rfl | hv
      · exact hq
      · exact h3 v hv⟩
theorem inv_rows {e : TypeId} {α : Type} {f : α → List PV} {Q : α → Prop} (h : P.underlying t = some (.slice e)) (hr1 : ∀ r, Ty P e r → ∃ a, r = f a ∧ Q a) (hy : TyA P t y) : ∃ l : List α, y = .sl .sh l.length (l.flatMap f) ∧ l.length ≤ maxLen ∧ ∀ a ∈ l, Q a := by
  obtain ⟨rows, rfl, h1, h2⟩ := inv_slice h hy
  obtain ⟨l, l1, l2, l3⟩ := rows_map hr1 rows h2
  exact ⟨l, by rw [l1, l2], by omega, l3⟩
/-- Rows of numbers. -/
theorem rows_int {e : TypeId} {k : IntKind} (h : P.underlying e = some (.int k)) : ∀ rows : List (List PV), (∀ r ∈ rows, Ty P e r) → ∃ l : List Int, l.length = rows.length ∧ rows.flatten = l.map (PV.int k) ∧ ∀ v ∈ l, (Lit.int k v).wf = true
  | [], _ => ⟨[], rfl, rfl, fun v h => by simp at h⟩
  | r :: rows, hr => by
    obtain ⟨l, h1, h2, h3⟩ := rows_int h rows fun r h => hr r (by simp [h])
    have h0 := hr r (by simp)
    cases h0 with
    | @int _ _ v h' hw =>
      rw [h] at h'; cases h'
      exact ⟨v :: l, by simp [h1], by simp [h2], fun v hv => by
        rcases List.mem_cons.1 hv with rfl | hv
        · exact hw
        · exact h3 v hv⟩
    | bool h' => rw [h] at h'; cases h'
    | str h' hs => rw [h] at h'; cases h'
    | slice h' _ _ => rw [h] at h'; cases h'
    | struct h' _ _ => rw [h] at h'; cases h'
theorem inv_ints {e : TypeId} {k : IntKind} (h : P.underlying t = some (.slice e)) (he : P.underlying e = some (.int k)) (hy : TyA P t y) : ∃ l : List Int, y = .sl .sh l.length (l.map (PV.int k)) ∧ l.length ≤ maxLen ∧ ∀ v ∈ l, (Lit.int k v).wf = true := by
  obtain ⟨rows, rfl, h1, h2⟩ := inv_slice h hy
  obtain ⟨l, l1, l2, l3⟩ := rows_int he rows h2
  exact ⟨l, by rw [l1, l2], by omega, l3⟩
end Go.PS
end

section
/-
  Rows of cells, one behind the other.
-/
namespace Go.PS
theorem flat_len {α : Type} {f : α → List PV} {k : Nat} (hk : ∀ x, (f x).length = k) (l : List α) : (l.flatMap f).length = l.length * k := by
  induction l with
  | nil => simp
  | cons a l ih => simp [ih, hk, Nat.succ_mul]; omega
theorem flat_drop {α : Type} {f : α → List PV} {k : Nat} (hk : ∀ x, (f x).length = k) (l : List α) (i : Nat) : (l.flatMap f).drop (i * k) = (l.drop i).flatMap f := by
  induction l generalizing i with
  | nil => simp
  | cons a l ih =>
    cases i with
    | zero => simp
    | succ i =>
      rw [List.flatMap_cons, List.drop_succ_cons, ← ih i, List.drop_append, hk]
      rw [List.drop_eq_nil_of_le (by rw [hk, Nat.succ_mul]; omega), List.nil_append]
      congr 1
      rw [Nat.succ_mul]; omega
theorem flat_take {α : Type} {f : α → List PV} {k : Nat} (hk : ∀ x, (f x).length = k) (l : List α) (i : Nat) : (l.flatMap f).take (i * k) = (l.take i).flatMap f := by
  induction l generalizing i with
  | nil => simp
  | cons a l ih =>
    cases i with
    | zero => simp
    | succ i =>
      rw [List.flatMap_cons, List.take_succ_cons, List.flatMap_cons, ← ih i, List.take_append, hk]
      rw [List.take_of_length_le (by rw [hk, Nat.succ_mul]; omega)]
      congr 2
      rw [Nat.succ_mul]; omega
theorem flat_get {α : Type} {f : α → List PV} {k : Nat} (hk : ∀ x, (f x).length = k) (l : List α) (i : Nat) (h : i < l.length) (c : Nat) (hc : c < k) : (l.flatMap f)[i * k + c]? = (f l[i])[c]? := by
  rw [← List.getElem?_drop, flat_drop hk, List.drop_eq_getElem_cons h, List.flatMap_cons, List.getElem?_append_left (by rw [hk]; exact hc)]
theorem flat_row {α : Type} {f : α → List PV} {k : Nat} (hk : ∀ x, (f x).length = k) (l : List α) (i : Nat) (h : i < l.length) : ((l.flatMap f).drop (i * k)).take k = f l[i] := by
  rw [flat_drop hk, List.drop_eq_getElem_cons h, List.flatMap_cons, List.take_append, hk, Nat.sub_self, List.take_zero, List.append_nil, List.take_of_length_le (by rw [hk]; omega)]
theorem flat_all {α : Type} {f : α → List PV} (h : ∀ x, (f x).all storable = true) (l : List α) : (l.flatMap f).all storable = true := by
  induction l with
  | nil => rfl
  | cons a l ih => rw [List.flatMap_cons, List.all_append, h, ih]; rfl
theorem flat_out {α : Type} {f : α → List PV} (h : ∀ x, (f x).map outCell = f x) (l : List α) : (l.flatMap f).map outCell = l.flatMap f := by
  induction l with
  | nil => rfl
  | cons a l ih => rw [List.flatMap_cons, List.map_append, h, ih]
theorem map_all {α : Type} {f : α → PV} (h : ∀ x, storable (f x) = true) (l : List α) : (l.map f).all storable = true := by
  induction l with
  | nil => rfl
  | cons a l ih => rw [List.map_cons, List.all_cons, h, ih]; rfl
theorem map_out {α : Type} {f : α → PV} (h : ∀ x, outCell (f x) = f x) (l : List α) : (l.map f).map outCell = l.map f := by
  induction l with
  | nil => rfl
  | cons a l ih => rw [List.map_cons, List.map_cons, h, ih]
end Go.PS
end

section
/-
  Scopes: a jump back to a label.
-/
namespace Go.PS
section
variable {P : Program} {H : Hint} {own : FuncId → Option Nat} {callF : CallF} {n : Nat}
theorem xs_some (a b : Code) (l : Nat) (st : St) : evalCode P H own callF n (.seq a b) (some l) st = if hasLabel l a = true then seqK P H own callF n (evalCode P H own callF n a (some l) st) b else evalCode P H own callF n b (some l) st := by
  rw [evalCode]; rfl
theorem xl_none (l : Nat) (st : St) : evalCode P H own callF n (.label l) none st = some (.normal, st) := by rw [evalCode]
theorem xl_some (l' l : Nat) (st : St) : evalCode P H own callF n (.label l') (some l) st = if l' = l then some (.normal, st) else none := by rw [evalCode]
theorem xv_scope (b : Code) (st : St) : evalCode P H own callF n (.scope b) none st = scopeIter (evalCode P H own callF n b) (fun l => hasLabel l b) H.head n none st := by rw [evalCode]
end
theorem scope_start {f : Option Nat → St → Option (Ex × St)} {has : Nat → Bool} {head : Nat → List Nat} {k : Nat} {st st' : St} (l : Nat) (h : f none st = f (some l) st') : scopeIter f has head (k + 1) none st = scopeIter f has head (k + 1) (some l) st' := by
  simp only [scopeIter, h]
theorem scope_post {f : Option Nat → St → Option (Ex × St)} {has : Nat → Bool} {head : Nat → List Nat} {l : Nat} {α β : Type} (s : α → St) (I : α → Prop) (μ : α → Nat) (o : β → Ex × St) (J : β → Prop) (hl : has l = true)
    (hs : ∀ x r, I x → f (some l) (s x) = r → (∃ y st, r = some (.goto l, st) ∧ canon (head (1000 + l)) st = s y ∧ I y ∧ μ y < μ x) ∨ (∃ y, r = some (o y) ∧ (∀ l', (o y).1 = .goto l' → False) ∧ J y)) :
    ∀ {fuel : Nat} {st : St} {r : Option (Ex × St)}, scopeIter f has head fuel (some l) st = r → ∀ x, st = s x → I x → μ x < fuel → ∃ y, r = some (o y) ∧ J y
  | 0, _, _, _, _, _, _, h => by omega
  | fuel + 1, _, r, hr, x, h0, hi, hf => by
    subst h0
    rcases hs x _ hi rfl with ⟨y, st, h1, h2, h3, h4⟩ | ⟨y, h1, h2, h3⟩
    · simp only [scopeIter, h1, hl, if_true, h2] at hr
      exact scope_post s I μ o J hl hs hr y rfl h3 (by omega)
    · refine ⟨y, ?_, h3⟩
      simp only [scopeIter, h1] at hr
      rw [← hr]
      split
      · rename_i h
        simp only [Option.some.injEq] at h
        exact (h2 _ (by rw [h])).elim
      · rfl
theorem scope_elim {f : Option Nat → St → Option (Ex × St)} {has : Nat → Bool} {head : Nat → List Nat} {l fuel : Nat} {st : St} {r : Option (Ex × St)} (hit : scopeIter f has head fuel (some l) st = r) {Q : Prop} {α β : Type} (s : α → St) (I : α → Prop) (μ : α → Nat) (o : β → Ex × St) (J : β → Prop) (x : α) (hl : has l = true) (h0 : st = s x) (hi : I x) (hf : μ x < fuel)
    (hs : ∀ x r, I x → f (some l) (s x) = r → (∃ y st, r = some (.goto l, st) ∧ canon (head (1000 + l)) st = s y ∧ I y ∧ μ y < μ x) ∨ (∃ y, r = some (o y) ∧ (∀ l', (o y).1 = .goto l' → False) ∧ J y))
    (k : ∀ y, r = some (o y) → J y → Q) : Q := by
  obtain ⟨y, h1, h2⟩ := scope_post s I μ o J hl hs hit x h0 hi hf
  exact k y h1 h2
attribute [simp] xs_some xl_none xl_some xv_scope hasLabel
end Go.PS
end

section
/-
  slices.Clone: whatever the slice is, nil or not.
-/
namespace Go.PS
open Go
def cloneCode (T B : TypeId) (p0 p1 p2 p3 : String) : Code :=
  (Code.region 0 #[{ dst := some 2, op := Op.assign (Operand.const (Value.slice none 0 0)), type := T, pos := p0, after := #[], guard := none }] false).seq
    (((Code.region 1
        #[{ dst := some 3, op := Op.move (Operand.tmp 0), type := T, pos := p1, after := #[], guard := none },
          { dst := some 4, op := Op.binOp BinOp.eql T (Operand.tmp 3) (Operand.const (Value.slice none 0 0)) T, type := B, pos := p1, after := #[{ on := 0, ground := Ground.data }], guard := none }] false).seq
      (Code.cond (Operand.tmp 4)
        ((Code.region 2 #[{ dst := some 2, op := Op.assign (Operand.const (Value.slice none 0 0)), type := T, pos := p2, after := #[], guard := none }] false).seq Code.ret)
        Code.skip)).seq
    ((Code.region 3
        #[{ dst := some 5, op := Op.buildSlice T 0 #[], type := T, pos := p3, after := #[], guard := none },
          { dst := some 6, op := Op.move (Operand.tmp 0), type := T, pos := p3, after := #[], guard := none },
          { dst := some 7, op := Op.call { callee := Callee.builtin Builtin.append, args := #[Operand.tmp 5, Operand.tmp 6], argTypes := #[T, T] }, type := T, pos := p3, after := #[{ on := 0, ground := Ground.data }, { on := 1, ground := Ground.data }], guard := none },
          { dst := some 2, op := Op.assign (Operand.tmp 7), type := T, pos := p3, after := #[{ on := 2, ground := Ground.data }, { on := 2, ground := Ground.chain }, { on := 0, ground := Ground.phase }, { on := 1, ground := Ground.phase }, { on := 2, ground := Ground.phase }], guard := none }] false).seq Code.ret))
def cloneKeep : Nat → List Nat
  | 0 => [0]
  | 1 => [0, 4]
  | _ => [2]
def cloneHint : Hint := { keep := cloneKeep, head := fun _ => [], box := fun _ => false }
section
variable {g g' : G} {w : World} {P : Program} {H : FuncId → Hint}
theorem eql_nil {T e : TypeId} {a : Option Addr} {n c : Nat} (h : P.underlying T = some (.slice e)) (ox oy : Operand) :
    (do eqGuard .eql T ox oy (.slice a n c) (.slice none 0 0); Go.binOp .eql T (.slice a n c) (.slice none 0 0) : Sem Value).run P w = .ok (.bool a.isNone) w := by
  have h1 : ∀ m, (Op.equalIn (m + 1) T (.slice a n c) (.slice none 0 0)).run P w = .ok a.isNone w := fun m => by
    cases a <;> simp [Op.equalIn, run_underlying h]
  have h3 : Go.binOp .eql T (.slice a n c) (.slice none 0 0) = (do pure (.bool (← Op.equal T (.slice a n c) (.slice none 0 0)))) := rfl
  rw [h3]
  simp [eqGuard, run_equal h1, go_sem]
/-- The end of a function. -/
theorem finish_wp (Tb : Tabs P) {fn : Func} {args : List PV} {hp hp' : Heap} {r : PV} {d : Bool} {us : Array Value} {st0 st1 : St} {g0 : G} {a' : Act} {w' : World} {e : Ex} (he : e = .normal ∨ e = .ret)
    (hst : st0 = { fr := args.zipIdx.map (fun (v, i) => (i, v)), hp := hp, base := hp.length, dirty := false })
    (X0 : X hp.length false g w hp g0 w hp)
    (A : After st0 st1 g0 { tmps := us ++ Array.replicate (fn.ntmps - us.size) Go.undef, defers := [] } w a' w')
    (ht : (match takeRs P st1 fn.results.toList with | some (st, v) => some (v, st.hp, st.dirty) | none => none) = some (r, hp', d)) :
    bodyPost P fn (fun e w' => ∃ v g', e = .returned v ∧ Rel g' w' #[] [] hp' ∧ X hp.length d g w hp g' w' hp' ∧ ResV g' w' hp'.length v r) (exOf e) a' w' := by
  subst hst
  obtain ⟨⟨g1, R1, S1⟩, hsz, hdf⟩ := A
  split at ht
  · rename_i st2 v htr
    cases ht
    obtain ⟨hall, g2, R2, S2, hres⟩ := takeRs_sound Tb R1 htr
    have S := S1.trans S2
    have hpost : a'.defers = [] ∧ ∃ v, (results fn a'.tmps).run P w' = .ok v w' ∧ ∃ v' g', Ending.returned v = .returned v' ∧ Rel g' w' #[] [] st2.hp ∧ X hp.length st2.dirty g w hp g' w' st2.hp ∧ ResV g' w' st2.hp.length v' r := by
      refine ⟨hdf, _, results_run hall, _, g2, rfl, R2.finish, ?_, hres⟩
      exact (X0.trans S.x).weaken (by simp)
    rcases he with rfl | rfl <;> exact hpost
  · cases ht
theorem nocall : CallSound P (fun _ _ _ => none) := fun f args hp r hp' d h => by cases h
theorem clone_sound (Tb : Tabs P) (hmix : P.follows .mixedOrders = true) {f : FuncId} {fn : Func} {T B e : TypeId} {p0 p1 p2 p3 : String} {s : Nat} {z : List PV}
    (hfn : P.funcs[f]? = some fn) (hname : fn.name ≠ "runtime.NumGoroutine") (hbody : fn.body = some (cloneCode T B p0 p1 p2 p3)) (hnt : fn.ntmps = 8) (hrs : fn.results.toList = [.tmp 2])
    (hT : P.underlying T = some (.slice e)) (hs : sizeT P e = s) (hz : zeroT P e = some z) (hzl : z.length = s) (hfit : ∀ m, m ≤ 4194304 → fits P e m = true) :
    CallSound P fun f' args hp => if f' = f then primCall (1, s) args hp else none := by
  intro f' args hp r hp' d h g w us R hus hA
  by_cases hf : f' = f
  · subst hf
    simp only [if_true] at h
    obtain ⟨n, cs, rfl⟩ : ∃ n cs, args = [.sl .sh n cs] := by
      unfold primCall at h
      split at h
      · exact ⟨_, _, rfl⟩
      · cases h
    by_cases hcnd : n ≤ 4194304 ∧ cs.length = n * s ∧ cs.all storable = true
    · simp only [primCall, if_pos hcnd, Option.some.injEq, Prod.mk.injEq] at h
      obtain ⟨rfl, rfl, rfl⟩ := h
      obtain ⟨hn, hcl, hca⟩ := hcnd
      have hel : elemT P T = some e := by unfold elemT; rw [hT]
      have hcf : (callFunc f' us).run P w = .ok (.enter f' us) w := by
        simp [callFunc, hfn, hname, hbody, run_program]
      refine ⟨hcf, calls_of_wp hfn hbody ?_⟩
      obtain ⟨g0, R0, X0⟩ := R.startArgs (base := hp.length) (d := false) hus hA (fn.ntmps - us.size)
      have hus1 : us.size = 1 := hus
      have hsz0 : (us ++ Array.replicate (fn.ntmps - us.size) Go.undef).size = fn.ntmps := by simp; omega
      have hdraw := drawOK Tb hmix (nocall (P := P)) fn.ntmps (H := cloneHint) (own := fun _ => none)
      obtain ⟨st0, hst0⟩ : ∃ st0 : St, st0 = { fr := [(0, .sl .sh n cs)], hp := hp, base := hp.length, dirty := false } := ⟨_, rfl⟩
      have e0 : evalCode P cloneHint (fun _ => none) (fun _ _ _ => none) 5 (.region 0 #[{ dst := some 2, op := Op.assign (Operand.const (Value.slice none 0 0)), type := T, pos := p0, after := #[], guard := none }] false) none st0 = some (.normal, st0) := by
        rw [hst0]
        simp [cloneHint, cloneKeep, hel, hs]
      refine wp_seq (evalCode_sound Tb nocall hdraw 5 _ (st := st0) (st' := st0) (by rw [hnt]; rfl) hsz0 (by rw [hst0]; exact R0) (by rw [hst0]; exact Nat.le_refl _) e0 fun a1 w1 A1 => ?_)
      obtain ⟨⟨g1, R1, S1⟩, hz1, hd1⟩ := A1
      refine wp_seq (wp_seq (wp_region_list ?_))
      refine wpList_step fun K hK => ?_
      rw [wanted_sound (b := true) R1 rfl]
      simp only [if_true]
      obtain ⟨st2, hst2⟩ : ∃ st2 : St, st2 = { fr := [(3, .sl .sh n cs), (0, .sl .sh n cs)], hp := hp, base := hp.length, dirty := false } := ⟨_, rfl⟩
      have hsz1 : a1.tmps.size = fn.ntmps := hz1.trans hsz0
      have s0 : stepOp P cloneHint (fun _ => none) (fun _ _ _ => none) st0 { dst := some 3, op := Op.move (Operand.tmp 0), type := T, pos := p1, after := #[], guard := none } = some st2 := by
        rw [hst0, hst2]; simp
      refine (stepOp_sound (a := a1) Tb R1 (by rw [hst0]; exact Nat.le_refl _) nocall (fun d h => by cases h; rw [hsz1, hnt]; decide) s0).wp fun v2 w2 ⟨g2, R2, S2⟩ => hK _ _ ?_
      have hsz2 : (a1.put (some 3) v2).tmps.size = fn.ntmps := by rw [← hsz1]; simp [Act.put]
      have hd2 : (a1.put (some 3) v2).defers = a1.defers := rfl
      generalize a1.put (some 3) v2 = a2 at *
      refine wpList_step fun K hK => ?_
      rw [wanted_sound (b := true) R2 rfl]
      simp only [if_true]
      have hslot := R2.slots 3
      rw [hst2] at hslot
      simp only [PS.get, if_true] at hslot
      obtain ⟨bl, hbl, hbn⟩ : ∃ b : Bool, (execOp a2.eval { dst := some 4, op := Op.binOp BinOp.eql T (Operand.tmp 3) (Operand.const (Value.slice none 0 0)) T, type := B, pos := p1, after := #[{ on := 0, ground := Ground.data }], guard := none }).run P w2 = .ok (.value (.bool b)) w2 ∧ (b = true → n = 0 ∧ cs = []) := by
        have ev : a2.eval (.tmp 3) = a2.tmps.getD 3 Go.undef := rfl
        rcases hslot.sl_inv.row with ⟨h1, h2, a, cap, hv, _⟩ | ⟨b, o, cap, hv, _⟩
        · refine ⟨a.isNone, ?_, fun _ => ⟨h1, h2⟩⟩
          have := eql_nil (w := w2) (a := a) (n := 0) (c := cap) hT (.tmp 3) (.const (.slice none 0 0))
          simp only [execOp, ev, hv]
          have ev2 : a2.eval (.const (.slice none 0 0)) = .slice none 0 0 := rfl
          rw [ev2, Sem.run_bind, this]
          rfl
        · refine ⟨false, ?_, fun h => by cases h⟩
          have := eql_nil (w := w2) (a := some ⟨b, o, none⟩) (n := n) (c := cap) hT (.tmp 3) (.const (.slice none 0 0))
          simp only [execOp, ev, hv]
          have ev2 : a2.eval (.const (.slice none 0 0)) = .slice none 0 0 := rfl
          rw [ev2, Sem.run_bind, this]
          rfl
      obtain ⟨st3, hst3⟩ : ∃ st3 : St, st3 = { fr := [(4, .bool bl), (3, .sl .sh n cs), (0, .sl .sh n cs)], hp := hp, base := hp.length, dirty := false } := ⟨_, rfl⟩
      have R3 := R2.putFlat (a := a2) (dst := some 4) (fun d h => by cases h; omega) (fun t => (V.bool bl).slot t) (V.bool (g := g2) (w := w2) (hn := st2.hp.length) bl).lv
      refine (Runs.value hbl (K := fun v w' => v = .bool bl ∧ w' = w2) ⟨rfl, rfl⟩).wp fun v3 w3 ⟨hv3, hw3⟩ => hK _ _ ?_
      subst hv3; subst hw3
      have hsz3 : (a2.put (some 4) (.bool bl)).tmps.size = fn.ntmps := by rw [← hsz2]; simp [Act.put]
      have hd3 : (a2.put (some 4) (.bool bl)).defers = a2.defers := rfl
      generalize a2.put (some 4) (.bool bl) = a3 at *
      refine wpList_nil ?_
      have hb3 : (setSlot st2 (some 4) (.bool bl)).base ≤ (setSlot st2 (some 4) (.bool bl)).hp.length := by rw [hst2]; exact Nat.le_refl _
      have S3 : StepR st2 (setSlot st2 (some 4) (.bool bl)) g2 w3 g2 w3 := (StepR.refl _ _ _).setSlot _ _
      have Sall := S1.trans (S2.trans S3)
      have hszall : a3.tmps.size = (us ++ Array.replicate (fn.ntmps - us.size) Go.undef).size := hsz3.trans hsz0.symm
      have hdall : a3.defers = [] := hd3.trans (hd2.trans hd1)
      cases bl with
      | true =>
        obtain ⟨rfl, rfl⟩ := hbn rfl
        obtain ⟨st4, hst4⟩ : ∃ st4 : St, st4 = { fr := [(2, .sl (.mu s) 0 [])], hp := hp, base := hp.length, dirty := false } := ⟨_, rfl⟩
        have e4 : evalCode P cloneHint (fun _ => none) (fun _ _ _ => none) 5 (.cond (.tmp 4) ((Code.region 2 #[{ dst := some 2, op := Op.assign (Operand.const (Value.slice none 0 0)), type := T, pos := p2, after := #[], guard := none }] false).seq Code.ret) Code.skip) none (setSlot st2 (some 4) (.bool true)) = some (.ret, st4) := by
          rw [hst2, hst4]
          simp [cloneHint, cloneKeep, hel, hs]
        refine evalCode_sound Tb nocall hdraw 5 _ (st' := st4) (e := .ret) (by rw [hnt]; rfl) hsz3 R3 hb3 e4 fun a4 w4 ⟨⟨g4, R4, S4⟩, hz4, hd4⟩ => ?_
        exact finish_wp Tb (args := [.sl .sh 0 []]) (e := .ret) (st1 := st4) (.inr rfl) (by rw [hst0]; rfl) X0 ⟨⟨g4, R4, Sall.trans S4⟩, hz4.trans hszall, hd4.trans hdall⟩ (by rw [hrs, hst4]; simp)
      | false =>
        have e4 : evalCode P cloneHint (fun _ => none) (fun _ _ _ => none) 5 (.cond (.tmp 4) ((Code.region 2 #[{ dst := some 2, op := Op.assign (Operand.const (Value.slice none 0 0)), type := T, pos := p2, after := #[], guard := none }] false).seq Code.ret) Code.skip) none (setSlot st2 (some 4) (.bool false)) = some (.normal, setSlot st2 (some 4) (.bool false)) := by
          rw [hst2]
          simp
        refine evalCode_sound Tb nocall hdraw 5 _ (e := .normal) (by rw [hnt]; rfl) hsz3 R3 hb3 e4 fun a4 w4 ⟨⟨g4, R4, S4⟩, hz4, hd4⟩ => ?_
        obtain ⟨st5, hst5⟩ : ∃ st5 : St, st5 = { fr := [(2, .sl (.mu s) n (cs.map outCell))], hp := hp, base := hp.length, dirty := false } := ⟨_, rfl⟩
        have hfn' := hfit n hn
        have e5 : evalCode P cloneHint (fun _ => none) (fun _ _ _ => none) 5 ((Code.region 3
            #[{ dst := some 5, op := Op.buildSlice T 0 #[], type := T, pos := p3, after := #[], guard := none },
              { dst := some 6, op := Op.move (Operand.tmp 0), type := T, pos := p3, after := #[], guard := none },
              { dst := some 7, op := Op.call { callee := Callee.builtin Builtin.append, args := #[Operand.tmp 5, Operand.tmp 6], argTypes := #[T, T] }, type := T, pos := p3, after := #[{ on := 0, ground := Ground.data }, { on := 1, ground := Ground.data }], guard := none },
              { dst := some 2, op := Op.assign (Operand.tmp 7), type := T, pos := p3, after := #[{ on := 2, ground := Ground.data }, { on := 2, ground := Ground.chain }, { on := 0, ground := Ground.phase }, { on := 1, ground := Ground.phase }, { on := 2, ground := Ground.phase }], guard := none }] false).seq Code.ret) none (setSlot st2 (some 4) (.bool false)) = some (.ret, st5) := by
          rw [hst2, hst5]
          simp [cloneHint, cloneKeep, hel, hs, hz, hzl, hcl, hca, hfn']
          generalize List.map outCell cs = l
          clear hcl hca hs hzl
          cases s <;> cases n <;> cases l <;> rfl
        refine evalCode_sound Tb nocall hdraw 5 _ (st' := st5) (e := .ret) (by rw [hnt]; rfl) (hz4.trans hsz3) R4 (S4.baseOk hb3) e5 fun a5 w5 ⟨⟨g5, R5, S5⟩, hz5, hd5⟩ => ?_
        exact finish_wp Tb (args := [.sl .sh n cs]) (e := .ret) (st1 := st5) (.inr rfl) (by rw [hst0]; rfl) X0 ⟨⟨g5, R5, Sall.trans (S4.trans S5)⟩, (hz5.trans hz4).trans hszall, (hd5.trans hd4).trans hdall⟩ (by rw [hrs, hst5]; simp)
    · simp only [primCall, if_neg hcnd] at h; cases h
  · simp only [if_neg hf] at h; cases h
end
end Go.PS
end
