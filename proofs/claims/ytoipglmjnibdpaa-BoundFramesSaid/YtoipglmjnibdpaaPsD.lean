/-
  An evaluator of the model on pure values, and its soundness: what evalCall answers for a function and its arguments, the function returns in the model, and nothing older turns. Part 4 of 4.
-/
import Derived.Test.YtoipglmjnibdpaaPsC
import Derived.ChangeMade
import Derived.RowKit3
import Derived.ChangeSame

section
namespace Go.PS
open Go
/-- Where the first answers, the second answers the same. -/
def Le {α : Type} (x y : Option α) : Prop := ∀ i, x = some i → y = some i
theorem Le.rfl' {α : Type} (x : Option α) : Le x x := fun _ h => h
theorem Le.bind {α β : Type} {x y : Option α} {f g : α → Option β} (h : Le x y) (h' : ∀ a, Le (f a) (g a)) : Le (x >>= f) (y >>= g) := by
  intro i hi
  simp only [Bind.bind, Option.bind_eq_some_iff] at hi ⊢
  obtain ⟨a, ha, hi⟩ := hi
  exact ⟨a, h a ha, h' a i hi⟩
theorem Le.map {α β : Type} {x y : Option α} {f : α → β} (h : Le x y) : Le (x.map f) (y.map f) := by
  intro i hi
  simp only [Option.map_eq_some_iff] at hi ⊢
  obtain ⟨a, ha, hi⟩ := hi
  exact ⟨a, h a ha, hi⟩
theorem Le.mapM {α β : Type} {f g : α → Option β} (h : ∀ a, Le (f a) (g a)) : ∀ l : List α, Le (l.mapM f) (l.mapM g)
  | [] => Le.rfl' _
  | a :: l => by
    rw [List.mapM_cons, List.mapM_cons]
    exact Le.bind (h a) fun b => Le.bind (Le.mapM h l) fun _ => Le.rfl' _
theorem Le.forIn {α β : Type} {f g : α → β → Option (ForInStep β)} (h : ∀ a b, Le (f a b) (g a b)) : ∀ (l : List α) (b : β), Le (forIn l b f) (forIn l b g)
  | [], _ => Le.rfl' _
  | a :: l, b => by
    rw [List.forIn_cons, List.forIn_cons]
    exact Le.bind (h a b) fun r => by
      cases r with
      | done b => exact Le.rfl' _
      | yield b => exact Le.forIn h l b
theorem Le.forInA {α β : Type} {f g : α → β → Option (ForInStep β)} (h : ∀ a b, Le (f a b) (g a b)) (l : Array α) (b : β) : Le (ForIn.forIn l b f) (ForIn.forIn l b g) := by
  rw [← Array.forIn_toList, ← Array.forIn_toList]; exact Le.forIn h _ _
section
variable {info info' : TypeId → Option TypeInfo} (h : ∀ t, Le (info t) (info' t))
include h
theorem reckonStruct_mono (fs : Array Field) : Le (Made.reckonStruct info fs) (Made.reckonStruct info' fs) := by
  unfold Made.reckonStruct
  refine Le.bind (Le.forInA (fun f b => ?_) _ _) fun _ => Le.rfl' _
  repeat' (first | exact Le.rfl' _ | exact h _ | (refine Le.bind ?_ fun _ => ?_) | split)
theorem funcStr_mono (ps : Array TypeId) (rs : Array TypeId) (v : Bool) : Le (Made.funcStr info ps rs v) (Made.funcStr info' ps rs v) := by
  unfold Made.funcStr
  repeat' (first | exact Le.rfl' _ | exact h _ | exact Le.map (h _) | (refine Le.mapM (fun _ => ?_) _) | (refine Le.bind ?_ fun _ => ?_) | split)
theorem reckon_mono (d : TypeDesc) : Le (Made.reckon info d) (Made.reckon info' d) := by
  unfold Made.reckon
  cases d <;> simp only
  all_goals first | exact reckonStruct_mono h _ | (repeat' (first | exact Le.rfl' _ | exact h _ | exact funcStr_mono h _ _ _ | exact Le.map (h _) | (refine Le.bind ?_ fun _ => ?_) | split)) | skip
end
theorem infoAt_mono (T : Tables) : ∀ n t, Le (Made.infoAt T n t) (Made.infoAt T (n + 1) t)
  | 0, t => fun i hi => by unfold Made.infoAt at hi; cases hi
  | n + 1, t => by
    unfold Made.infoAt
    split
    · exact Le.rfl' _
    · cases Made.decode (t - T.types.size) with
      | none => exact Le.rfl' _
      | some d => exact reckon_mono (infoAt_mono T n) d
theorem infoAt_succ {T : Tables} {n t : Nat} {i : TypeInfo} (h : Made.infoAt T n t = some i) : Made.infoAt T (n + 1) t = some i :=
  infoAt_mono T n t i h
theorem info_of99 {P : Program} {t : TypeId} {i : TypeInfo} (h : Made.infoAt P.toTables 99 t = some i) : P.info? t = some i := by
  unfold Tables.info?
  split
  · rename_i ht; unfold Made.infoAt at h; rwa [if_pos ht] at h
  · exact infoAt_succ h

theorem forIn_inv {α β : Type} {f : α → β → Option (ForInStep β)} {I : β → Prop} (hstep : ∀ a b r, f a b = some r → I b → I r.value) : ∀ (l : List α) (b r : β), forIn l b f = some r → I b → I r
  | [], b, r, h, hb => by simp at h; cases h; exact hb
  | a :: l, b, r, h, hb => by
    rw [List.forIn_cons] at h
    simp only [bind, Option.bind_eq_some_iff] at h
    obtain ⟨x, hx, h⟩ := h
    have hI := hstep a b x hx hb
    cases x with
    | done x => simp at h; cases h; exact hI
    | yield x => exact forIn_inv hstep l x r h hI

theorem push_inv {info : TypeId → Option TypeInfo} {o : Array Field} {f g : Field} {i : TypeInfo} (hi : info f.type = some i) (ht : g.type = f.type) (h : ∀ f ∈ o, ∃ j, info f.type = some j) : ∀ f ∈ o.push g, ∃ j, info f.type = some j := by
  intro x hx
  rcases Array.mem_push.1 hx with hx | hx
  · exact h x hx
  · subst hx; exact ⟨i, ht ▸ hi⟩

theorem reckonStruct_desc {info : TypeId → Option TypeInfo} {fs : Array Field} {i : TypeInfo} (h : Made.reckonStruct info fs = some i) : ∃ out : Array Field, i.desc = .struct out ∧ ∀ f ∈ out, ∃ j, info f.type = some j := by
  unfold Made.reckonStruct at h
  simp only [bind, Option.bind_eq_some_iff, pure] at h
  obtain ⟨a, ha, h⟩ := h
  have : ∀ f ∈ a.1, ∃ j, info f.type = some j := by
    rw [← Array.forIn_toList] at ha
    refine forIn_inv (I := fun s => ∀ f ∈ s.1, ∃ j, info f.type = some j) ?_ _ _ _ ha (by simp)
    intro f b r hr hb
    simp only [Option.bind_eq_some_iff] at hr
    obtain ⟨i, hi, hr⟩ := hr
    repeat' split at hr
    all_goals simp only [Option.bind_eq_some_iff, Option.bind_some, Option.some.injEq, reduceCtorEq, false_and, exists_false] at hr
    all_goals try (obtain ⟨_, _, hr⟩ := hr)
    all_goals try subst hr
    all_goals first | exact push_inv hi rfl hb | skip
    all_goals (split at hr <;> (cases hr; exact push_inv hi rfl hb))
  split at h <;> (cases h; exact ⟨_, rfl, this⟩)

theorem reckon_info {info : TypeId → Option TypeInfo} {d : TypeDesc} {i : TypeInfo} (h : Made.reckon info d = some i) :
    (∀ e, i.desc = .slice e → ∃ j, info e = some j) ∧ (∀ n e, i.desc = .array n e → ∃ j, info e = some j ∧ i.size = n * j.size) ∧ (∀ fs, i.desc = .struct fs → ∀ f ∈ fs, ∃ j, info f.type = some j) := by
  unfold Made.reckon at h
  split at h
  all_goals try simp only [bind, Option.bind_eq_some_iff, pure] at h
  case h_7 =>
    obtain ⟨out, h1, h2⟩ := reckonStruct_desc h
    refine ⟨fun e he => ?_, fun n e he => ?_, fun fs hf => ?_⟩
    · rw [h1] at he; cases he
    · rw [h1] at he; cases he
    · rw [h1] at hf; cases hf; exact h2
  all_goals repeat' first
    | (obtain ⟨_, _, h⟩ := h)
    | (split at h)
  all_goals try simp only [Option.bind_eq_some_iff] at h
  all_goals try (obtain ⟨_, _, h⟩ := h)
  all_goals try cases h
  all_goals refine ⟨fun e he => ?_, fun n e he => ?_, fun fs hf => ?_⟩
  all_goals try (cases he; done)
  all_goals try (cases hf; done)
  all_goals (cases he; first | exact ⟨_, by assumption⟩ | exact ⟨_, by assumption, rfl⟩)

def tabT (P : Program) (T : TypeId) : Bool :=
  (P.underlying T).isSome &&
  match P.underlying T with
  | some (.slice e) => (P.info? e).isSome
  | some (.array n e) => (match P.info? e, P.info? T with | some i, some j => decide (j.size = n * i.size) | _, _ => false)
  | some (.struct fs) => fs.toList.all fun f => (P.info? f.type).isSome
  | _ => true

theorem under_of_info {P : Program} (h : (List.range P.types.size).all (tabT P) = true) {T : TypeId} {i : TypeInfo} (hi : P.info? T = some i) : ∃ d, P.underlying T = some d := by
  by_cases ht : T < P.types.size
  · have := List.all_eq_true.1 h T (List.mem_range.2 ht)
    simp only [tabT, Bool.and_eq_true, Option.isSome_iff_exists] at this
    exact this.1
  · have hb := Tables.info?_beyond ht hi
    unfold Program.underlying
    split
    · rename_i h'; rw [h'] at hi; cases hi; cases hb
    · exact ⟨_, rfl⟩
    · rename_i h'; rw [h'] at hi; cases hi

theorem beyond {P : Program} {T : TypeId} {d : TypeDesc} (ht : ¬ T < P.types.size) (h : P.underlying T = some d) :
    ∃ i, P.info? T = some i ∧ i.desc = d ∧ (∀ e, i.desc = .slice e → ∃ j, P.info? e = some j) ∧ (∀ n e, i.desc = .array n e → ∃ j, P.info? e = some j ∧ i.size = n * j.size) ∧ (∀ fs, i.desc = .struct fs → ∀ f ∈ fs, ∃ j, P.info? f.type = some j) := by
  obtain ⟨i, hi⟩ := info_of_underlying h
  have hb := Tables.info?_beyond ht hi
  have hd : i.desc = d := by
    unfold Program.underlying at h
    rw [hi] at h
    split at h
    · rename_i h'; cases h'; cases hb
    · rename_i h'; cases h'; cases h; rfl
    · rename_i h'; cases h'
  refine ⟨i, hi, hd, ?_⟩
  unfold Tables.info? at hi
  rw [if_neg ht] at hi
  unfold Made.depth at hi
  unfold Made.infoAt at hi
  rw [if_neg ht] at hi
  simp only [Option.bind_eq_some_iff] at hi
  obtain ⟨d', _, hr⟩ := hi
  obtain ⟨h1, h2, h3⟩ := reckon_info hr
  exact ⟨fun e he => (h1 e he).imp fun _ h => info_of99 h, fun n e he => (h2 n e he).imp fun _ h => ⟨info_of99 h.1, h.2⟩, fun fs hf f hm => (h3 fs hf f hm).imp fun _ h => info_of99 h⟩

theorem tabs_of {P : Program} (h : (List.range P.types.size).all (tabT P) = true) : Tabs P := by
  have hT : ∀ T, T < P.types.size → tabT P T = true := fun T hd => List.all_eq_true.1 h T (List.mem_range.2 hd)
  have hs : ∀ T e, P.underlying T = some (.slice e) → ∃ i, P.info? e = some i := fun T e hu => by
    by_cases ht : T < P.types.size
    · have := hT T ht; simp only [tabT, hu, Bool.and_eq_true, Option.isSome_iff_exists] at this; exact this.2
    · obtain ⟨i, _, hd, h1, _⟩ := beyond ht hu; exact h1 e hd
  have ha : ∀ T n e, P.underlying T = some (.array n e) → ∃ i j, P.info? e = some i ∧ P.info? T = some j ∧ j.size = n * i.size := fun T n e hu => by
    by_cases ht : T < P.types.size
    · have := hT T ht; simp only [tabT, hu, Bool.and_eq_true] at this
      have := this.2
      split at this
      · rename_i i j h1 h2; exact ⟨i, j, h1, h2, by simpa using this⟩
      · cases this
    · obtain ⟨i, hi, hd, _, h2, _⟩ := beyond ht hu; obtain ⟨j, hj, hz⟩ := h2 n e hd; exact ⟨j, i, hj, hi, hz⟩
  have hf : ∀ T fs f, P.underlying T = some (.struct fs) → f ∈ fs → ∃ i, P.info? f.type = some i := fun T fs f hu hm => by
    by_cases ht : T < P.types.size
    · have := hT T ht; simp only [tabT, hu, List.all_eq_true, Bool.and_eq_true, Option.isSome_iff_exists] at this; exact this.2 f (by simpa using hm)
    · obtain ⟨i, _, hd, _, _, h3⟩ := beyond ht hu; exact h3 fs hd f hm
  exact ⟨hs, ha, hf, fun T e hu => (hs T e hu).elim fun _ h' => under_of_info h h', fun T n e hu => (ha T n e hu).elim fun _ h' => h'.elim fun _ h' => under_of_info h h'.1, fun T fs f hu hm => (hf T fs f hu hm).elim fun _ h' => under_of_info h h'⟩

def wfF (P : Program) (H : FuncId → Hint) (f : Nat) : Bool :=
  match P.funcs[f]? with
  | some fn => decide (fn.name ≠ "runtime.NumGoroutine") && (match fn.body with | some b => wfCode (H f) fn.ntmps b | none => true)
  | none => true

theorem wf_of {P : Program} {H : FuncId → Hint} (h : ∀ f, f < P.funcs.size → wfF P H f = true) (hm : P.follows .mixedOrders = true) : WF P H := by
  have hF : ∀ f fn, P.funcs[f]? = some fn → wfF P H f = true := fun f fn hd => h f (Array.getElem?_eq_some_iff.1 hd).1
  refine ⟨?_, ?_, hm⟩
  · intro f fn hf; have := hF f fn hf; simp only [wfF, hf, Bool.and_eq_true, decide_eq_true_eq] at this; exact this.1
  · intro f fn body hf hb; have := hF f fn hf; simp only [wfF, hf, hb, Bool.and_eq_true, decide_eq_true_eq] at this; exact this.2
end Go.PS
end

section
/-
  From the evaluator to a row's walk.
-/
namespace Go.PS
open Go Go.RowKit Go.ChangeShapes Go.WideShapes

/-- Of what lies there nothing turns. -/
def Kept (W w' : World) : Prop := W.keptBut w' (fun _ => False) ∧ ∀ a : Addr, a.block < W.heap.size → w'.frozen? a = W.frozen? a

theorem post_of_kept {E : Type} {enc : TypeId × Value → E} {P : Program} {f : Func} {s : ChangeSpec} {apart fresh handsOn again : Bool} {W W' : World} {args : Array Value} {v : Value} {ds gs : List (DataW E)} {before pa pv : List MemPlace}
    (hW : DataW.Whole enc P f.params.toList s.vars apart W args.toList ds gs before)
    (hres : ∀ (b : Nat) (sp : Nat → Bool) (hd : Bool), DataW.TrodAll enc P W' b sp hd f.resultTypes.toList (v.resultList f.resultTypes.size) (s.fn E (ds ++ gs)).results [])
    (hargs : ∀ sp : Nat → Bool, (∀ p ∈ before, sp p.block = true) → DataW.TrodAll enc P W' 0 sp true f.params.toList args.toList (s.fn E (ds ++ gs)).args pa)
    (hvars : ∀ sp : Nat → Bool, (∀ p ∈ before, sp p.block = true) → DataW.TrodVars enc P W' sp s.vars (s.fn E (ds ++ gs)).vars pv)
    (hps : before = pa ++ pv) (hk : Kept W W')
    (hok : ∀ (j : Nat) (t : TypeId) (r : Value), f.resultTypes[j]? = some t → (v.resultList f.resultTypes.size)[j]? = some r → Value.okWide P W' .any 0 t r) :
    s.post enc P f apart fresh handsOn again W args v W' := by
  have hold : ∀ p ∈ before, (fun b => decide (b < W.heap.size)) p.block = true := fun p hp => by simpa using hW.lt p hp
  have hlt : ∀ p ∈ before, p.block < W.heap.size := fun p hp => hW.lt p hp
  refine ⟨ds, gs, before, [], pa, pv, hW, hres _ _ _, hargs _ hold, hvars _ hold, World.keptBut_mono (fun p hp => ⟨hp, ?_⟩) (World.keptBut_mono (fun _ f => f.elim) hk.1), fun _ => ?_⟩
  · rw [hps, List.mem_append] at hp
    exact Or.inr hp
  · obtain ⟨_, _, _, _, _, hz, hn⟩ := hW
    refine ⟨hok, _, _, ([] ++ pa) ++ pv, ⟨[] ++ pa, pv, trodAll_append (hargs _ (fun _ _ => rfl)) (hres _ _ _), hvars _ (fun _ _ => rfl), rfl, ?_, ?_⟩, ?_⟩
    · intro b off hp
      have hp' : MemPlace.cell b off ∈ before := by rw [hps]; simpa using hp
      rw [hk.2 _ (hlt _ hp')]
      exact hz b off hp'
    · intro ha
      have := hn ha
      rw [hps] at this
      simpa using this
    · intro p hp _
      rw [hps]
      simpa using hp

variable {P : Program} {H : FuncId → Hint}

/-- At the start: whatever lies there is another's, and lasts. -/
def g0 (w : World) : G := { loc := fun _ _ => (0, 0), own := fun b => if b < w.heap.size then some .frg else none, imm := fun b o => (w.cell? ⟨b, o, none⟩).isSome = true }

theorem rel0 (w : World) : Rel (g0 w) w #[] [] [] := by
  refine ⟨fun t => .of (.undef _), fun i cs h => by simp at h, fun b o h => h, fun b k h => ?_, fun t t' pre h => (by cases h), fun t h => (h rfl).elim⟩
  simp only [g0] at h
  split at h
  · assumption
  · cases h

theorem law_kept (Tb : Tabs P) (W : WF P H) (hprim : PrimSound P H) {n : Nat} {f : FuncId} {args : List PV} {hp' : Heap} {d : Bool}
    (h : evalCall P H n f args [] = some (.bool true, hp', d)) {us : Array Value} {w : World} (hs : us.size = args.length)
    (hV : ∀ (j : Nat) (u : Value) (y : PV), us[j]? = some u → args[j]? = some y → V (g0 w) w 0 u y) :
    Calls P f us w fun e w' => e = .returned (.bool true) ∧ Kept w w' := by
  obtain ⟨_, hc⟩ := evalCall_sound Tb H W hprim n f args [] _ hp' d h (g0 w) w us (rel0 w) hs ⟨0, fun j u y _ h1 h2 => hV j u y h1 h2, fun u y h1 h2 => .of (hV 0 u y h1 h2)⟩
  refine hc.mono fun e w' ⟨v, g', he, _, x, hr⟩ => ?_
  have hv : v = .bool true := by
    cases hr with
    | of h => cases h; rfl
  subst hv
  have hb : ∀ b, b < w.heap.size → w'.heap[b]? = w.heap[b]? := fun b hb => (x.far b (.inl (by simp [g0, hb]))).heap
  refine ⟨he, ⟨x.os, x.out, fun i hi => ?_⟩, fun a ha => by simp only [World.frozen?, hb a.block ha]⟩
  · rw [hb i hi]
    cases hx : w.heap[i]? with
    | none => rfl
    | some o => cases o <;> simp
end Go.PS
end

section
/-
  Equations for the evaluator, as a set of rules.
-/
namespace Go.PS
variable {P : Program} {H : Hint} {own : FuncId → Option Nat} {callF : CallF} {n : Nat}
def loopBody (P : Program) (H : Hint) (own : FuncId → Option Nat) (callF : CallF) (n : Nat) (b : Code) (st : St) : Option (Ex × St) :=
  evalCode P H own callF n b none (canon (H.head (firstReg b)) st)
theorem ev_seq (a b : Code) (st : St) : evalCode P H own callF n (.seq a b) none st = (match evalCode P H own callF n a none st with
    | some (.normal, st) => evalCode P H own callF n b none st
    | r => r) := by rw [evalCode]; rfl
theorem ev_skip (st : St) : evalCode P H own callF n .skip none st = some (.normal, st) := by rw [evalCode]
theorem ev_ret (st : St) : evalCode P H own callF n .ret none st = some (.ret, st) := by rw [evalCode]
theorem ev_exit (id : Nat) (st : St) : evalCode P H own callF n (.exit id) none st = some (.exit id, st) := by rw [evalCode]
theorem ev_goto (l : Nat) (st : St) : evalCode P H own callF n (.goto l) none st = some (.goto l, st) := by rw [evalCode]
theorem ev_region (id : Nat) (ops : Array Oper) (st : St) : evalCode P H own callF n (.region id ops false) none st = (match evalOps P H own callF ops ops.toList st with
    | some st => some (.normal, canon (H.keep id) st)
    | none => none) := by rw [evalCode]; rfl
theorem ev_draw (id : Nat) (ops : Array Oper) (st : St) : evalCode P H own callF n (.region id ops true) none st = (match evalDraw P H own callF id ops st with
    | some st => some (.normal, canon (H.keep id) st)
    | none => none) := by rw [evalCode]; rfl
theorem ev_cond (c : Operand) (a b : Code) (st : St) : evalCode P H own callF n (.cond c a b) none st = (match opv st.fr c with
    | .bool true => evalCode P H own callF n a none st
    | .bool false => evalCode P H own callF n b none st
    | _ => none) := by rw [evalCode]; rfl
theorem ev_block (id : Nat) (b : Code) (st : St) : evalCode P H own callF n (.block id b) none st = (match evalCode P H own callF n b none st with
    | some (.exit id', st) => if id' = id then some (.normal, st) else some (.exit id', st)
    | r => r) := by rw [evalCode]; rfl
theorem ev_loop (b : Code) (st : St) : evalCode P H own callF n (.loop b) none st = iter (loopBody P H own callF n b) n st := by rw [evalCode]; rfl

/-- A loop whose states are told one by one. -/
theorem iter_count {body : St → Option (Ex × St)} (s : Nat → St) (out : Ex × St) : ∀ (N fuel : Nat) (st : St), st = s 0 → N < fuel → (∀ k, k < N → body (s k) = some (.normal, s (k + 1))) → body (s N) = some out → (out.1 = .normal → False) → iter body fuel st = some out
  | _, 0, _, _, h, _, _, _ => by omega
  | 0, fuel + 1, st, h0, _, _, he, hn => by
    subst h0
    simp only [iter, he]
    split
    · rename_i h; cases h; exact (hn rfl).elim
    · rfl
  | N + 1, fuel + 1, st, h0, hf, hs, he, hn => by
    subst h0
    simp only [iter, hs 0 (by omega)]
    exact iter_count (fun k => s (k + 1)) out N fuel _ rfl (by omega) (fun k hk => hs (k + 1) (by omega)) he hn
theorem wrap_id {x : Int} (h : -9223372036854775808 ≤ x ∧ x ≤ 9223372036854775807) : IntKind.i64.wrap x = x := by
  simp [IntKind.wrap, IntKind.signed, IntKind.bits]; omega
end Go.PS
end
