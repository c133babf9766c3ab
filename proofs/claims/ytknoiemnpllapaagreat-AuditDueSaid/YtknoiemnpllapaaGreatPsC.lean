/-
  An evaluator of the model on pure values, and its soundness: what evalCall answers for a function and its arguments, the function returns in the model, and nothing older turns. Part 3.
-/
import Derived.Test.YtknoiemnpllapaaGreatPsB
import Derived.Deep.Upon
import Derived.Laws.IdiomStrings
import Derived.LoopN
import Derived.Scope

set_option linter.all false
section
/-
  Operations, as the evaluator steps: calls.
-/
namespace Go.PS
section
variable {g g' g1 g2 : G} {w w' w1 w2 : World} {hn hn' : Nat} {tm : Array Value} {fr fr' : Fr} {hp hp' hp1 hp2 : Heap} {P : Program} {t : Nat}

theorem takeArgs_sound {st st' : St} {a : Act} (ha : a.tmps = tm) (R : Rel g w tm st.fr st.hp) {args : List Operand} {own : Option Nat} {ys : List PV} (h : takeArgs st args own = some (st', ys)) :
    ∃ g', Rel g' w tm st'.fr st'.hp ∧ StepR st st' g w g' w ∧ ys.length = args.length ∧
      (∃ k, (∀ (j : Nat) (x : Operand) (y : PV), j ≠ k → args[j]? = some x → ys[j]? = some y → V g' w st'.hp.length (a.eval x) y) ∧ ∀ (x : Operand) (y : PV), args[k]? = some x → ys[k]? = some y → ResV g' w st'.hp.length (a.eval x) y) ∧
      st'.hp.length = st.hp.length ∧ (own = none → g'.own = g.own) := by
  unfold takeArgs at h
  split at h
  · obtain ⟨g1, R1, S1, hlen, hV, e1, o1⟩ := takeL_sound ha _ R h
    exact ⟨g1, R1, S1, hlen, ⟨0, fun j x y _ h1 h2 => hV j x y h1 h2, fun x y h1 h2 => .of (hV 0 x y h1 h2)⟩, e1, fun _ => o1⟩
  · rename_i i
    split at h
    · cases h
    · rename_i x hx
      split at h
      · cases h
      · rename_i st1 vs ht
        split at h
        · cases h
        · rename_i st2 v hv
          split at h
          · rename_i tg n cs
            cases h
            have hi : i < args.length := (List.getElem?_eq_some_iff.1 hx).1
            obtain ⟨g1, R1, S1, hlen, hV, e1, o1⟩ := takeL_sound ha _ R ht
            rw [List.length_eraseIdx, if_pos hi] at hlen
            obtain ⟨R2, S2, T2, e2⟩ := take_sound ha R1 hv
            have idx : ∀ (j : Nat) (z : Operand) (y : PV), j ≠ i → args[j]? = some z → (vs.insertIdx i (.sl tg n cs))[j]? = some y → V g1 w st'.hp.length (a.eval z) y := fun j z y hj h1 h2 => by
              rw [e2]
              rw [List.getElem?_insertIdx] at h2
              by_cases hlt : j < i
              · rw [if_pos hlt] at h2
                exact hV j z y (by rw [List.getElem?_eraseIdx, if_pos hlt]; exact h1) h2
              · rw [if_neg hlt, if_neg hj] at h2
                refine hV (j - 1) z y ?_ h2
                rw [List.getElem?_eraseIdx, if_neg (by omega), show j - 1 + 1 = j by omega]
                exact h1
            have hat : (vs.insertIdx i (PV.sl tg n cs))[i]? = some (.sl tg n cs) := by
              rw [List.getElem?_insertIdx, if_neg (Nat.lt_irrefl _), if_pos rfl, if_pos (by omega)]
            have hlen' : (vs.insertIdx i (PV.sl tg n cs)).length = args.length := by
              rw [List.length_insertIdx, if_pos (by omega)]; omega
            generalize hu : a.eval x = u at T2
            cases T2 with
            | flat _ _ hs hl hna hVs =>
              refine ⟨g1, R2, S1.trans S2, hlen', ⟨i, idx, fun z y h1 h2 => ?_⟩, e2.trans e1, fun e => (by cases e)⟩
              rw [hx] at h1; rw [hat] at h2; cases h1; cases h2
              rw [hu]; exact .of (hVs _ _ _ rfl)
            | moved p pp _ _ _ _ f hL m ho =>
              rw [← S2.base] at m
              obtain ⟨g3, R3, X3, hres, hkeep, _⟩ := R2.release f m hL
              refine ⟨g3, R3, (S1.trans S2).trans (StepR.ofX rfl rfl X3 id), hlen', ⟨i, fun j z y hj h1 h2 => hkeep _ _ (idx j z y hj h1 h2), fun z y h1 h2 => ?_⟩, e2.trans e1, fun e => (by cases e)⟩
              rw [hx] at h1; rw [hat] at h2; cases h1; cases h2
              rw [hu]; exact hres
          · cases h

theorem ResV.hide {v : Value} {r : PV} (h : ResV g w hn v r) : ResV g.hide w hn v r := by
  have hb : ∀ b, g.own b = none → g.hide.own b = none := fun b h => by simp [G.hide, h]
  cases h with
  | of h => exact .of h.hide
  | tup hs h => exact .tup hs fun j u y h1 h2 => (h j u y h1 h2).hide
  | mu hb' hlt hle hlen room hi hc h0 => exact .mu (hb _ hb') hlt hle hlen room hi (hc.mono hide_e0 fun _ _ => rfl) h0
  | ow hb' hlt hle hlen room hi hx hc h0 => exact .ow (hb _ hb') hlt hle hlen room hi hx (hc.mono hide_e0 fun _ _ => rfl) h0
  | full hi hc => exact .full hi (hc.mono hide_e0 fun _ _ => rfl)

/-- What is known of all that stood ahead of a call that wrote nothing and answered a plain value. -/
theorem plainBack {hp1 hp' : Heap} {base : Nat} {d0 : Bool} {v : Value} {r : PV} (R : Rel g w tm fr hp) (ho1 : g1.own = g.own) (e0 : Ext0 g w hp.length g1 w hp1.length) (e1 : hp1.length = hp.length) (hbs : base ≤ hp.length)
    (x : X hp1.length false g1.hide w hp1 g' w' hp') (hres : ResV g' w' hp'.length v r) (hpl : plain r = true) :
    ∃ g0, Rel g0 w' tm fr hp ∧ ResV g0 w' hp.length v r ∧ X base d0 g w hp g0 w' hp := by
  let g0 := g.trim hp.length
  have R0 : Rel g0 w tm fr hp := R.trim
  have own0 : ∀ b k, g0.own b = some k → SameBlk g1.hide w g' w' b ∧ ∃ k', g1.hide.own b = some k' := fun b k hk => by
    obtain ⟨h1, h2⟩ := trim_inv hk
    rw [← ho1] at h1
    by_cases hkl : k.local = true
    · exact ⟨x.far b (.inl (hide_local h1 hkl)), _, hide_local h1 hkl⟩
    · have hkl : k.local = false := by simpa using hkl
      have hh := hide_other h1 hkl
      cases k with
      | frg => exact ⟨x.far b (.inl hh), _, hh⟩
      | froz => exact ⟨x.far b (.inr hh), _, hh⟩
      | box t => cases hkl
      | obj i =>
        have hi := h2 i (.inl rfl)
        exact ⟨(x.clean rfl i (by rw [e1]; exact hi)).2.2 b (.inl hh), _, hh⟩
      | st r p => cases r with
        | slot t => cases hkl
        | heap i =>
          have hi := h2 i (.inr ⟨p, rfl⟩)
          exact ⟨(x.clean rfl i (by rw [e1]; exact hi)).2.2 b (.inr ⟨p, hh⟩), _, hh⟩
  have R2 : Rel g0 w' tm fr hp := R0.still x.size (fun b k hk => (own0 b k hk).1.heap) fun b o hi => (x.e0.imm b o (e0.imm b o hi).1).2
  have hres2 : ResV g0 w' hp.length v r := plain_ResV hres hpl _ (fun b hn => by
      cases hk : g0.own b with
      | none => rfl
      | some k =>
        obtain ⟨s, k', hk'⟩ := own0 b k hk
        have := s.own
        rw [hn, hk'] at this; cases this) (fun b j hn hi => hn (x.e0.imm b j (e0.imm b j hi).1).1)
  refine ⟨g0, R2, hres2, ?_⟩
  have far0 : ∀ b, g.own b = some .frg ∨ g.own b = some .froz → SameBlk g w g0 w' b := fun b hb' => by
    have hk : ∃ k, g0.own b = some k ∧ g.own b = some k := by
      rcases hb' with h | h
      · exact ⟨_, trim_same h (fun i e => by rcases e with e | ⟨_, e⟩ <;> cases e), h⟩
      · exact ⟨_, trim_same h (fun i e => by rcases e with e | ⟨_, e⟩ <;> cases e), h⟩
    obtain ⟨k, h1, h2⟩ := hk
    exact ⟨h1.trans h2.symm, (own0 b k h1).1.heap, fun _ => Iff.rfl⟩
  refine ⟨⟨fun b o hi => ⟨hi, (x.e0.imm b o (e0.imm b o hi).1).2⟩, fun _ _ => rfl, Nat.le_refl _⟩, x.os, x.tape, x.out, x.size, far0, fun _ i hi => ⟨rfl, fun _ => rfl, fun b hb' => ?_⟩⟩
  have hi' : i < hp.length := by omega
  have hk : ∃ k, g0.own b = some k ∧ g.own b = some k := by
    rcases hb' with h | ⟨p, h⟩
    · exact ⟨_, trim_same h (fun j e => by rcases e with e | ⟨_, e⟩ <;> cases e; exact hi'), h⟩
    · exact ⟨_, trim_same h (fun j e => by rcases e with e | ⟨_, e⟩ <;> cases e; exact hi'), h⟩
  obtain ⟨k, h1, h2⟩ := hk
  exact ⟨h1.trans h2.symm, (own0 b k h1).1.heap, fun _ => Iff.rfl⟩

theorem callOK {st st' : St} {a : Act} (R : Rel g w a.tmps st.fr st.hp) (hb : st.base ≤ st.hp.length) {callF : CallF} (hcall : CallSound P callF) {o : Oper} (hd : ∀ d, o.dst = some d → d < a.tmps.size) {c : Call} {fo : Operand} (ho : o.op = .call c) (hc : c.callee = .value fo)
    {own : Option Nat} {f : FuncId} {cap : List PV} (hf : opv st.fr fo = .fn f cap) (h : callOp callF own st f cap c.args.toList o.dst = some st') : StepOK P a o st st' g w := by
  unfold callOp at h
  split at h
  · cases h
  · rename_i st1 vs ht
    split at h
    · cases h
    · rename_i r hp' d hcf
      obtain ⟨g1, R1, S1, hlen, ⟨k, hV, hVk⟩, e1, o1⟩ := takeArgs_sound rfl R ht
      obtain ⟨⟨tf, hs⟩, _⟩ := opv_sound R a rfl fo
      rw [hf] at hs
      obtain ⟨cv, hfv, hcs, hcv⟩ := hs.fn_inv
      have hbase : st1.base ≤ st1.hp.length := by rw [S1.base, e1]; exact hb
      let us : Array Value := c.args.map a.eval ++ cv
      have hus : us.size = (vs ++ cap).length := by simp [us, hcs]; simpa using hlen.symm
      have hl : vs.length = c.args.size := by simpa using hlen
      have look : ∀ (j : Nat) (u : Value) (y : PV), us[j]? = some u → (vs ++ cap)[j]? = some y → (∃ x, j < c.args.size ∧ c.args.toList[j]? = some x ∧ u = a.eval x ∧ vs[j]? = some y) ∨ (c.args.size ≤ j ∧ V g1 w st1.hp.length u y) := by
        intro j u y hu hy
        simp only [us, Array.getElem?_append, Array.size_map] at hu
        rw [List.getElem?_append] at hy
        by_cases hj : j < c.args.size
        · rw [if_pos hj] at hu
          rw [if_pos (by omega)] at hy
          simp only [Array.getElem?_map, Option.map_eq_some_iff] at hu
          obtain ⟨x, hx, rfl⟩ := hu
          exact .inl ⟨x, hj, by simpa using hx, rfl, hy⟩
        · rw [if_neg hj] at hu
          rw [if_neg (by omega), hl] at hy
          exact .inr ⟨by omega, (hcv _ u y hu hy).mono S1.x.e0⟩
      have hArgs : ArgsV g1.hide w st1.hp.length us (vs ++ cap) := by
        refine ⟨k, fun j u y hj hu hy => ?_, fun u y hu hy => ?_⟩
        · rcases look j u y hu hy with ⟨x, _, hx, rfl, hy'⟩ | ⟨_, h⟩
          · exact (hV j x y hj hx hy').hide
          · exact h.hide
        · rcases look k u y hu hy with ⟨x, _, hx, rfl, hy'⟩ | ⟨_, h⟩
          · exact (hVk x y hx hy').hide
          · exact .of h.hide
      obtain ⟨hrun, hcalls⟩ := hcall f (vs ++ cap) st1.hp r hp' d hcf g1.hide w us R1.hide hus hArgs
      have hexec : (execOp a.eval o).run P w = .ok (.enter f us) w := by
        simp only [execOp, ho, resolve, hc, hfv, Deferred.ofValue, Sem.run_bind, Sem.run_pure, Result.andThen_ok, invoke]
        have he : (#[] ++ c.args.map a.eval) ++ cv = us := by simp [us]
        rw [he]
        exact hrun
      refine Runs.enter hexec (hcalls.mono fun e w' hpost => ?_)
      obtain ⟨v, g', rfl, R', x, hres⟩ := hpost
      refine ⟨v, rfl, ?_⟩
      split at h
      · rename_i hp
        obtain ⟨hown, rfl, hpl⟩ := hp
        cases h
        have ho1 := o1 hown
        let g0 := g.trim st.hp.length
        have R0 : Rel g0 w a.tmps st.fr st.hp := R.trim
        have own0 : ∀ b k, g0.own b = some k → SameBlk g1.hide w g' w' b ∧ ∃ k', g1.hide.own b = some k' := fun b k hk => by
          obtain ⟨h1, h2⟩ := trim_inv hk
          rw [← ho1] at h1
          by_cases hkl : k.local = true
          · exact ⟨x.far b (.inl (hide_local h1 hkl)), _, hide_local h1 hkl⟩
          · have hkl : k.local = false := by simpa using hkl
            have hh := hide_other h1 hkl
            cases k with
            | frg => exact ⟨x.far b (.inl hh), _, hh⟩
            | froz => exact ⟨x.far b (.inr hh), _, hh⟩
            | box t => cases hkl
            | obj i =>
              have hi := h2 i (.inl rfl)
              exact ⟨(x.clean rfl i (by rw [e1]; exact hi)).2.2 b (.inl hh), _, hh⟩
            | st r p => cases r with
              | slot t => cases hkl
              | heap i =>
                have hi := h2 i (.inr ⟨p, rfl⟩)
                exact ⟨(x.clean rfl i (by rw [e1]; exact hi)).2.2 b (.inr ⟨p, hh⟩), _, hh⟩
        have R2 : Rel g0 w' a.tmps st.fr st.hp := R0.still x.size (fun b k hk => (own0 b k hk).1.heap) fun b o hi => (x.e0.imm b o (S1.x.e0.imm b o hi).1).2
        have hres2 : ResV g0 w' st.hp.length v r := plain_ResV hres hpl _ (fun b hn => by
            cases hk : g0.own b with
            | none => rfl
            | some k =>
              obtain ⟨s, k', hk'⟩ := own0 b k hk
              have := s.own
              rw [hn, hk'] at this; cases this) (fun b j hn hi => hn (x.e0.imm b j (S1.x.e0.imm b j hi).1).1)
        obtain ⟨g3, R3, S3⟩ := R2.landDst (a := a) (st := st) (dst := o.dst) hd hres2
        refine ⟨g3, R3, StepR.trans (st1 := st) (w1 := w') (g1 := g0) ⟨rfl, id, ?_⟩ S3⟩
        have far0 : ∀ b, g.own b = some .frg ∨ g.own b = some .froz → SameBlk g w g0 w' b := fun b hb' => by
          have hk : ∃ k, g0.own b = some k ∧ g.own b = some k := by
            rcases hb' with h | h
            · exact ⟨_, trim_same h (fun i e => by rcases e with e | ⟨_, e⟩ <;> cases e), h⟩
            · exact ⟨_, trim_same h (fun i e => by rcases e with e | ⟨_, e⟩ <;> cases e), h⟩
          obtain ⟨k, h1, h2⟩ := hk
          exact ⟨h1.trans h2.symm, (own0 b k h1).1.heap, fun _ => Iff.rfl⟩
        refine ⟨⟨fun b o hi => ⟨hi, (x.e0.imm b o (S1.x.e0.imm b o hi).1).2⟩, fun _ _ => rfl, Nat.le_refl _⟩, x.os, x.tape, x.out, x.size, far0, fun _ i hi => ⟨rfl, fun _ => rfl, fun b hb' => ?_⟩⟩
        have hi' : i < st.hp.length := by omega
        have hk : ∃ k, g0.own b = some k ∧ g.own b = some k := by
          rcases hb' with h | ⟨p, h⟩
          · exact ⟨_, trim_same h (fun j e => by rcases e with e | ⟨_, e⟩ <;> cases e; exact hi'), h⟩
          · exact ⟨_, trim_same h (fun j e => by rcases e with e | ⟨_, e⟩ <;> cases e; exact hi'), h⟩
        obtain ⟨k, h1, h2⟩ := hk
        exact ⟨h1.trans h2.symm, (own0 b k h1).1.heap, fun _ => Iff.rfl⟩
      · split at h
        · rename_i hp
          obtain ⟨rfl, hpl⟩ := hp
          cases h
          let g0 := g1.trim st1.hp.length
          have R0 : Rel g0 w a.tmps st1.fr st1.hp := R1.trim
          have own0 : ∀ b k, g0.own b = some k → SameBlk g1.hide w g' w' b ∧ ∃ k', g1.hide.own b = some k' := fun b k hk => by
            obtain ⟨h1, h2⟩ := trim_inv hk
            by_cases hkl : k.local = true
            · exact ⟨x.far b (.inl (hide_local h1 hkl)), _, hide_local h1 hkl⟩
            · have hkl : k.local = false := by simpa using hkl
              have hh := hide_other h1 hkl
              cases k with
              | frg => exact ⟨x.far b (.inl hh), _, hh⟩
              | froz => exact ⟨x.far b (.inr hh), _, hh⟩
              | box t => cases hkl
              | obj i =>
                have hi := h2 i (.inl rfl)
                exact ⟨(x.clean rfl i hi).2.2 b (.inl hh), _, hh⟩
              | st r p => cases r with
                | slot t => cases hkl
                | heap i =>
                  have hi := h2 i (.inr ⟨p, rfl⟩)
                  exact ⟨(x.clean rfl i hi).2.2 b (.inr ⟨p, hh⟩), _, hh⟩
          have R2 : Rel g0 w' a.tmps st1.fr st1.hp := R0.still x.size (fun b k hk => (own0 b k hk).1.heap) fun b o hi => (x.e0.imm b o hi).2
          have hres2 : ResV g0 w' st1.hp.length v r := plain_ResV hres hpl _ (fun b hn => by
              cases hk : g0.own b with
              | none => rfl
              | some k =>
                obtain ⟨s, k', hk'⟩ := own0 b k hk
                have := s.own
                rw [hn, hk'] at this; cases this) (fun b j hn hi => hn (x.e0.imm b j hi).1)
          obtain ⟨g3, R3, S3⟩ := R2.landDst (a := a) (st := st1) (dst := o.dst) hd hres2
          refine ⟨g3, R3, S1.trans (StepR.trans (st1 := st1) (w1 := w') (g1 := g0) ⟨rfl, id, ?_⟩ S3)⟩
          have far0 : ∀ b, g1.own b = some .frg ∨ g1.own b = some .froz → SameBlk g1 w g0 w' b := fun b hb' => by
            have hk : ∃ k, g0.own b = some k ∧ g1.own b = some k := by
              rcases hb' with h | h
              · exact ⟨_, trim_same h (fun i e => by rcases e with e | ⟨_, e⟩ <;> cases e), h⟩
              · exact ⟨_, trim_same h (fun i e => by rcases e with e | ⟨_, e⟩ <;> cases e), h⟩
            obtain ⟨k, h1, h2⟩ := hk
            exact ⟨h1.trans h2.symm, (own0 b k h1).1.heap, fun _ => Iff.rfl⟩
          refine ⟨⟨fun b o hi => ⟨hi, (x.e0.imm b o hi).2⟩, fun _ _ => rfl, Nat.le_refl _⟩, x.os, x.tape, x.out, x.size, far0, fun _ i hi => ⟨rfl, fun _ => rfl, fun b hb' => ?_⟩⟩
          have hi' : i < st1.hp.length := by omega
          have hk : ∃ k, g0.own b = some k ∧ g1.own b = some k := by
            rcases hb' with h | ⟨p, h⟩
            · exact ⟨_, trim_same h (fun j e => by rcases e with e | ⟨_, e⟩ <;> cases e; exact hi'), h⟩
            · exact ⟨_, trim_same h (fun j e => by rcases e with e | ⟨_, e⟩ <;> cases e; exact hi'), h⟩
          obtain ⟨k, h1, h2⟩ := hk
          exact ⟨h1.trans h2.symm, (own0 b k h1).1.heap, fun _ => Iff.rfl⟩
        cases h
        have R2 := Rel.back R1 R' x
        have X2 := back_X R1 R' x hbase
        have S2 : StepR st1 { st1 with hp := hp', dirty := st1.dirty || d, fr := if d then killFr .heaps st1.fr else st1.fr } g1 w (g1.back g') w' :=
          ⟨rfl, fun h => by simp [h], X2.weaken fun h => by simp at h; exact h.2⟩
        obtain ⟨g3, R3, S3⟩ := Rel.landDst (st := { st1 with hp := hp', dirty := st1.dirty || d, fr := if d then killFr .heaps st1.fr else st1.fr }) R2 (dst := o.dst) hd (ResV.back R1 R' x hres)
        exact ⟨g3, R3, (S1.trans S2).trans S3⟩
end
end Go.PS
end

section
/-
  The built-in append.
-/
namespace Go.PS
section
variable {g g' g1 g2 : G} {w w' w1 w2 : World} {hn hn' : Nat} {tm : Array Value} {fr fr' : Fr} {hp hp' hp1 hp2 : Heap} {P : Program} {t : Nat}

/-- Cells of a block that belongs to nobody are shared for good. -/
theorem Rel.freezeNone {base : Nat} {d : Bool} (R : Rel g w tm fr hp) {b : Nat} (hb : g.own b = none) (o m : Nat) (hex : ∀ j, j < m → (w.cell? ⟨b, o + j, none⟩).isSome = true) :
    Rel (g.freeze b o m) w tm fr hp ∧ X base d g w hp (g.freeze b o m) w hp := by
  have e0 : Ext0 g w hp.length (g.freeze b o m) w hp.length := freeze_e0 _ _ _
  have ne : ∀ b' k, g.own b' = some k → b' ≠ b := fun b' k hk e => by subst e; rw [hb] at hk; cases hk
  have c : Chg (fun _ _ => False) (fun _ _ => False) g w hp.length (g.freeze b o m) w hp.length :=
    ⟨e0, fun _ _ _ => rfl, fun b' r pre hb' _ => (freeze_other (ne b' _ hb')).same _, fun b' t hb' _ => (freeze_other (ne b' _ hb')).same _, fun b' i hb' _ => (freeze_other (ne b' _ hb')).same _⟩
  refine ⟨R.change c (fun t _ => ⟨id, fun cs _ j y _ _ => ⟨id, fun _ _ _ _ _ _ _ _ => id⟩, fun _ _ _ _ _ _ _ _ => id⟩) (fun _ _ _ _ => id) (fun t r pre _ u hu => ?_)
    (fun i cs _ => ⟨id, fun j y _ _ => ⟨id, fun _ _ _ _ _ _ _ _ => id⟩, fun _ _ _ _ _ _ _ => id⟩) (fun i ks vs _ => ⟨id, fun _ _ _ _ h => h⟩) (fun b' j h => ?_) R.ownLt, ⟨e0, rfl, rfl, rfl, Nat.le_refl _, fun b' hb' => freeze_other (hb'.elim (ne b' _) (ne b' _)), fun _ i _ => ⟨rfl, fun _ => rfl, fun b' hb' => by
      rcases hb' with h | ⟨_, h⟩ <;> exact freeze_other (ne b' _ h)⟩⟩⟩
  · cases pre <;> cases r <;> exact hu
  · rcases h with h | ⟨rfl, h1, h2⟩
    · exact R.immCell _ _ h
    · have := hex (j - o) (by omega)
      rwa [show o + (j - o) = j by omega] at this

/-- Cells of a block that belongs to nobody are written. -/
theorem Rel.pokeNone {base : Nat} {d : Bool} (R : Rel g w tm fr hp) {b o : Nat} {vs : List Value} (hb : g.own b = none) (ht : ∀ j, j < vs.length → (w.cell? ⟨b, o + j, none⟩).isSome = true) (hni : ∀ j, j < vs.length → ¬ g.imm b (o + j)) :
    Rel g (w.setCells b o vs) tm fr hp ∧ X base d g w hp g (w.setCells b o vs) hp := by
  refine ⟨R.poke ht hni (fun _ _ _ _ h => ?_) (fun _ _ _ _ h => ?_) (fun _ _ _ _ h => ?_) (fun _ _ _ _ _ _ _ h => ?_) (fun _ _ _ _ _ _ _ h => ?_) (fun t r q he hd => ?_),
    X.poke hni ⟨by rw [hb]; simp, by rw [hb]; simp⟩ fun _ i _ => ⟨by rw [hb]; simp, fun pre => by rw [hb]; simp⟩⟩
  · rw [hb] at h; cases h
  · rw [hb] at h; cases h
  · rw [hb] at h; cases h
  · rw [hb] at h; cases h
  · rw [hb] at h; cases h
  · obtain ⟨c', hc'⟩ := Rel.refObj (st := ⟨fr, hp, 0, false⟩) R he
    obtain ⟨b', hO', _⟩ := Rel.obj (st := ⟨fr, hp, 0, false⟩) R hc'
    rw [hO'.loc] at hd
    have h1 : b' = b := hd.1
    subst h1
    have e := hO'.own
    rw [hb] at e
    cases e

theorem Cells.vals {b o : Nat} {cs : List PV} (h : Cells g w hn b o cs) : ∃ vs : List Value, vs.length = cs.length ∧ (∀ j u, vs[j]? = some u → w.cell? ⟨b, o + j, none⟩ = some u) ∧ ∀ (j : Nat) (u : Value) (y : PV), vs[j]? = some u → cs[j]? = some y → V g w hn u y := by
  refine ⟨(List.range cs.length).map fun j => (w.cell? ⟨b, o + j, none⟩).getD Go.undef, by simp, fun j u hu => ?_, fun j u y hu hy => ?_⟩
  · simp only [List.getElem?_map, Option.map_eq_some_iff] at hu
    obtain ⟨i, hi, rfl⟩ := hu
    rw [List.getElem?_eq_some_iff] at hi
    obtain ⟨hlt, rfl⟩ := hi
    simp only [List.length_range] at hlt
    obtain ⟨v, h1, _⟩ := h j _ (List.getElem?_eq_getElem hlt)
    simp [h1]
  · simp only [List.getElem?_map, Option.map_eq_some_iff] at hu
    obtain ⟨i, hi, rfl⟩ := hu
    rw [List.getElem?_eq_some_iff] at hi
    obtain ⟨hlt, rfl⟩ := hi
    obtain ⟨v, h1, h2⟩ := h j y hy
    simp [h1]
    exact h2

theorem V.oneCell {v : Value} {z : PV} (h : V g w hn v z) (hs : storable z = true) : v.oneCell' = true := by
  cases h <;> first | rfl | (cases hs; done) | skip
  rename_i h; cases v <;> first | rfl | (cases h; done) | (cases hs; done)

/-- What is appended. -/
theorem content_src {st : St} (R : Rel g w tm st.fr st.hp) {v : Value} {x : PV} {n size : Nat} {cs : List PV} (hx : Slot g w st.hp.length tm t v x) (h : content st x = some (n, cs)) (hlen : cs.length = n * size) (hst : cs.all storable = true)
    {U e' : TypeId} (hU : P.underlying U = some (.slice e')) : ∃ news, Src P size U v n news w ∧ ∀ (j : Nat) (u : Value) (y : PV), news[j]? = some u → cs[j]? = some y → V g w st.hp.length u y := by
  rcases content_sound R hx h with ⟨rfl, rfl, a, cap, rfl⟩ | ⟨b, o, cap, rfl, hle, hc⟩
  · refine ⟨[], ?_, fun j u y hu => by simp at hu⟩
    cases a with
    | none => exact Src.ofNil w hU cap
    | some a => exact Src.ofSlice w hU a 0 cap [] (by simp) (fun j u hu => by simp at hu) (fun u hu => by cases hu)
  · obtain ⟨vs, h1, h2, h3⟩ := hc.vals
    refine ⟨vs, Src.ofSlice w hU ⟨b, o, none⟩ n cap vs (by rw [h1, hlen]) (fun j u hu => ?_) (fun u hu => ?_), h3⟩
    · rw [addr_add]; exact h2 j u hu
    · obtain ⟨j, hj, rfl⟩ := List.mem_iff_getElem.1 hu
      have hj' : j < cs.length := by omega
      exact (h3 j _ _ (List.getElem?_eq_getElem hj) (List.getElem?_eq_getElem hj')).oneCell (List.all_eq_true.1 hst _ (List.getElem_mem hj'))

theorem append_get {α β : Type} {cs : List α} {ys : List β} {f : β → α} {j : Nat} {y : α} (h : (cs ++ ys.map f)[j]? = some y) : cs[j]? = some y ∨ ∃ z, cs.length ≤ j ∧ ys[j - cs.length]? = some z ∧ y = f z := by
  rw [List.getElem?_append] at h
  split at h
  · exact .inl h
  · simp only [List.getElem?_map, Option.map_eq_some_iff] at h
    obtain ⟨z, h1, h2⟩ := h
    exact .inr ⟨z, by omega, h1, h2.symm⟩

/-- An append grows: a new row. -/
theorem appendGrow {base : Nat} {dd : Bool} (R : Rel g w tm fr hp) {T U ty e : TypeId} {i : TypeInfo} {z : Value} (hT : P.underlying T = some (.slice e)) (hi : P.info? e = some i) (hz : i.zero = some z) (hzs : z.cells.size = i.size)
    {a0 : Option Addr} {n cap k : Nat} {cs ys : List PV} (hlen : cs.length = n * i.size) (hys : ys.length = k * i.size) {olds : List Value} (hol : olds.length = cs.length)
    (hold : (Builtin.firstCells i.size n (.slice a0 n cap)).run P w.drew = .ok olds.toArray w.drew) (holdV : ∀ (j : Nat) (u : Value) (y : PV), olds[j]? = some u → cs[j]? = some y → V g w hp.length u y)
    {x : Value} {news : List Value} (hs : Src P i.size U x k news w) (hnV : ∀ (j : Nat) (u : Value) (y : PV), news[j]? = some u → ys[j]? = some y → V g w hp.length u y)
    (hg : cap < n + k) (hfit : (n + k) * i.bytes ≤ 140737488355328) (hby : 0 < i.bytes) :
    ∃ v' w', (Builtin.append_ #[T, U] ty #[.slice a0 n cap, x]).run P w = .ok v' w' ∧ (∃ g', Rel g' w' tm fr hp ∧ X base dd g w hp g' w' hp ∧ ResV g' w' hp.length v' (.sl (.mu i.size) (n + k) (cs ++ ys.map outCell))) ∧
      ∃ g', Rel g' w' tm fr hp ∧ X base dd g w hp g' w' hp ∧ ResV g' w' hp.length v' (.sl (.ow i.size) (n + k) (cs ++ ys.map outCell)) := by
  have hmul : n + k ≤ (n + k) * i.bytes := Nat.le_mul_of_pos_right _ hby
  have hrun := run_append_grow_src (P := P) w T U ty e i z hT hi hz a0 n cap olds hold x k news hs hg (by omega) (growslice_fits hg hfit)
  have hnl := hs.newsLen
  have hge := grownCap_ge w (n + k) cap e
  let gc := grownCap w (n + k) cap e
  let cells : Array Value := (olds ++ news).toArray ++ Builtin.zeroCells z.cells (gc - (n + k))
  have hgd : Grow w w.drew := Grow.drew w
  have Rd : Rel g w.drew tm fr hp := R.grow hgd
  have e0 : Ext0 g w hp.length g w.drew hp.length := ⟨fun _ _ h => ⟨h, rfl⟩, fun _ _ => rfl, Nat.le_refl _⟩
  have hcs : ∀ (j : Nat) (y : PV), (cs ++ ys.map outCell)[j]? = some y → ∃ u, cells[j]? = some u ∧ V g w.drew hp.length u y := by
    intro j y hy
    rcases append_get hy with h | ⟨z', h1, h2, rfl⟩
    · have hlt := lt_of_some h
      have hlt' : j < olds.length := by omega
      refine ⟨olds[j], ?_, (holdV j _ y (List.getElem?_eq_getElem hlt') h).mono e0⟩
      simp only [cells]
      rw [Array.getElem?_append_left (by simp; omega)]
      simp only [List.getElem?_toArray]
      rw [List.getElem?_append_left hlt']
      exact List.getElem?_eq_getElem hlt'
    · have hlt := lt_of_some h2
      have hlt' : j - cs.length < news.length := by omega
      refine ⟨news[j - cs.length], ?_, ((hnV _ _ z' (List.getElem?_eq_getElem hlt') h2).mono e0).outCell⟩
      simp only [cells]
      rw [Array.getElem?_append_left (by simp; omega)]
      simp only [List.getElem?_toArray]
      rw [List.getElem?_append_right (by omega), hol]
      exact List.getElem?_eq_getElem hlt'
  have hL : (cs ++ ys.map outCell).length = (n + k) * i.size := by simp [hlen, hys, Nat.add_mul]
  have hsz : gc * i.size ≤ cells.size := by
    simp only [cells, Array.size_append, List.size_toArray, List.length_append, size_zeroCells, hzs]
    rw [hol, hlen, hnl, ← Nat.add_mul, ← Nat.add_mul]
    exact Nat.mul_le_mul_right _ (by simp only [gc]; omega)
  have hmu := newResV (hn := hp.length) Rd (cells := cells) (n := n + k) (cap := gc) (sz := i.size) hge hL hsz (.inl (by omega)) hcs e
  have hgr : Grow w (w.drew.alloc (.cells cells e)) := hgd.trans (Grow.alloc _ _)
  have R2 : Rel g (w.drew.alloc (.cells cells e)) tm fr hp := R.grow hgr
  have x1 : X base false g w hp g (w.drew.alloc (.cells cells e)) hp := X.grow R hgr
  refine ⟨_, _, hrun, ⟨g, R2, x1.weaken (by simp), hmu⟩, ?_⟩
  obtain ⟨hb, hlt, room, himm, hc⟩ := newFacts (hn := hp.length) Rd (cells := cells) (cap := gc) (sz := i.size) hsz hcs e
  have hex : ∀ j, j < (cs ++ ys.map outCell).length → ((w.drew.alloc (.cells cells e)).cell? ⟨w.drew.heap.size, 0 + j, none⟩).isSome = true := fun j hj => by
    obtain ⟨u, h1, _⟩ := hc j _ (List.getElem?_eq_getElem hj); rw [h1]; rfl
  obtain ⟨R3, x3⟩ := R2.freezeNone (base := base) (d := dd) hb 0 _ hex
  refine ⟨_, R3, by simpa using x1.trans x3, .ow hb hlt hge hL room (fun j hj => .inr ⟨rfl, by omega, by omega⟩) (fun j hj => ?_) (hc.mono (freeze_e0 _ _ _) fun _ _ => rfl) (.inl (by omega))⟩
  rcases hj with hj | ⟨_, h1, h2⟩
  · exact (himm _ hj).elim
  · exact h2

/-- Nothing is appended, or there is room. -/
theorem appendRes {base : Nat} {dd : Bool} (R : Rel g w tm fr hp) {T U ty e : TypeId} {i : TypeInfo} {z : Value} (hT : P.underlying T = some (.slice e)) (hi : P.info? e = some i) (hz : i.zero = some z) (hzs : z.cells.size = i.size)
    {v : Value} {tg : Tag} {n k : Nat} {cs ys : List PV} (h : ResV g w hp.length v (.sl tg n cs)) (htg : tg ≠ .sh) (hsz : ∀ s, tg = .mu s ∨ tg = .ow s → s = i.size ∨ (s = 0 ∧ n = 0)) (hlen : cs.length = n * i.size) (hys : ys.length = k * i.size)
    {x : Value} {news : List Value} (hs : Src P i.size U x k news w) (hnV : ∀ (j : Nat) (u : Value) (y : PV), news[j]? = some u → ys[j]? = some y → V g w hp.length u y)
    (hfit : (n + k) * i.bytes ≤ 140737488355328) (hby : 0 < i.bytes) {tg' : Tag} (htg' : tg' = .mu i.size ∧ ((n = 0 ∧ tg = .fr) ∨ ∃ s, tg = .mu s) ∨ tg' = .ow i.size ∧ ∀ s, tg ≠ .mu s) :
    ∃ v' w', (Builtin.append_ #[T, U] ty #[v, x]).run P w = .ok v' w' ∧ ∃ g', Rel g' w' tm fr hp ∧ X base dd g w hp g' w' hp ∧ ResV g' w' hp.length v' (.sl tg' (n + k) (cs ++ ys.map outCell)) := by
  have hnl := hs.newsLen
  -- a way that grows
  have grow : ∀ {a0 : Option Addr} {cap : Nat} {olds : List Value}, v = .slice a0 n cap → olds.length = cs.length → (Builtin.firstCells i.size n (.slice a0 n cap)).run P w.drew = .ok olds.toArray w.drew →
      (∀ (j : Nat) (u : Value) (y : PV), olds[j]? = some u → cs[j]? = some y → V g w hp.length u y) → cap < n + k →
      ∃ v' w', (Builtin.append_ #[T, U] ty #[v, x]).run P w = .ok v' w' ∧ ∃ g', Rel g' w' tm fr hp ∧ X base dd g w hp g' w' hp ∧ ResV g' w' hp.length v' (.sl tg' (n + k) (cs ++ ys.map outCell)) := by
    intro a0 cap olds hv hol hold holdV hg
    subst hv
    obtain ⟨v', w', hrun, hm, ho⟩ := appendGrow (base := base) (dd := dd) (ty := ty) R hT hi hz hzs hlen hys hol hold holdV hs hnV hg hfit hby
    rcases htg' with ⟨rfl, _⟩ | ⟨rfl, _⟩
    · exact ⟨v', w', hrun, hm⟩
    · exact ⟨v', w', hrun, ho⟩
  -- nothing comes to it
  have none' : ∀ {a0 : Option Addr} {cap : Nat}, v = .slice a0 n cap → n ≤ cap → k = 0 → (∃ g', Rel g' w tm fr hp ∧ X base dd g w hp g' w hp ∧ ResV g' w hp.length v (.sl tg' n cs)) →
      ∃ v' w', (Builtin.append_ #[T, U] ty #[v, x]).run P w = .ok v' w' ∧ ∃ g', Rel g' w' tm fr hp ∧ X base dd g w hp g' w' hp ∧ ResV g' w' hp.length v' (.sl tg' (n + k) (cs ++ ys.map outCell)) := by
    intro a0 cap hv hle hk hR
    subst hv hk
    have hy0 : ys = [] := List.eq_nil_of_length_eq_zero (by simpa using hys)
    have hn0 : news = [] := List.eq_nil_of_length_eq_zero (by simpa using hnl)
    subst hy0 hn0
    refine ⟨_, _, run_append_nothing (P := P) w T U ty e i hT hi a0 n cap hle x hs, ?_⟩
    simpa using hR
  have oldsOf : ∀ {b o cap : Nat}, Cells g w hp.length b o cs → ∃ olds : List Value, olds.length = cs.length ∧ (Builtin.firstCells i.size n (.slice (some ⟨b, o, none⟩) n cap)).run P w.drew = .ok olds.toArray w.drew ∧
      ∀ (j : Nat) (u : Value) (y : PV), olds[j]? = some u → cs[j]? = some y → V g w hp.length u y := fun {b o cap} hc => by
    obtain ⟨vs, h1, h2, h3⟩ := hc.vals
    refine ⟨vs, h1, run_firstCells_some w.drew i.size n ⟨b, o, none⟩ n cap vs (by rw [h1, hlen]) (fun j u hu => ?_), h3⟩
    rw [addr_add]; exact h2 j u hu
  have olds0 : ∀ {a0 : Option Addr} {cap : Nat}, n = 0 → cs = [] → (Builtin.firstCells i.size n (.slice a0 n cap)).run P w.drew = .ok ([] : List Value).toArray w.drew := fun {a0 cap} hn hc => by
    subst hn hc
    cases a0 with
    | none => exact run_firstCells_none w.drew i.size 0 0 cap
    | some a => exact run_firstCells_some w.drew i.size 0 a 0 cap [] (by simp) (fun j u hu => by simp at hu)
  -- a row that owns its room
  have room' : ∀ {b o cap sz : Nat}, v = .slice (some ⟨b, o, none⟩) n cap → g.own b = none → (∀ j, j < cap * sz → (w.cell? ⟨b, o + j, none⟩).isSome = true ∧ w.frozen? ⟨b, o + j, none⟩ = false) → sz = i.size → n + k ≤ cap →
      (∀ j, j < cs.length + news.length → cs.length ≤ j → ¬ g.imm b (o + j)) → Cells g w hp.length b o cs →
      ∃ w', (Builtin.append_ #[T, U] ty #[v, x]).run P w = .ok (.slice (some ⟨b, o, none⟩) (n + k) cap) w' ∧ Rel g w' tm fr hp ∧ X base dd g w hp g w' hp ∧ Ext0 g w hp.length g w' hp.length ∧ w'.heap.size = w.heap.size ∧
        (∀ j, (w'.cell? ⟨b, j, none⟩).isSome = (w.cell? ⟨b, j, none⟩).isSome ∧ w'.frozen? ⟨b, j, none⟩ = w.frozen? ⟨b, j, none⟩) ∧ Cells g w' hp.length b o (cs ++ ys.map outCell) := by
    intro b o cap sz hv hb room hsz hle himm hc
    subst hv hsz
    have hin : ∀ j, j < news.length → n * i.size + j < cap * i.size := fun j hj => by
      have : (n + k) * i.size ≤ cap * i.size := Nat.mul_le_mul_right _ hle
      rw [Nat.add_mul] at this
      omega
    have hcell : ∀ j, j < news.length → (w.cell? ⟨b, o + n * i.size + j, none⟩).isSome = true ∧ w.frozen? ⟨b, o + n * i.size + j, none⟩ = false := fun j hj => by
      have := room (n * i.size + j) (hin j hj)
      rwa [← Nat.add_assoc] at this
    have hni : ∀ j, j < news.length → ¬ g.imm b (o + n * i.size + j) := fun j hj => by
      have := himm (n * i.size + j) (by omega) (by omega)
      rwa [← Nat.add_assoc] at this
    have hrun := run_append_room_src (P := P) w T U ty e i hT hi b o n cap x k news hs hle (fun j hj => (hcell j hj).1) (fun j hj => (hcell j hj).2)
    obtain ⟨R', X'⟩ := R.pokeNone (base := base) (d := dd) hb (fun j hj => (hcell j hj).1) hni
    have e0 : Ext0 g w hp.length g (w.setCells b (o + n * i.size) news) hp.length := poke_e0 _ _ _ hni
    refine ⟨_, hrun, R', X', e0, (setCells_rest b news _ w).2.2.2.1, fun j => ⟨poke_there _ _ _ (fun j hj => (hcell j hj).1) _ _, World.frozen?_setCells b news _ w _⟩, fun j y hy => ?_⟩
    rcases append_get hy with h | ⟨z', h1, h2, rfl⟩
    · obtain ⟨u, h3, h4⟩ := hc j y h
      refine ⟨u, ?_, h4.mono e0⟩
      rw [poke_cell]
      · exact h3
      · rintro ⟨_, h5, _⟩
        have := lt_of_some h
        omega
    · have hlt := lt_of_some h2
      have hlt' : j - cs.length < news.length := by omega
      refine ⟨news[j - cs.length], ?_, ((hnV _ _ z' (List.getElem?_eq_getElem hlt') h2).mono e0).outCell⟩
      have := poke_in (w := w) b (o + n * i.size) news (fun j hj => (hcell j hj).1) (j - cs.length) _ (List.getElem?_eq_getElem hlt')
      rwa [show o + n * i.size + (j - cs.length) = o + j by omega] at this
  have hL : (cs ++ ys.map outCell).length = (n + k) * i.size := by simp [hlen, hys, Nat.add_mul]
  cases h with
  | of h =>
    cases h with
    | sl0 a _ =>
      rcases Nat.eq_zero_or_pos k with hk | hk
      · exact none' rfl (Nat.le_refl _) hk ⟨g, R, X.refl _ _ _ _ _, .of (.sl0 _ _)⟩
      · exact grow rfl rfl (olds0 rfl rfl) (fun j u y hu => by simp at hu) (by omega)
    | sh0 a cap => exact (htg rfl).elim
    | sl _ b o _ cap _ f htg2 hle hc hv =>
      rcases htg2 with rfl | ⟨rfl, rfl⟩
      · exact (htg rfl).elim
      · have hC : Cells g w hp.length b o cs := fun j y hy => ⟨f j, (hc j y hy).2, hv j y hy⟩
        have hI : ImmC g b o cs.length := fun j hj => (hc j _ (List.getElem?_eq_getElem hj)).1
        rcases Nat.eq_zero_or_pos k with hk | hk
        · refine none' rfl (Nat.le_refl _) hk ⟨g, R, X.refl _ _ _ _ _, ?_⟩
          rcases htg' with ⟨rfl, ⟨h, _⟩ | ⟨s, h⟩⟩ | ⟨rfl, _⟩
          · subst h
            have : cs = [] := List.eq_nil_of_length_eq_zero (by simpa using hlen)
            subst this
            exact .of (.sl0 _ _)
          · cases h
          · exact .full hI hC
        · obtain ⟨olds, h1, h2, h3⟩ := oldsOf (cap := cap) hC
          exact grow rfl h1 h2 h3 (by omega)
  | @full b o _ sz _ hI hC =>
    rcases Nat.eq_zero_or_pos k with hk | hk
    · refine none' rfl (Nat.le_refl _) hk ⟨g, R, X.refl _ _ _ _ _, ?_⟩
      rcases htg' with ⟨rfl, ⟨_, h⟩ | ⟨s, h⟩⟩ | ⟨rfl, _⟩
      · cases h
      · cases h
      · exact .full hI hC
    · obtain ⟨olds, h1, h2, h3⟩ := oldsOf (cap := n) hC
      exact grow rfl h1 h2 h3 (by omega)
  | @mu b o _ cap sz _ hb hlt hle hlen' room hi' hC h0 =>
    rcases Nat.lt_or_ge cap (n + k) with hg | hg
    · obtain ⟨olds, h1, h2, h3⟩ := oldsOf (cap := cap) hC
      exact grow rfl h1 h2 h3 hg
    · have hs' : sz = i.size := by
        rcases hsz sz (.inl rfl) with h | ⟨h1, h2⟩
        · exact h
        · subst h1 h2; simp at h0
      obtain ⟨w', hrun, R', X', e0, hsz', hsame, hC'⟩ := room' rfl hb room hs' hg (fun j _ _ => hi' _) hC
      refine ⟨_, w', hrun, g, R', X', ?_⟩
      rcases htg' with ⟨rfl, _⟩ | ⟨rfl, h⟩
      · subst hs'
        exact .mu hb (by rw [hsz']; exact hlt) hg hL (fun j hj => by rw [(hsame _).1, (hsame _).2]; exact room j hj) hi' hC' (h0.elim (fun h => .inl (by omega)) .inr)
      · exact (h sz rfl).elim
  | @ow b o _ cap sz _ hb hlt hle hlen' room hi' hx hC h0 =>
    rcases Nat.lt_or_ge cap (n + k) with hg | hg
    · obtain ⟨olds, h1, h2, h3⟩ := oldsOf (cap := cap) hC
      exact grow rfl h1 h2 h3 hg
    · have hs' : sz = i.size := by
        rcases hsz sz (.inr rfl) with h | ⟨h1, h2⟩
        · exact h
        · subst h1 h2; simp at h0
      obtain ⟨w', hrun, R', X', e0, hsz', hsame, hC'⟩ := room' rfl hb room hs' hg (fun j _ h2 hj => by have := hx _ hj; omega) hC
      refine ⟨_, w', hrun, ?_⟩
      subst hs'
      rcases htg' with ⟨rfl, ⟨_, h⟩ | ⟨s, h⟩⟩ | ⟨rfl, h⟩
      · cases h
      · cases h
      · have hex : ∀ j, j < (cs ++ ys.map outCell).length → (w'.cell? ⟨b, o + j, none⟩).isSome = true := fun j hj => by
          obtain ⟨u, h1, _⟩ := hC' j _ (List.getElem?_eq_getElem hj); rw [h1]; rfl
        obtain ⟨R3, x3⟩ := R'.freezeNone (base := base) (d := dd) hb o _ hex
        refine ⟨_, R3, by simpa using X'.trans x3, .ow hb (by rw [hsz']; exact hlt) hg hL (fun j hj => by rw [(hsame _).1, (hsame _).2]; exact room j hj) (fun j hj => .inr ⟨rfl, by omega, by omega⟩) (fun j hj => ?_) (hC'.mono (freeze_e0 _ _ _) fun _ _ => rfl) (h0.elim (fun h => .inl (by omega)) .inr)⟩
        rcases hj with hj | ⟨_, h1, h2⟩
        · have := hx j hj; simp; omega
        · exact h2

theorem elemT_spec {T e : TypeId} (h : elemT P T = some e) : P.underlying T = some (.slice e) := by
  unfold elemT at h
  split at h
  · rename_i hu; cases h; exact hu
  · cases h
theorem fits_spec {e : TypeId} {m : Nat} (h : fits P e m = true) : ∃ i z, P.info? e = some i ∧ i.zero = some z ∧ z.cells.size = i.size ∧ m * i.bytes ≤ 140737488355328 ∧ 0 < i.bytes ∧ sizeT P e = i.size := by
  unfold fits at h
  split at h
  · rename_i i z hi hz
    simp only [decide_eq_true_eq] at h
    unfold zeroT at hz
    rw [hi] at hz
    simp only at hz
    split at hz
    · rename_i v hv
      cases hz
      refine ⟨i, v, hi, hv, by simpa using h.2.2, h.1, h.2.1, by simp [sizeT, hi]⟩
    · cases hz
  · cases h

theorem appendExec {a : Act} {o : Oper} {c : Call} (ho : o.op = .call c) (hc : c.callee = .builtin .append) {x y : Operand} (hargs : c.args.toList = [x, y]) {T U : TypeId} (hT : c.argTypes.toList = [T, U]) {v : Value} {w' : World}
    (h : (Builtin.append_ #[T, U] o.type #[a.eval x, a.eval y]).run P w = .ok v w') : (execOp a.eval o).run P w = .ok (.value v) w' := by
  have e1 : c.args = #[x, y] := by rw [← Array.toArray_toList (xs := c.args), hargs]
  have e2 : c.argTypes = #[T, U] := by rw [← Array.toArray_toList (xs := c.argTypes), hT]
  have h1 : ∀ cs args, builtin .append c.argTypes o.type cs args = (do pure (.value (← Builtin.append_ c.argTypes o.type args)) : Sem Next) := fun _ _ => rfl
  simp only [execOp, ho, resolve, hc, invoke, Sem.run_bind, Sem.run_pure, Result.andThen_ok]
  rw [h1, e1, e2]
  have e3 : #[x, y].map a.eval = #[a.eval x, a.eval y] := by simp
  rw [e3]
  simp only [Sem.run_bind, h, Result.andThen_ok, Sem.run_pure]

/-- The slice stands at a place. -/
theorem appendGoOK {st st1 : St} {a : Act} (R : Rel g w a.tmps st.fr st.hp) {o : Oper} (hd : ∀ d, o.dst = some d → d < a.tmps.size) {c : Call} (ho : o.op = .call c) (hc : c.callee = .builtin .append)
    {x y : Operand} (hargs : c.args.toList = [x, y]) {T U e e' : TypeId} (hT : c.argTypes.toList = [T, U]) (he : P.underlying T = some (.slice e)) (hU : P.underlying U = some (.slice e'))
    {k : Nat} {ys : List PV} (hy : content st (opv st.fr y) = some (k, ys)) (hys : ys.length = k * sizeT P e) (hst : ys.all storable = true) {r : Root} {pre : Option Nat} (hv : valAt g w a.tmps r pre = some (a.eval x))
    {z : PV} (h : appendGo P st e k ys r pre = some (st1, z)) : StepOK P a o st (setSlot st1 o.dst z) g w := by
  unfold appendGo at h
  split at h
  · rename_i tg n cs hn
    split at h
    · rename_i hcond
      obtain ⟨hlen, hf⟩ := hcond
      obtain ⟨i, zv, hi, hz, hzs, hfit, hby, hsi⟩ := fits_spec hf
      obtain ⟨⟨ty, hys0⟩, _⟩ := opv_sound R a rfl y
      rw [hsi] at hlen hys
      obtain ⟨news, hsrc, hnV⟩ := content_src (w := w) R hys0 hy hys hst hU
      obtain ⟨htg, u, hu, hL⟩ := navS_at R hn
      rw [hv] at hu; cases hu
      obtain ⟨R1, f, S1, m, e1⟩ := moveOut_sound R hn
      rw [← S1.base] at m
      rw [← e1] at hL
      obtain ⟨g2, R2, X2, hres, hkeep, _⟩ := R1.release f m hL
      have fin : ∀ {tg' : Tag}, (∀ s, tg = .mu s ∨ tg = .ow s → s = i.size ∨ (s = 0 ∧ n = 0)) → (tg' = .mu i.size ∧ ((n = 0 ∧ tg = .fr) ∨ ∃ s, tg = .mu s) ∨ tg' = .ow i.size ∧ ∀ s, tg ≠ .mu s) →
          StepOK P a o st (setSlot (moveOut st r pre) o.dst (.sl tg' (n + k) (cs ++ ys.map outCell))) g w := fun {tg'} h1 h2 => by
        obtain ⟨v', w', hrun, g3, R3, X3, hres3⟩ := appendRes (base := (moveOut st r pre).base) (dd := (moveOut st r pre).dirty) (ty := o.type) R2 he hi hz hzs hres htg.1 h1 hlen hys hsrc (fun j u y h1 h2 => hkeep _ _ (by rw [e1]; exact hnV j u y h1 h2)) hfit hby h2
        obtain ⟨g4, R4, S4⟩ := R3.landDst (a := a) (st := moveOut st r pre) (dst := o.dst) hd hres3
        exact Runs.value (appendExec ho hc hargs hT hrun) ⟨g4, R4, (S1.trans (StepR.ofX rfl rfl (X2.trans X3) (by simp))).trans S4⟩
      split at h
      · split at h
        · rename_i s hs
          cases h
          rw [hsi] at hs ⊢
          exact fin (fun s' h => by rcases h with h | h <;> cases h; exact hs) (.inl ⟨rfl, .inr ⟨s, rfl⟩⟩)
        · cases h
      · split at h
        · rename_i s hs
          cases h
          rw [hsi] at hs ⊢
          exact fin (fun s' h => by rcases h with h | h <;> cases h; exact hs) (.inr ⟨rfl, fun s h => by cases h⟩)
        · cases h
      · cases h
    · cases h
  · cases h

theorem appendOK {st st1 : St} {a : Act} (R : Rel g w a.tmps st.fr st.hp) {o : Oper} (hd : ∀ d, o.dst = some d → d < a.tmps.size) {c : Call} (ho : o.op = .call c) (hc : c.callee = .builtin .append)
    {x y : Operand} (hargs : c.args.toList = [x, y]) {T U : TypeId} (hT : c.argTypes.toList = [T, U]) (hU : (elemT P U).isSome = true) {v : PV} (h : appendOp P st T x (opv st.fr y) = some (st1, v)) : StepOK P a o st (setSlot st1 o.dst v) g w := by
  obtain ⟨e', hU⟩ := Option.isSome_iff_exists.1 hU
  have hU := elemT_spec hU
  unfold appendOp at h
  split at h
  · rename_i e k ys he hy
    have he := elemT_spec he
    split at h
    · rename_i hcond
      obtain ⟨hys, hst⟩ := hcond
      obtain ⟨⟨tx, hx⟩, _⟩ := opv_sound R a rfl x
      split at h
      · rename_i r pre hxo
        rw [hxo] at hx
        exact appendGoOK R hd ho hc hargs hT he hU hy hys hst hx.hd_inv h
      · rename_i n cs hxo
        split at h
        · rename_i hcond
          obtain ⟨hlen, hf⟩ := hcond
          cases h
          obtain ⟨i, zv, hi, hz, hzs, hfit, hby, hsi⟩ := fits_spec hf
          obtain ⟨⟨ty, hys0⟩, _⟩ := opv_sound R a rfl y
          rw [hsi] at hlen hys ⊢
          obtain ⟨news, hsrc, hnV⟩ := content_src (w := w) R hys0 hy hys hst hU
          rw [hxo] at hx
          have hres : ResV g w st.hp.length (a.eval x) (.sl .fr n cs) := .of (hx.sl_inv.toV fun s n' xs => by simp)
          obtain ⟨v', w', hrun, g3, R3, X3, hres3⟩ := appendRes (base := st.base) (dd := st.dirty) (ty := o.type) R he hi hz hzs hres (by simp) (fun s h => by rcases h with h | h <;> cases h) hlen hys hsrc hnV hfit hby (tg' := if n = 0 then .mu i.size else .ow i.size) (by
            by_cases h0 : n = 0
            · exact .inl ⟨by simp [h0], .inl ⟨h0, rfl⟩⟩
            · exact .inr ⟨by simp [h0], fun s h => by cases h⟩)
          obtain ⟨g4, R4, S4⟩ := R3.landDst (a := a) (st := st) (dst := o.dst) hd hres3
          exact Runs.value (appendExec ho hc hargs hT hrun) ⟨g4, R4, (StepR.ofX rfl rfl X3 id).trans S4⟩
        · cases h
      · split at h
        · rename_i t
          exact appendGoOK R hd ho hc hargs hT he hU hy hys hst rfl h
        · cases h
      · cases h
    · cases h
  · cases h
end
end Go.PS
end

section
/-
  The built-in copy; bytes of a text; loads.
-/
namespace Go.PS
section
variable {g g' g1 g2 : G} {w w' w1 w2 : World} {hn hn' : Nat} {tm : Array Value} {fr fr' : Fr} {hp hp' hp1 hp2 : Heap} {P : Program} {t : Nat}

/-- Values that last, written into a variable's cells. -/
theorem storeVals (P : Program) {st : St} (R : Rel g w tm st.fr st.hp) {r : Root} {cs : List PV} (hr : rootPV st r = .box cs) {vs : List Value} {ys : List PV} (hlen : vs.length = ys.length)
    (hV : ∀ (j : Nat) (v : Value) (y : PV), vs[j]? = some v → ys[j]? = some y → V g w st.hp.length v y) (hst : ys.all storable = true) (off : Nat) (hle : off + ys.length ≤ cs.length) :
    let st' := putRoot { st with fr := killFr (.subs r) st.fr } r (.box (splice cs off ys))
    ∃ b g' , g.loc r none = (b, 0) ∧ (∀ j, j < vs.length → (w.cell? ⟨b, off + j, none⟩).isSome = true ∧ w.frozen? ⟨b, off + j, none⟩ = false) ∧ Rel g' (w.setCells b off vs) tm st'.fr st'.hp ∧ StepR st st' g w g' (w.setCells b off vs) := by
  intro st'
  let t0 := tm.size
  have hg : get st.fr t0 = .undef := by
    by_cases h : get st.fr t0 = .undef
    · exact h
    · exact (Nat.lt_irrefl _ (R.size t0 h)).elim
  have hr0 : ∀ t' pre, refOf (get st.fr t') ≠ some (.slot t0, pre) := fun t' pre e => by
    have := R.live t' t0 pre e
    rw [hg] at this
    cases pre <;> cases this
  have T : TakenV g w st.hp.length tm st.fr st.hp st.base st.dirty [(t0, .nilp)] (.agg vs.toArray) (.agg ys) :=
    .agg t0 vs.toArray ys hg hr0 (by simpa using hlen) (fun j v y h1 h2 => .of (hV j v y (by simpa using h1) h2)) fun d hd e => by
      subst e; simp [get] at hd
  obtain ⟨b, g2, w2, hl, hcs, rfl, hthere, hone, R2, S2⟩ := storeBox (P := P) R T hst hr off hle (.subs r) (fun j _ => by simp [Kill.hits]) 0
  exact ⟨b, g2, hl, fun j hj => hthere j (by simpa [Value.cells] using hj), by simpa [Value.cells, retag, cellsOf] using R2, by simpa [Value.cells, retag, cellsOf] using S2⟩

/-- What a copy reads, from the front. -/
theorem copySrc_sound {st : St} (R : Rel g w tm st.fr st.hp) {e : TypeId} {v : Value} {x : PV} {k : Nat} {ys : List PV} (hx : Slot g w st.hp.length tm t v x) (h : copySrc P e st x = some (k, ys)) (hlen : ys.length = k * sizeT P e) (hst : ys.all storable = true) :
    (Builtin.lenOf v).run P w = .ok k w ∧ ∀ m, m ≤ k → ∃ news : List Value, news.length = m * sizeT P e ∧ (Builtin.firstCells (sizeT P e) m v).run P w = .ok news.toArray w ∧ (∀ u ∈ news, u.oneCell' = true) ∧
      ∀ (j : Nat) (u : Value) (y : PV), news[j]? = some u → (ys.take (m * sizeT P e))[j]? = some y → V g w st.hp.length u y := by
  have slice : ∀ {x : PV}, Slot g w st.hp.length tm t v x → content st x = some (k, ys) → (Builtin.lenOf v).run P w = .ok k w ∧ ∀ m, m ≤ k → ∃ news : List Value, news.length = m * sizeT P e ∧ (Builtin.firstCells (sizeT P e) m v).run P w = .ok news.toArray w ∧ (∀ u ∈ news, u.oneCell' = true) ∧
      ∀ (j : Nat) (u : Value) (y : PV), news[j]? = some u → (ys.take (m * sizeT P e))[j]? = some y → V g w st.hp.length u y := by
    intro x hx h
    rcases content_sound R hx h with ⟨rfl, rfl, a, cap, rfl⟩ | ⟨b, o, cap, rfl, hle, hc⟩
    · refine ⟨rfl, fun m hm => ⟨[], (by have : m = 0 := (by omega); subst this; simp), ?_, (fun u hu => by cases hu), fun j u y hu => by simp at hu⟩⟩
      have : m = 0 := by omega
      subst this
      cases a with
      | none => exact run_firstCells_none w _ 0 0 cap
      | some a => exact run_firstCells_some w _ 0 a 0 cap [] (by simp) (fun j u hu => by simp at hu)
    · refine ⟨rfl, fun m hm => ?_⟩
      obtain ⟨vs, h1, h2, h3⟩ := hc.vals
      have hms : m * sizeT P e ≤ ys.length := by rw [hlen]; exact Nat.mul_le_mul_right _ hm
      have hl : (vs.take (m * sizeT P e)).length = m * sizeT P e := by rw [List.length_take]; omega
      have hsub : ∀ (j : Nat) (u : Value), (vs.take (m * sizeT P e))[j]? = some u → vs[j]? = some u := fun j u hu => by
        rw [List.getElem?_take] at hu; split at hu
        · exact hu
        · cases hu
      refine ⟨vs.take (m * sizeT P e), hl, run_firstCells_some w _ m ⟨b, o, none⟩ k cap _ hl (fun j u hu => ?_), fun u hu => ?_, fun j u y hu hy => ?_⟩
      · rw [addr_add]; exact h2 j u (hsub j u hu)
      · obtain ⟨j, hj, rfl⟩ := List.mem_iff_getElem.1 (List.mem_of_mem_take hu)
        have hj' : j < ys.length := by omega
        exact (h3 j _ _ (List.getElem?_eq_getElem hj) (List.getElem?_eq_getElem hj')).oneCell (List.all_eq_true.1 hst _ (List.getElem_mem hj'))
      · refine h3 j u y (hsub j u hu) ?_
        rw [List.getElem?_take] at hy; split at hy
        · exact hy
        · cases hy
  unfold copySrc at h
  split at h
  · rename_i s
    split at h
    · rename_i he
      cases h
      obtain ⟨b, rfl, rfl⟩ := hx.str_inv
      rw [he] at hlen ⊢
      refine ⟨by rw [size_toList]; rfl, fun m hm => ⟨((b.extract 0 m).data.toList.map fun c => Value.int .u8 c.toNat), ?_, ?_, fun u hu => ?_, fun j u y hu hy => ?_⟩⟩
      · have : b.data.toList.length = b.size := by rw [Array.length_toList]; rfl
        simp only [List.length_map, Array.length_toList, ByteArray.data_extract, Array.size_extract, Nat.mul_one]
        have : b.data.size = b.size := rfl
        simp at hm
        omega
      · simp only [Builtin.firstCells, Sem.run_pure, ByteArray.data_extract]
        congr 1
        apply Array.ext'
        simp
      · obtain ⟨_, _, rfl⟩ := List.mem_map.1 hu; rfl
      · simp only [ByteArray.data_extract, Array.toList_extract, List.extract_eq_take_drop, List.drop_zero, Nat.sub_zero, List.getElem?_map, Option.map_eq_some_iff, List.getElem?_take, Nat.mul_one] at hu
        obtain ⟨c, hc, rfl⟩ := hu
        rw [List.getElem?_take, Nat.mul_one] at hy
        split at hc
        · rename_i hlt
          rw [if_pos hlt] at hy
          simp only [ofBytes, List.getElem?_map, hc, Option.map_some, Option.some.injEq] at hy
          subst hy
          exact .int _ _
        · cases hc
    · cases h
  · exact slice hx h

theorem copyExec {a : Act} {o : Oper} {c : Call} (ho : o.op = .call c) (hc : c.callee = .builtin .copy) {x y : Operand} (hargs : c.args.toList = [x, y]) {T U : TypeId} (hT : c.argTypes.toList = [T, U]) {v : Value} {w' : World}
    (h : (Builtin.copy_ #[T, U] o.type #[a.eval x, a.eval y]).run P w = .ok v w') : (execOp a.eval o).run P w = .ok (.value v) w' := by
  have e1 : c.args = #[x, y] := by rw [← Array.toArray_toList (xs := c.args), hargs]
  have e2 : c.argTypes = #[T, U] := by rw [← Array.toArray_toList (xs := c.argTypes), hT]
  have h1 : ∀ cs args, builtin .copy c.argTypes o.type cs args = (do pure (.value (← Builtin.copy_ c.argTypes o.type args)) : Sem Next) := fun _ _ => rfl
  simp only [execOp, ho, resolve, hc, invoke, Sem.run_bind, Sem.run_pure, Result.andThen_ok]
  rw [h1, e1, e2]
  have e3 : #[x, y].map a.eval = #[a.eval x, a.eval y] := by simp
  rw [e3]
  simp only [Sem.run_bind, h, Result.andThen_ok, Sem.run_pure]

/-- The model's copy, where the cells that it writes are there. -/
theorem run_copy_to {T U ty e : TypeId} {i : TypeInfo} (hT : P.underlying T = some (.slice e)) (hi : P.info? e = some i) {b o n cap k : Nat} {x : Value} (hl : (Builtin.lenOf x).run P w = .ok k w) {news : List Value}
    (hf : (Builtin.firstCells i.size (min k n) x).run P w = .ok news.toArray w) (hone : ∀ u ∈ news, u.oneCell' = true) (hthere : ∀ j, j < news.length → (w.cell? ⟨b, o + j, none⟩).isSome = true ∧ w.frozen? ⟨b, o + j, none⟩ = false) :
    (Builtin.copy_ #[T, U] ty #[.slice (some ⟨b, o, none⟩) n cap, x]).run P w = .ok (.int .i64 (min k n : Nat)) (w.setCells b o news) := by
  have hst := run_storeCells_cells (P := P) b o news 0 w (by simpa using fun j hj => (hthere j hj).1) (by simpa using fun j hj => (hthere j hj).2) hone
  simp only [Nat.add_zero] at hst
  have hf' : (Builtin.firstCells i.size (Nat.min k n) x).run P w = .ok news.toArray w := hf
  simp [Builtin.copy_, run_underlying hT, sizeOf, typeInfo, hi, hl, hf', hst, goInt]
/-- Nothing is copied into an empty slice. -/
theorem run_copy_empty {T U ty e : TypeId} {i : TypeInfo} (hT : P.underlying T = some (.slice e)) (hi : P.info? e = some i) {a : Option Addr} {cap k : Nat} {x : Value} (hl : (Builtin.lenOf x).run P w = .ok k w)
    (hf : (Builtin.firstCells i.size 0 x).run P w = .ok #[] w) : (Builtin.copy_ #[T, U] ty #[.slice a 0 cap, x]).run P w = .ok (.int .i64 0) w := by
  have h0 : Nat.min k 0 = 0 := by simp [Nat.min_def]
  cases a <;> simp [Builtin.copy_, run_underlying hT, sizeOf, typeInfo, hi, hl, h0, hf, goInt, storeCells]

theorem copyOK {st st1 : St} {a : Act} (Tb : Tabs P) (R : Rel g w a.tmps st.fr st.hp) {o : Oper} (hd : ∀ d, o.dst = some d → d < a.tmps.size) {c : Call} (ho : o.op = .call c) (hc : c.callee = .builtin .copy)
    {x y : Operand} (hargs : c.args.toList = [x, y]) {T U : TypeId} (hT : c.argTypes.toList = [T, U]) {n : Nat} (h : copyOp P st T (opv st.fr x) (opv st.fr y) = some (st1, n)) : StepOK P a o st (setSlot st1 o.dst (.int .i64 n)) g w := by
  unfold copyOp at h
  split at h
  · cases h
  · rename_i e he
    have he := elemT_spec he
    obtain ⟨i, hi⟩ := Tb.slice _ _ he
    have hsi : sizeT P e = i.size := by simp [sizeT, hi]
    split at h
    · cases h
    · rename_i k ys hsrc
      split at h
      · rename_i hcond
        obtain ⟨hlen, hst⟩ := hcond
        obtain ⟨⟨tx, hx⟩, _⟩ := opv_sound R a rfl x
        obtain ⟨⟨ty, hy⟩, _⟩ := opv_sound R a rfl y
        obtain ⟨hlof, hfirst⟩ := copySrc_sound (P := P) R hy hsrc hlen hst
        have empty : ∀ {a0 : Option Addr} {cap : Nat}, a.eval x = .slice a0 0 cap → (Builtin.copy_ #[T, U] o.type #[a.eval x, a.eval y]).run P w = .ok (.int .i64 0) w := fun {a0 cap} hv => by
          obtain ⟨news, h1, h2, _, _⟩ := hfirst 0 (by omega)
          have : news = [] := List.eq_nil_of_length_eq_zero (by simpa using h1)
          subst this
          rw [hsi] at h2
          rw [hv]
          exact run_copy_empty he hi hlof h2
        have done' : ∀ {g' : G} {w' : World} {m : Nat} {st2 : St}, (Builtin.copy_ #[T, U] o.type #[a.eval x, a.eval y]).run P w = .ok (.int .i64 (m : Nat)) w' → Rel g' w' a.tmps st2.fr st2.hp → StepR st st2 g w g' w' → StepOK P a o st (setSlot st2 o.dst (.int .i64 m)) g w := fun {g' w' m st2} hrun R2 S2 =>
          Runs.value (copyExec ho hc hargs hT hrun) ⟨g', R2.putFlat hd (fun t => (V.int _ _).slot t) (V.int (g := g') (w := w') (hn := st2.hp.length) _ _).lv, S2.setSlot _ _⟩
        -- the copy into a place
        have main : ∀ {r : Root} {pre : Option Nat} {off m : Nat} {b oo cap : Nat} {st2 : St}, copyTo st r pre off (ys.take (min k m * sizeT P e)) = some st2 → a.eval x = .slice (some ⟨b, oo + off, none⟩) m cap → g.loc r pre = (b, oo) → StepOK P a o st (setSlot st2 o.dst (.int .i64 (min k m : Nat))) g w := by
          intro r pre off m b oo cap st2 hcp hv hloc
          obtain ⟨news, hn1, hn2, hn3, hn4⟩ := hfirst (min k m) (Nat.min_le_left _ _)
          have hml : (ys.take (min k m * sizeT P e)).length = min k m * sizeT P e := by
            rw [List.length_take, hlen]
            have : min k m * sizeT P e ≤ k * sizeT P e := Nat.mul_le_mul_right _ (Nat.min_le_left _ _)
            omega
          have hnl : news.length = (ys.take (min k m * sizeT P e)).length := by rw [hn1, hml]
          have hst' : (ys.take (min k m * sizeT P e)).all storable = true := List.all_eq_true.2 fun z hz => List.all_eq_true.1 hst z (List.mem_of_mem_take hz)
          unfold copyTo at hcp
          split at hcp
          · rename_i s n cs hnav
            split at hcp
            · rename_i hle
              cases hcp
              have hlenO : news.length = ((ys.take (min k m * sizeT P e)).map outCell).length := by simpa using hnl
              have hVO : ∀ (j : Nat) (v : Value) (z : PV), news[j]? = some v → ((ys.take (min k m * sizeT P e)).map outCell)[j]? = some z → V g w st.hp.length v z := fun j v z h1 h2 => by
                simp only [List.getElem?_map, Option.map_eq_some_iff] at h2
                obtain ⟨z', h3, rfl⟩ := h2
                exact (hn4 j v z' h1 h3).outCell
              rcases Nat.eq_zero_or_pos news.length with h0 | h0
              · have hnn : news = [] := List.eq_nil_of_length_eq_zero h0
                have hyy : ys.take (min k m * sizeT P e) = [] := List.eq_nil_of_length_eq_zero (by omega)
                subst hnn
                have hrun : (Builtin.copy_ #[T, U] o.type #[a.eval x, a.eval y]).run P w = .ok (.int .i64 (min k m : Nat)) (w.setCells b (oo + off) []) := by
                  rw [hv]
                  exact run_copy_to he hi hlof (by rw [← hsi]; exact hn2) hn3 (fun j hj => by simp at hj)
                rw [hyy, List.map_nil, splice_nil]
                obtain ⟨d1, d2, d3, d4⟩ := put_dirty (st := st) (r := r) (pre := pre) (x := .sl (.mu s) n cs)
                exact done' (w' := w) hrun (R.putNode hnav fun u hu => hu) ⟨d1, d2, put_X⟩
              · obtain ⟨b', o', hl, hthere, R2, S2⟩ := storeRow R hnav hlenO hVO off (by simpa using hle) (by omega)
                rw [hloc] at hl; cases hl
                refine done' (w' := w.setCells b (oo + off) news) ?_ R2 S2
                rw [hv]
                exact run_copy_to he hi hlof (by rw [← hsi]; exact hn2) hn3 hthere
            · cases hcp
          · rename_i cs hnav
            split at hcp
            · rename_i hle
              cases hcp
              have hpre : pre = none ∧ rootPV st r = .box cs := by
                unfold nav at hnav
                split at hnav
                · rename_i hr; cases hnav; exact ⟨rfl, hr⟩
                · cases hnav
                · cases hnav
                · split at hnav <;> cases hnav
                · cases hnav
              obtain ⟨rfl, hr⟩ := hpre
              obtain ⟨b', g2, hl, hthere, R2, S2⟩ := storeVals P R hr hnl hn4 hst' off hle
              rw [hloc] at hl; cases hl
              rw [Nat.zero_add] at hv
              refine done' (w' := w.setCells b off news) ?_ R2 S2
              rw [hv]
              exact run_copy_to he hi hlof (by rw [← hsi]; exact hn2) hn3 hthere
            · cases hcp
          · cases hcp
        -- an empty place
        have main0 : ∀ {r : Root} {pre : Option Nat} {off : Nat} {a0 : Option Addr} {cap : Nat} {st2 : St}, copyTo st r pre off (ys.take (min k 0 * sizeT P e)) = some st2 → a.eval x = .slice a0 0 cap → StepOK P a o st (setSlot st2 o.dst (.int .i64 (min k 0 : Nat))) g w := by
          intro r pre off a0 cap st2 hcp hv
          have h0 : min k 0 = 0 := by simp
          rw [h0] at hcp ⊢
          simp only [Nat.zero_mul, List.take_zero] at hcp
          have hrun := empty hv
          unfold copyTo at hcp
          split at hcp
          · rename_i s n cs hnav
            split at hcp
            · cases hcp
              rw [List.map_nil, splice_nil]
              obtain ⟨d1, d2, d3, d4⟩ := put_dirty (st := st) (r := r) (pre := pre) (x := .sl (.mu s) n cs)
              exact done' (w' := w) (m := 0) hrun (R.putNode hnav fun u hu => hu) ⟨d1, d2, put_X⟩
            · cases hcp
          · rename_i cs hnav
            split at hcp
            · cases hcp
              rw [splice_nil]
              have hr : rootPV st r = .box cs := by
                unfold nav at hnav
                split at hnav
                · rename_i hr; cases hnav; exact hr
                · cases hnav
                · cases hnav
                · split at hnav <;> cases hnav
                · cases hnav
              have hr' := rootPV_killFr (k := .subs r) hr
              have R2 := Rel.putBox (st := { st with fr := killFr (.subs r) st.fr }) (R.kill (.subs r)) hr' (cs' := cs) (fun _ _ h => h)
              obtain ⟨d1, d2, d3⟩ := putRoot_dirty (st := { st with fr := killFr (.subs r) st.fr }) (r := r) (x := .box cs)
              exact done' (w' := w) (m := 0) hrun R2 ⟨d1, d2, putRoot_X (st := { st with fr := killFr (.subs r) st.fr })⟩
            · cases hcp
          · cases hcp
        split at h
        · rename_i r pre hxo
          rw [hxo] at hx
          split at h
          · rename_i tg m cs hn
            simp only [Option.map_eq_some_iff, Prod.mk.injEq] at h
            obtain ⟨st2, hcp, rfl, rfl⟩ := h
            obtain ⟨htg, hL⟩ := hd_at R hx hn
            generalize hv : a.eval x = v at hL
            cases hL with
            | of hV =>
              cases hV with
              | sl0 a0 _ => exact main0 hcp hv
              | sh0 a0 cap => simp at htg
              | sl tg b oo n cap cs f htg2 => rcases htg2 with rfl | ⟨rfl, _⟩ <;> simp at htg
            | mu how hl hle hlen2 room hi2 hc2 h0 => exact main (off := 0) hcp hv hl
            | ow how hl hle hlen2 room hi2 hx2 hc2 h0 => exact main (off := 0) hcp hv hl
            | full hl hi2 hc2 => exact main (off := 0) hcp hv hl
          · cases h
        · rename_i r pre off sz m hxo
          rw [hxo] at hx
          split at h
          · simp only [Option.map_eq_some_iff, Prod.mk.injEq] at h
            obtain ⟨st2, hcp, rfl, rfl⟩ := h
            rcases hx.vw_inv with ⟨rfl, a0, cap, hv⟩ | ⟨b, oo, cap, hloc, hv, _⟩
            · exact main0 hcp hv
            · exact main hcp hv hloc
          · cases h
        · rename_i hxo
          cases h
          rw [hxo] at hx
          rcases hx.sl_inv.row with ⟨_, _, a0, cap, hv, _⟩ | ⟨b, oo, cap, hv, _⟩
          · exact done' (m := 0) (empty hv) R (StepR.refl _ _ _)
          · exact done' (m := 0) (empty hv) R (StepR.refl _ _ _)
        · cases h
      · cases h

/-! ### The built-in clear. -/
theorem clearExec {a : Act} {o : Oper} {c : Call} (ho : o.op = .call c) (hc : c.callee = .builtin .clear) {x : Operand} (hargs : c.args.toList = [x]) {T : TypeId} (hT : c.argTypes.toList = [T]) {v : Value} {w' : World}
    (h : (Builtin.clear_ #[T] o.type #[a.eval x]).run P w = .ok v w') : (execOp a.eval o).run P w = .ok (.value v) w' := by
  have e1 : c.args = #[x] := by rw [← Array.toArray_toList (xs := c.args), hargs]
  have e2 : c.argTypes = #[T] := by rw [← Array.toArray_toList (xs := c.argTypes), hT]
  have h1 : ∀ cs args, builtin .clear c.argTypes o.type cs args = (do pure (.value (← Builtin.clear_ c.argTypes o.type args)) : Sem Next) := fun _ _ => rfl
  simp only [execOp, ho, resolve, hc, invoke, Sem.run_bind, Sem.run_pure, Result.andThen_ok]
  rw [h1, e1, e2]
  have e3 : #[x].map a.eval = #[a.eval x] := by simp
  rw [e3]
  simp only [Sem.run_bind, h, Result.andThen_ok, Sem.run_pure]
theorem run_clear {T ty e : TypeId} (hT : P.underlying T = some (.slice e)) {zv : Value} (hz : (zeroValue e).run P w = .ok zv w) {b o n cap : Nat} (hn : n ≠ 0) {news : List Value} (hnews : (Builtin.zeroCells zv.cells n).toList = news)
    (hone : ∀ u ∈ news, u.oneCell' = true) (hthere : ∀ j, j < news.length → (w.cell? ⟨b, o + j, none⟩).isSome = true ∧ w.frozen? ⟨b, o + j, none⟩ = false) :
    (Builtin.clear_ #[T] ty #[.slice (some ⟨b, o, none⟩) n cap]).run P w = .ok (.tuple #[]) (w.setCells b o news) := by
  have hst := run_storeCells_cells (P := P) b o news 0 w (by simpa using fun j hj => (hthere j hj).1) (by simpa using fun j hj => (hthere j hj).2) hone
  simp only [Nat.add_zero] at hst
  obtain ⟨m, rfl⟩ : ∃ m, n = m + 1 := ⟨n - 1, by omega⟩
  simp [Builtin.clear_, run_underlying hT, hz, hnews, hst]
theorem clearOK {st st1 : St} {a : Act} (Tb : Tabs P) (R : Rel g w a.tmps st.fr st.hp) {o : Oper} (hd : ∀ d, o.dst = some d → d < a.tmps.size) {c : Call} (ho : o.op = .call c) (hc : c.callee = .builtin .clear)
    {x : Operand} (hargs : c.args.toList = [x]) {T : TypeId} (hT : c.argTypes.toList = [T]) (h : clearOp P st T (opv st.fr x) = some st1) : StepOK P a o st (setSlot st1 o.dst (.raw (.tuple #[]))) g w := by
  unfold clearOp at h
  split at h
  · rename_i e r pre off sz n he hxo
    have he := elemT_spec he
    obtain ⟨⟨tx, hx⟩, _⟩ := opv_sound R a rfl x
    rw [hxo] at hx
    split at h
    · rename_i z s k cs hz hnav
      split at h
      · rename_i hcond
        obtain ⟨hsz, hzl, hpos, hle, hsto⟩ := hcond
        cases h
        obtain ⟨zv, hz1, hz2, hz3⟩ := zero_sound (g := g) (w := w) (hn := st.hp.length) hz
        have hVzs := (VL.outCells (g := g) (w := w) (hn := st.hp.length) (zs := zv.cells) (z := z) ⟨hz2, hz3⟩).zeros n
        rw [List.length_map, hzl] at hVzs
        have hn0 : n ≠ 0 := by rintro rfl; simp at hpos
        rcases hx.vw_inv with ⟨rfl, a0, cap, hv⟩ | ⟨b, oo, cap, hloc, hv, _⟩
        · exact (hn0 rfl).elim
        · have hzc : (Builtin.zeroCells zv.cells n) = (Array.range (n * sizeT P e)).map (zv.cells[· % zv.cells.size]!) := by
            unfold Builtin.zeroCells
            rw [hz2, hzl]
          obtain ⟨hl1, hl2⟩ := hVzs
          have hlen : (Builtin.zeroCells zv.cells n).toList.length = (List.replicate n (z.map outCell)).flatten.length := by
            rw [hzc, Array.length_toList]; exact hl1
          have hV : ∀ (j : Nat) (v : Value) (y : PV), (Builtin.zeroCells zv.cells n).toList[j]? = some v → (List.replicate n (z.map outCell)).flatten[j]? = some y → V g w st.hp.length v y := fun j v y h1 h2 => by
            rw [hzc, Array.getElem?_toList] at h1
            exact hl2 j v y h1 h2
          have hfl : (List.replicate n (z.map outCell)).flatten.length = n * sizeT P e := by rw [flatten_length, List.length_map, hzl]
          have hsto' : (List.replicate n (z.map outCell)).flatten.all storable = true := List.all_eq_true.2 fun y hy => by
            obtain ⟨l, hl, hyl⟩ := List.mem_flatten.1 hy
            rw [(List.mem_replicate.1 hl).2] at hyl
            exact List.all_eq_true.1 hsto y hyl
          obtain ⟨b', o', hl, hthere, R2, S2⟩ := storeRow R hnav hlen hV off (by rw [hfl]; exact hle) (by rw [hfl]; exact hpos)
          rw [hloc] at hl; cases hl
          have hone : ∀ u ∈ (Builtin.zeroCells zv.cells n).toList, u.oneCell' = true := fun u hu => by
            obtain ⟨j, hj, rfl⟩ := List.mem_iff_getElem.1 hu
            have hj' : j < (List.replicate n (z.map outCell)).flatten.length := by rw [← hlen]; exact hj
            exact (hV j _ _ (List.getElem?_eq_getElem hj) (List.getElem?_eq_getElem hj')).oneCell (List.all_eq_true.1 hsto' _ (List.getElem_mem hj'))
          refine Runs.value (clearExec ho hc hargs hT (by rw [hv]; exact run_clear he (hz1 w) hn0 rfl hone hthere)) ⟨_, R2.putFlat hd (fun t => (V.raw _ rfl).slot t) (V.raw (g := g) (w := w) (hn := st.hp.length) _ rfl).lv, S2.setSlot _ _⟩
      · cases h
    · cases h
  · cases h
end
end Go.PS
end

section
/-
  A function that sorts rows in place, by a key: what is asked of it, and the evaluator's step.
-/
namespace Go.PS
section
variable {g g' g1 g2 : G} {w w' w1 w2 : World} {hn hn' : Nat} {tm : Array Value} {fr fr' : Fr} {hp hp' hp1 hp2 : Heap} {P : Program} {t : Nat}

theorem intsOf_spec : ∀ {cs : List PV} {l : List Int}, intsOf cs = some l → cs = l.map (.int .i64)
  | [], l, h => by cases h; rfl
  | c :: r, l, h => by
    unfold intsOf at h
    split at h
    · rename_i e; cases e
    · rename_i n r' e
      cases e
      split at h
      · rename_i l' hl
        cases h
        rw [intsOf_spec hl]; rfl
      · cases h
    · cases h
theorem chunk_flatten (s : Nat) : ∀ (n : Nat) (l : List Int), l.length = n * s → (chunk s n l).flatten = l
  | 0, l, h => by
    have : l = [] := List.eq_nil_of_length_eq_zero (by simpa using h)
    subst this; rfl
  | n + 1, l, h => by
    rw [chunk, List.flatten_cons, chunk_flatten s n (l.drop s) (by rw [List.length_drop, h, Nat.succ_mul]; omega), List.take_append_drop]
theorem chunk_length (s : Nat) : ∀ (n : Nat) (l : List Int), (chunk s n l).length = n
  | 0, _ => rfl
  | n + 1, l => by rw [chunk, List.length_cons, chunk_length s n]
theorem chunk_row (s : Nat) : ∀ (n : Nat) (l : List Int), l.length = n * s → ∀ r ∈ chunk s n l, r.length = s
  | 0, _, _, r, hr => by cases hr
  | n + 1, l, h, r, hr => by
    rw [chunk] at hr
    rcases List.mem_cons.1 hr with rfl | hr
    · rw [List.length_take, h, Nat.succ_mul]; omega
    · exact chunk_row s n _ (by rw [List.length_drop, h, Nat.succ_mul]; omega) r hr
theorem insK_perm (key : Nat) (r : List Int) : ∀ l : List (List Int), (insK key r l).Perm (r :: l)
  | [] => .refl _
  | x :: xs => by
    unfold insK
    split
    · exact .refl _
    · exact ((insK_perm key r xs).cons x).trans (.swap r x xs)
theorem sortK_perm (key : Nat) : ∀ l : List (List Int), (sortK key l).Perm l
  | [] => .refl _
  | r :: rs => (insK_perm key r _).trans ((sortK_perm key rs).cons r)
theorem flatten_len {s : Nat} : ∀ {L : List (List Int)}, (∀ r ∈ L, r.length = s) → L.flatten.length = L.length * s
  | [], _ => by simp
  | r :: rs, h => by
    rw [List.flatten_cons, List.length_append, h r (by simp), flatten_len fun x hx => h x (by simp [hx]), List.length_cons, Nat.succ_mul]; omega

/-- What is asked of a function f that sorts rows of s numbers by the closure g, which compares their key-th numbers. -/
structure SortAt (P : Program) (f g s key : Nat) : Prop where
  enters : ∀ us w, (callFunc f us).run P w = .ok (.enter f us) w
  none : ∀ a cap w, Calls P f #[.slice a 0 cap, .func (.func g) #[] #[]] w fun e w' => e = .returned (.tuple #[]) ∧ w' = w
  some : ∀ (rows : List (List Int)) (b off cap : Nat) (w : World), (∀ r ∈ rows, r.length = s) → (rows.map (keyI key)).Nodup → key < s → 0 < rows.length → rows.length ≤ 1000 →
    (∀ (j : Nat) (v : Int), rows.flatten[j]? = Option.some v → w.cell? ⟨b, off + j, Option.none⟩ = Option.some (.int .i64 v) ∧ w.frozen? ⟨b, off + j, Option.none⟩ = false) → b < w.heap.size →
    Calls P f #[.slice (Option.some ⟨b, off, Option.none⟩) rows.length cap, .func (.func g) #[] #[]] w fun e w' => e = .returned (.tuple #[]) ∧
      ∃ m os, w' = { w.setCells b off ((sortK key rows).flatten.map (Value.int .i64)) with drawn := m, heap := (w.setCells b off ((sortK key rows).flatten.map (Value.int .i64))).heap ++ os }

/-- What is asked of calls: those that sort are marked. -/
structure CallS (P : Program) (own : FuncId → Option Nat) (callF : CallF) : Prop where
  call : CallSound P callF
  sort : ∀ f k, sortsOf (own f) = some k → SortAt P f k.1 k.2.1 k.2.2

theorem sortOK {st st' : St} {a : Act} (R : Rel g w a.tmps st.fr st.hp) {f : FuncId} {k : Nat × Nat × Nat} (hs : SortAt P f k.1 k.2.1 k.2.2) {o : Oper} (hd : ∀ d, o.dst = some d → d < a.tmps.size) {c : Call} {fo : Operand} (ho : o.op = .call c) (hc : c.callee = .value fo)
    {cap : List PV} (hf : opv st.fr fo = .fn f cap) (h : sortOp st k cap c.args.toList o.dst = some st') : StepOK P a o st st' g w := by
  unfold sortOp at h
  split at h
  · rename_i x y hargs
    split at h
    · rename_i r pre fg hx hy
      split at h
      · rename_i s n cs hnav
        split at h
        · rename_i l hl
          split at h
          · rename_i hcond
            obtain ⟨rfl, rfl, hkey, hlen, hn, hnd⟩ := hcond
            cases h
            have hcs := intsOf_spec hl
            have hll : l.length = n * k.2.1 := by rw [← hlen, hcs]; simp
            obtain ⟨⟨tf, hsf⟩, _⟩ := opv_sound R a rfl fo
            rw [hf] at hsf
            obtain ⟨cv, hfv, hcv, _⟩ := hsf.fn_inv
            have hcv0 : cv = #[] := Array.eq_empty_of_size_eq_zero (by simpa using hcv)
            subst hcv0
            obtain ⟨⟨ty, hsy⟩, _⟩ := opv_sound R a rfl y
            rw [hy] at hsy
            obtain ⟨cw, hgv, hcw, _⟩ := hsy.fn_inv
            have hcw0 : cw = #[] := Array.eq_empty_of_size_eq_zero (by simpa using hcw)
            subst hcw0
            obtain ⟨⟨tx, hsx⟩, _⟩ := opv_sound R a rfl x
            rw [hx] at hsx
            have hns : navS st r pre = some (.mu k.2.1, n, cs) := by unfold navS; rw [hnav]
            obtain ⟨_, hL⟩ := hd_at R hsx hns
            have hexec : (execOp a.eval o).run P w = .ok (.enter f #[a.eval x, a.eval y]) w := by
              simp only [execOp, ho, resolve, hc, hfv, Deferred.ofValue, Sem.run_bind, Sem.run_pure, Result.andThen_ok, invoke]
              have he : (#[] ++ c.args.map a.eval) ++ #[] = #[a.eval x, a.eval y] := by
                have e1 : c.args = #[x, y] := by rw [← Array.toArray_toList (xs := c.args), hargs]
                rw [e1]; simp
              rw [he]
              exact hs.enters _ _
            have done' : ∀ {g' : G} {w' : World} {st2 : St}, Rel g' w' a.tmps st2.fr st2.hp → StepR st st2 g w g' w' → ∃ g', Rel g' w' (a.put o.dst (.tuple #[])).tmps (setSlot st2 o.dst (.tup [])).fr (setSlot st2 o.dst (.tup [])).hp ∧ StepR st (setSlot st2 o.dst (.tup [])) g w g' w' := fun {g' w' st2} R2 S2 =>
              ⟨g', R2.putFlat hd (fun t => .tup rfl fun j v y h1 h2 => by simp at h2) (fun t pre h => by cases h), S2.setSlot _ _⟩
            rcases Nat.eq_zero_or_pos n with h0 | h0
            · subst h0
              have hc0 : cs = [] := List.eq_nil_of_length_eq_zero (by simpa using hlen)
              subst hc0
              have hv : ∃ a0 cap, a.eval x = .slice a0 0 cap := by
                generalize a.eval x = v at hL
                cases hL with
                | of hV =>
                  cases hV with
                  | sl0 a0 _ => exact ⟨_, _, rfl⟩
                  | sl tg b oo n cap cs f htg2 => rcases htg2 with h | ⟨h, _⟩ <;> cases h
                | mu how hl hle hlen2 room hi2 hc2 h0 => exact ⟨_, _, rfl⟩
              obtain ⟨a0, cp, hv⟩ := hv
              refine Runs.enter hexec ?_
              rw [hv, hgv]
              refine (hs.none a0 cp w).mono fun e w' ⟨he, hw⟩ => ⟨_, he, ?_⟩
              subst hw
              obtain ⟨d1, d2, d3, d4⟩ := put_dirty (st := st) (r := r) (pre := pre) (x := .sl (.mu k.2.1) 0 [])
              exact done' (R.putNode hnav fun u hu => hu) ⟨d1, d2, put_X⟩
            · generalize hrows : chunk k.2.1 n l = rows at hnd ⊢
              have hrl : ∀ r ∈ rows, r.length = k.2.1 := by rw [← hrows]; exact chunk_row _ _ _ hll
              have hrn : rows.length = n := by rw [← hrows]; exact chunk_length _ _ _
              have hrf : rows.flatten = l := by rw [← hrows]; exact chunk_flatten _ _ _ hll
              have hsl : (sortK k.2.2 rows).flatten.length = n * k.2.1 := by
                rw [flatten_len fun r hr => hrl r ((sortK_perm _ _).mem_iff.1 hr), (sortK_perm _ _).length_eq, hrn]
              have hpos : 0 < n * k.2.1 := Nat.mul_pos h0 (by omega)
              have hns2 := hns
              generalize hv : a.eval x = v at hL hsx hexec
              cases hL with
              | of hV =>
                cases hV with
                | sl0 a0 _ => exact (Nat.lt_irrefl _ h0).elim
                | sl tg b oo n cap cs f htg2 => rcases htg2 with h | ⟨h, _⟩ <;> cases h
              | @mu b oo _ cp _ _ how hloc hle hlen2 room hi2 hc2 hh0 =>
                obtain ⟨b', o', hl', hthere, R2, S2⟩ := storeRow R hnav (vs := (sortK k.2.2 rows).flatten.map (Value.int .i64)) (ys := (sortK k.2.2 rows).flatten.map (PV.int .i64)) (by rw [List.length_map, List.length_map])
                  (fun j v y h1 h2 => by
                    simp only [List.getElem?_map, Option.map_eq_some_iff] at h1 h2
                    obtain ⟨z, h3, rfl⟩ := h1
                    obtain ⟨z', h4, rfl⟩ := h2
                    rw [h3] at h4; cases h4
                    exact .int _ _) 0 (by rw [List.length_map, hsl, hlen]; omega) (by rw [List.length_map, hsl]; exact hpos)
                rw [hloc] at hl'; cases hl'
                have hsp : splice cs 0 ((sortK k.2.2 rows).flatten.map (PV.int .i64)) = (sortK k.2.2 rows).flatten.map (PV.int .i64) := by
                  apply List.ext_getElem?
                  intro j
                  rw [splice_get _ _ _ _ (by rw [List.length_map, hsl, hlen]; omega)]
                  simp only [Nat.zero_le, true_and, Nat.zero_add, Nat.sub_zero]
                  split
                  · rfl
                  · rename_i hj
                    rw [List.length_map, hsl] at hj
                    rw [List.getElem?_eq_none (by omega), List.getElem?_eq_none (by rw [List.length_map, hsl]; omega)]
                rw [hsp] at R2 S2
                simp only [Nat.add_zero] at R2 S2
                refine Runs.enter hexec ?_
                rw [hgv, ← hrn]
                refine (hs.some rows b oo cp w hrl hnd hkey (by omega) (by omega) (fun j v hj => ?_) (R.ownLt _ _ how)).mono fun e w' ⟨he, m, os, hw⟩ => ⟨_, he, ?_⟩
                · rw [hrf] at hj
                  have hjl := (List.getElem?_eq_some_iff.1 hj).1
                  obtain ⟨u, h1, h2⟩ := hc2 j (.int .i64 v) (by rw [hcs, List.getElem?_map, hj]; rfl)
                  cases h2
                  exact ⟨h1, (room j (by rw [hll] at hjl; exact Nat.lt_of_lt_of_le hjl (Nat.mul_le_mul_right _ hle))).2⟩
                · generalize w.setCells b oo ((sortK k.2.2 rows).flatten.map (Value.int .i64)) = wm at hw R2 S2
                  have hg : Grow wm w' := by
                    subst hw
                    exact ⟨rfl, rfl, rfl, by simp, fun b hb => by simp [Array.getElem?_append, hb]⟩
                  rw [hrn]
                  exact done' (R2.grow hg) (S2.trans ⟨rfl, id, X.grow R2 hg |>.weaken fun h => rfl⟩)
          · cases h
        · cases h
      · cases h
    · cases h
  · cases h
end
end Go.PS
end

section
/-
  All operations, as the evaluator steps.
-/
namespace Go.PS
section
variable {g g' g1 g2 : G} {w w' w1 w2 : World} {hn hn' : Nat} {tm : Array Value} {fr fr' : Fr} {hp hp' hp1 hp2 : Heap} {P : Program} {t : Nat}

/-- The bytes of a text, as a new row. -/
theorem bytesOK {st : St} {a : Act} (R : Rel g w a.tmps st.fr st.hp) {o : Oper} (hd : ∀ d, o.dst = some d → d < a.tmps.size) {S D e : TypeId} {x : Operand} (ho : o.op = .convert S D x) (hS : P.underlying S = some .string)
    (hD : P.underlying D = some (.slice e)) (he : P.underlying e = some (.int .u8)) {s : List UInt8} (hx : opv st.fr x = .str s) : StepOK P a o st (setSlot st o.dst (.sl (.mu 1) s.length (ofBytes s))) g w := by
  obtain ⟨⟨tx, hs⟩, _⟩ := opv_sound R a rfl x
  rw [hx] at hs
  obtain ⟨b, hv, rfl⟩ := hs.str_inv
  let gc := grownCap w b.size 0 e
  have hge := grownCap_ge w b.size 0 e
  have hrun := run_bytes_of_string (P := P) w S D e b hS hD he
  let cells := bytesRow b gc
  have hexec : (execOp a.eval o).run P w = .ok (.value (.slice (some ⟨w.heap.size, 0, none⟩) b.size gc)) (w.drew.alloc (.cells cells e (cells.size, cells.size + 1))) := by
    simp only [execOp, ho, Sem.run_bind, hv, hrun, Result.andThen_ok, Sem.run_pure]
    rfl
  have hgr : Grow w (w.drew.alloc (.cells cells e (cells.size, cells.size + 1))) := (Grow.drew w).trans (Grow.alloc _ _)
  have R1 := R.grow hgr
  have hcell : ∀ j, (w.drew.alloc (.cells cells e (cells.size, cells.size + 1))).cell? ⟨w.heap.size, j, none⟩ = cells[j]? := fun j => by
    unfold World.cell?
    have : (w.drew.alloc (.cells cells e (cells.size, cells.size + 1))).heap[w.heap.size]? = some (.cells cells e (cells.size, cells.size + 1)) := heap_new w.drew _
    rw [this]; simp
  have hfro : ∀ j, j < cells.size → (w.drew.alloc (.cells cells e (cells.size, cells.size + 1))).frozen? ⟨w.heap.size, j, none⟩ = false := fun j hj => by
    unfold World.frozen?
    have : (w.drew.alloc (.cells cells e (cells.size, cells.size + 1))).heap[w.heap.size]? = some (.cells cells e (cells.size, cells.size + 1)) := heap_new w.drew _
    rw [this]; simp; omega
  have hsz : cells.size = gc := by
    have h1 : b.data.size = b.size := rfl
    simp only [cells, bytesRow, Array.size_append, Array.size_map, Array.size_replicate]
    omega
  have hbl : b.data.toList.length = b.size := by rw [Array.length_toList]; rfl
  have hol : (ofBytes b.data.toList).length = b.size := by simp [ofBytes, hbl]
  have hres : ResV g (w.drew.alloc (.cells cells e (cells.size, cells.size + 1))) st.hp.length (.slice (some ⟨w.heap.size, 0, none⟩) b.size gc) (.sl (.mu 1) b.data.toList.length (ofBytes b.data.toList)) := by
    rw [hbl]
    refine .mu (own_new R (Nat.le_refl _)) (by show _ < (w.drew.alloc _).heap.size; rw [size_alloc]; exact Nat.lt_succ_self _) hge (by rw [hol, Nat.mul_one]) (fun j hj => ?_) (fun j => notImm_new R (Nat.le_refl _) j) (fun j y hy => ?_) (.inr (by omega))
    · rw [Nat.mul_one] at hj
      rw [Nat.zero_add, hcell]
      exact ⟨by rw [Array.getElem?_eq_getElem (by omega)]; rfl, hfro j (by omega)⟩
    · have hlt : j < b.data.size := by have := lt_of_some hy; rw [hol] at this; exact this
      rw [Nat.zero_add, hcell]
      simp only [ofBytes, List.getElem?_map, Option.map_eq_some_iff] at hy
      obtain ⟨c, hc, rfl⟩ := hy
      refine ⟨.int .u8 c.toNat, ?_, .int _ _⟩
      simp only [cells, bytesRow]
      rw [Array.getElem?_append_left (by simpa using hlt)]
      rw [Array.getElem?_toList] at hc
      simp [hc]
  obtain ⟨g3, R3, S3⟩ := R1.landDst (a := a) (st := st) (dst := o.dst) hd hres
  exact Runs.value hexec ⟨g3, R3, (StepR.ofX rfl rfl (X.grow (base := st.base) R hgr) (by simp)).trans S3⟩

theorem conv_bytes {st : St} {s d : TypeId} {x z : PV} (h : conv P st s d x = some z) {e : TypeId} {str : List UInt8} (hd : P.underlying d = some (.slice e)) (hx : x = .str str) :
    P.underlying s = some .string ∧ P.underlying e = some (.int .u8) ∧ z = .sl (.mu 1) str.length (ofBytes str) := by
  subst hx
  unfold conv at h
  rw [hd] at h
  split at h
  · rename_i e1 e2; cases e2
  · cases ‹some (TypeDesc.slice e) = some TypeDesc.string›
  · rename_i hs e1 e2
    cases e1; cases e2
    split at h
    · rename_i he; cases h; exact ⟨hs, he, rfl⟩
    · cases h
  · rename_i e1 e2; cases e2
  · cases h

theorem preShare_sound {st : St} {a : Act} (R : Rel g w a.tmps st.fr st.hp) (dies : Nat → Bool) (x : Operand) : ∃ g', Rel g' w a.tmps (preShare dies st x).fr (preShare dies st x).hp ∧ StepR st (preShare dies st x) g w g' w := by
  unfold preShare
  split
  · split
    · exact ⟨g, R, StepR.refl _ _ _⟩
    · split
      · rename_i st1 y h
        obtain ⟨g', R', S', _⟩ := shareAt_sound R h
        exact ⟨g', R', S'⟩
      · exact ⟨g, R, StepR.refl _ _ _⟩
  · exact ⟨g, R, StepR.refl _ _ _⟩
theorem preShares_sound {a : Act} (dies : Nat → Bool) : ∀ (xs : List (Nat × Operand)) {st : St} {g : G}, Rel g w a.tmps st.fr st.hp →
    ∃ g', Rel g' w a.tmps (xs.foldl (fun st p => preShare dies st p.2) st).fr (xs.foldl (fun st p => preShare dies st p.2) st).hp ∧ StepR st (xs.foldl (fun st p => preShare dies st p.2) st) g w g' w
  | [], st, g, R => ⟨g, R, StepR.refl _ _ _⟩
  | x :: xs, st, g, R => by
    obtain ⟨g1, R1, S1⟩ := preShare_sound R dies x.2
    obtain ⟨g2, R2, S2⟩ := preShares_sound dies xs R1
    exact ⟨g2, R2, S1.trans S2⟩
theorem StepOK.pre {st st1 st' : St} {a : Act} {o : Oper} (S : StepR st st1 g w g1 w) (h : StepOK P a o st1 st' g1 w) : StepOK P a o st st' g w := by
  unfold StepOK Runs at h ⊢
  split <;> simp_all only []
  · obtain ⟨g2, R2, S2⟩ := h; exact ⟨g2, R2, S.trans S2⟩
  · obtain ⟨g2, R2, S2⟩ := h; exact ⟨g2, R2, S.trans S2⟩
  · exact h.mono fun e w'' ⟨v, he, g2, R2, S2⟩ => ⟨v, he, g2, R2, S.trans S2⟩

theorem stepOp_sound (Tb : Tabs P) {st st' : St} {a : Act} (R : Rel g w a.tmps st.fr st.hp) (hb : st.base ≤ st.hp.length) {H : Hint} {own : FuncId → Option Nat} {callF : CallF} (hcall : CallS P own callF) {o : Oper} (hd : ∀ d, o.dst = some d → d < a.tmps.size)
    (h : stepOp P H own callF st o = some st') : StepOK P a o st st' g w := by
  have pure' : ∀ (hm : ¬ makes P st o), (stepA P st o).map (fun v => setSlot st o.dst v) = some st' → StepOK P a o st st' g w := fun hm h => by
    simp only [Option.map_eq_some_iff] at h
    obtain ⟨z, hz, rfl⟩ := h
    exact pureOK Tb R o hd hz hm
  have h0 := h
  cases ho : o.op with
  | assign x =>
    simp only [stepOp, ho] at h
    split at h
    · rename_i t hdst
      obtain ⟨g1, R1, S1⟩ := preShare_sound R H.dies x
      exact StepOK.pre S1 (assignOK R1 hdst (hd t hdst) ho h)
    · cases h
  | store T x y =>
    simp only [stepOp, ho] at h
    obtain ⟨g1, R1, S1⟩ := preShare_sound R H.dies y
    exact StepOK.pre S1 (storeOK R1 hd ho h)
  | alloc T => exact allocOK R hb hd ho h0
  | box T x =>
    simp only [stepOp, ho] at h
    obtain ⟨g1, R1, S1⟩ := preShare_sound R H.dies x
    exact StepOK.pre S1 (boxOK R1 (S1.baseOk hb) hd ho h)
  | build T parts =>
    simp only [stepOp, ho] at h
    obtain ⟨g1, R1, S1⟩ := preShares_sound H.dies parts.toList R
    exact StepOK.pre S1 (buildOK Tb R1 hd ho h)
  | buildSlice T n parts => exact buildSliceOK R hd ho h0
  | makeFunc fn first cap =>
    cases fn with
    | func f => exact makeFuncOK R hd ho h0
    | _ => simp [stepOp, ho, stepA] at h
  | makeMap T r => exact makeMapOK R hb hd ho h0
  | lookup T x ix ok =>
    simp only [stepOp, ho] at h
    split at h
    · rename_i z hz
      cases h
      obtain ⟨⟨tx, hx⟩, _⟩ := opv_sound R a rfl x
      obtain ⟨⟨ti, hi⟩, _⟩ := opv_sound R a rfl ix
      obtain ⟨v, h1, h2, h3⟩ := lookup_sound R hx hi hz
      exact Runs.value (v := v) (by simp [execOp, ho, h1]) ⟨g, R.putFlat hd h2 h3, (StepR.refl _ _ _).setSlot _ _⟩
    · cases h
  | mapUpdate T m k x =>
    simp only [stepOp, ho] at h
    split at h
    · rename_i st1 hm
      cases h
      exact mapPutOK R hd (.inl ho) hm
    · cases h
  | insert T m k x =>
    simp only [stepOp, ho] at h
    split at h
    · rename_i st1 hm
      cases h
      exact mapPutOK R hd (.inr ho) hm
    · cases h
  | makeSlice T l c =>
    simp only [stepOp, ho] at h
    split at h
    · rename_i d hdst
      simp only [Option.map_eq_some_iff] at h
      obtain ⟨z, hz, rfl⟩ := h
      exact makeSliceOK R hdst (hd d hdst) ho hz
    · cases h
  | call c =>
    simp only [stepOp, ho] at h
    have hnm : ¬ makes P st o := by
      rintro (⟨_, _, _, e⟩ | ⟨_, _, _, e, _⟩) <;> (rw [ho] at e; cases e)
    cases hc : c.callee with
    | builtin b =>
      simp only [hc] at h
      split at h
      · rename_i e; cases e
        split at h
        · rename_i x y T Ts hargs hT
          split at h
          · rename_i st1 n hop
            cases h
            exact copyOK Tb R hd ho hc hargs hT hop
          · cases h
        · cases h
      · rename_i e; cases e
        split at h
        · rename_i x T hargs hT
          split at h
          · rename_i st1 hop
            cases h
            exact clearOK Tb R hd ho hc hargs hT hop
          · cases h
        · cases h
      · rename_i e; cases e
        split at h
        · rename_i x y T U hargs hT
          split at h
          · rename_i hU
            split at h
            · rename_i st1 v hop
              cases h
              exact appendOK R hd ho hc hargs hT hU hop
            · cases h
          · cases h
        · cases h
      · exact pure' hnm h
      · rename_i e; cases e
      · cases h
    | value fo =>
      simp only [hc] at h
      split at h
      · rename_i f cap hf
        split at h
        · rename_i k hk; exact sortOK R (hcall.sort f k hk) hd ho hc hf h
        · exact callOK R hb hcall.call hd ho hc hf h
      · cases h
    | invoke r n => simp [hc] at h
  | convert s d x =>
    simp only [stepOp, ho] at h
    by_cases hm : makes P st o
    · rcases hm with ⟨_, _, _, e⟩ | ⟨s', d', x', e, e', str, hd', hx'⟩
      · rw [ho] at e; cases e
      · rw [ho] at e; cases e
        simp only [Option.map_eq_some_iff, stepA, ho] at h
        obtain ⟨z, hz, rfl⟩ := h
        obtain ⟨h1, h2, rfl⟩ := conv_bytes hz hd' hx'
        exact bytesOK R hd ho h1 hd' h2 hx'
    · exact pure' hm h
  | load T x =>
    simp only [stepOp, ho] at h
    have plain : ∀ {st1 : St} {g1 : G}, Rel g1 w a.tmps st1.fr st1.hp → StepR st st1 g w g1 w → (stepA P st1 o).map (fun v => setSlot st1 o.dst v) = some st' → StepOK P a o st st' g w := fun {st1 g1} R1 S1 h => by
      simp only [Option.map_eq_some_iff] at h
      obtain ⟨z, hz, rfl⟩ := h
      have hm : ¬ makes P st1 o := by rintro (⟨_, _, _, e⟩ | ⟨_, _, _, e, _⟩) <;> (rw [ho] at e; cases e)
      exact StepOK.pre S1 (pureOK Tb R1 o hd hz hm)
    split at h
    · rename_i t0 off0 _
      split at h
      · obtain ⟨g1, R1, S1, _⟩ := shareRange_sound R (.slot t0) off0 (sizeT P T)
        exact plain R1 S1 h
      · exact plain R (StepR.refl _ _ _) h
    · rename_i t0 off0 _
      split at h
      · obtain ⟨g1, R1, S1, _⟩ := shareRange_sound R (.heap t0) off0 (sizeT P T)
        exact plain R1 S1 h
      · exact plain R (StepR.refl _ _ _) h
    · exact plain R (StepR.refl _ _ _) h
  | _ =>
    simp only [stepOp, ho] at h
    refine pure' ?_ h
    rintro (⟨_, _, _, e⟩ | ⟨_, _, _, e, _⟩) <;> (rw [ho] at e; cases e)
end
end Go.PS
end

section
/-
  Regions whose order is given.
-/
namespace Go.PS
section
variable {g g' g1 g2 : G} {w w' w1 w2 : World} {hn hn' : Nat} {tm : Array Value} {fr fr' : Fr} {hp hp' hp1 hp2 : Heap} {P : Program} {t : Nat}

/-- Behind a stretch of the code. -/
structure After (st st' : St) (g : G) (a : Act) (w : World) (a' : Act) (w' : World) : Prop where
  rel : ∃ g', Rel g' w' a'.tmps st'.fr st'.hp ∧ StepR st st' g w g' w'
  size : a'.tmps.size = a.tmps.size
  rest : a'.defers = a.defers

theorem Runs.wp {a : Act} {o : Oper} {K : Value → World → Prop} {next : Act → World → Prop} {Q : Exit → Act → World → Prop} (h : Runs P a o w K) (hK : ∀ v w', K v w' → next (a.put o.dst v) w') : o.wp P a w next Q := by
  unfold Runs at h
  unfold Oper.wp
  generalize (execOp a.eval o).run P w = r at *
  split at h
  · exact hK _ _ h
  · exact hK _ _ h
  · refine Calls.mono h fun e w'' he => ?_
    obtain ⟨v, rfl, hv⟩ := he
    exact hK _ _ hv
  · exact h.elim

theorem wanted_sound (R : Rel g w tm fr hp) {ops : Array Oper} {o : Oper} {b : Bool} (h : wantedP ops fr o = some b) : Region.wanted o (yielded ops tm) = b := by
  unfold wantedP at h
  unfold Region.wanted
  split at h
  · rename_i hg; cases h; simp [hg]
  · rename_i j want hg
    split at h
    · rename_i t hj
      split at h
      · rename_i c hc
        cases h
        have hs := R.slots t
        rw [hc] at hs
        have hv := hs.bool_inv
        have hlt := R.size t (by rw [hc]; simp)
        have hv' : tm[t]? = some (.bool c) := by
          rw [Array.getElem?_eq_getElem hlt]
          simpa [Array.getD, hlt] using hv
        simp [hg, yielded, hj, hv']
      · rename_i cs hc
        cases h
        have hs := R.slots t
        rw [hc] at hs
        have hlt := R.size t (by rw [hc]; simp)
        have hv' : tm[t]? = some (tm.getD t Go.undef) := by
          rw [Array.getElem?_eq_getElem hlt]
          simp [Array.getD, hlt]
        have hv : tm.getD t Go.undef = .tuple cs := by
          generalize tm.getD t Go.undef = v at hs
          cases hs with | of hs => cases hs with | of hs => cases hs; rfl
        rw [hv] at hv'
        simp [hg, yielded, hj, hv']
      · cases h
    · cases h

theorem evalOps_sound (Tb : Tabs P) {H : Hint} {own : FuncId → Option Nat} {callF : CallF} (hcall : CallS P own callF) {ops : Array Oper} {Q : Exit → Act → World → Prop} : ∀ (l : List Oper) {st st' : St} {a : Act} {w : World} {g : G},
    Rel g w a.tmps st.fr st.hp → st.base ≤ st.hp.length → (∀ o ∈ l, ∀ d, o.dst = some d → d < a.tmps.size) → evalOps P H own callF ops l st = some st' →
    (∀ a' w', After st st' g a w a' w' → Q .normal a' w') → wpList P ops Q l a w
  | [], st, st', a, w, g, R, hb, hd, h, hQ => by
    cases h
    exact hQ a w ⟨⟨g, R, StepR.refl _ _ _⟩, rfl, rfl⟩
  | o :: l, st, st', a, w, g, R, hb, hd, h, hQ => by
    have hdo := hd o (by simp)
    have hsz : ∀ v, (a.put o.dst v).tmps.size = a.tmps.size := fun v => by cases o.dst <;> simp [Act.put]
    have hrest : ∀ v, (a.put o.dst v).defers = a.defers := fun v => by cases o.dst <;> rfl
    refine wpList_step fun K hK => ?_
    unfold evalOps at h
    split at h
    · rename_i hw
      rw [wanted_sound R hw]
      simp only [if_true]
      split at h
      · rename_i st1 hs
        refine (stepOp_sound Tb R hb hcall hdo hs).wp fun v w1 ⟨g1, R1, S1⟩ => hK _ _ ?_
        exact evalOps_sound Tb hcall l R1 (S1.baseOk hb) (fun o' ho' d hd' => by rw [hsz]; exact hd o' (by simp [ho']) d hd') h fun a' w' ⟨⟨g2, R2, S2⟩, h2, h3⟩ =>
          hQ a' w' ⟨⟨g2, R2, S1.trans S2⟩, h2.trans (hsz v), h3.trans (hrest v)⟩
      · cases h
    · rename_i hw
      rw [wanted_sound R hw]
      simp only [Bool.false_eq_true, if_false]
      refine hK _ _ ?_
      have hV : V g w st.hp.length Go.undef (.raw (.tuple #[])) := .raw _ rfl
      have R1 := R.putFlat hdo (fun t => hV.slot t) hV.lv
      have S1 : StepR st (setSlot st o.dst (.raw (.tuple #[]))) g w g w := (StepR.refl _ _ _).setSlot _ _
      exact evalOps_sound Tb hcall l R1 (S1.baseOk hb) (fun o' ho' d hd' => by rw [hsz]; exact hd o' (by simp [ho']) d hd') h fun a' w' ⟨⟨g2, R2, S2⟩, h2, h3⟩ =>
          hQ a' w' ⟨⟨g2, R2, S1.trans S2⟩, h2.trans (hsz _), h3.trans (hrest _)⟩
    · cases h

theorem evalOps_wp (Tb : Tabs P) {H : Hint} {own : FuncId → Option Nat} {callF : CallF} (hcall : CallS P own callF) {ops : Array Oper} {Q : Exit → Act → World → Prop} {l2 : List Oper} : ∀ (l : List Oper) {st st' : St} {a : Act} {w : World} {g : G},
    Rel g w a.tmps st.fr st.hp → st.base ≤ st.hp.length → (∀ o ∈ l, ∀ d, o.dst = some d → d < a.tmps.size) → evalOps P H own callF ops l st = some st' →
    (∀ a' w', After st st' g a w a' w' → wpList P ops Q l2 a' w') → wpList P ops Q (l ++ l2) a w
  | [], st, st', a, w, g, R, hb, hd, h, hQ => by
    cases h
    rw [List.nil_append]
    exact hQ a w ⟨⟨g, R, StepR.refl _ _ _⟩, rfl, rfl⟩
  | o :: l, st, st', a, w, g, R, hb, hd, h, hQ => by
    have hdo := hd o (by simp)
    have hsz : ∀ v, (a.put o.dst v).tmps.size = a.tmps.size := fun v => by cases o.dst <;> simp [Act.put]
    have hrest : ∀ v, (a.put o.dst v).defers = a.defers := fun v => by cases o.dst <;> rfl
    rw [List.cons_append]
    refine wpList_step fun K hK => ?_
    unfold evalOps at h
    split at h
    · rename_i hw
      rw [wanted_sound R hw]
      simp only [if_true]
      split at h
      · rename_i st1 hs
        refine (stepOp_sound Tb R hb hcall hdo hs).wp fun v w1 ⟨g1, R1, S1⟩ => hK _ _ ?_
        exact evalOps_wp Tb hcall l R1 (S1.baseOk hb) (fun o' ho' d hd' => by rw [hsz]; exact hd o' (by simp [ho']) d hd') h fun a' w' ⟨⟨g2, R2, S2⟩, h2, h3⟩ =>
          hQ a' w' ⟨⟨g2, R2, S1.trans S2⟩, h2.trans (hsz v), h3.trans (hrest v)⟩
      · cases h
    · rename_i hw
      rw [wanted_sound R hw]
      simp only [Bool.false_eq_true, if_false]
      refine hK _ _ ?_
      have hV : V g w st.hp.length Go.undef (.raw (.tuple #[])) := .raw _ rfl
      have R1 := R.putFlat hdo (fun t => hV.slot t) hV.lv
      have S1 : StepR st (setSlot st o.dst (.raw (.tuple #[]))) g w g w := (StepR.refl _ _ _).setSlot _ _
      exact evalOps_wp Tb hcall l R1 (S1.baseOk hb) (fun o' ho' d hd' => by rw [hsz]; exact hd o' (by simp [ho']) d hd') h fun a' w' ⟨⟨g2, R2, S2⟩, h2, h3⟩ =>
          hQ a' w' ⟨⟨g2, R2, S1.trans S2⟩, h2.trans (hsz _), h3.trans (hrest _)⟩
    · cases h

theorem shareAt_len {st st1 : St} {r : Root} {pre : Option Nat} {y : PV} (h : shareAt st r pre = some (st1, y)) : st1.hp.length = st.hp.length := by
  unfold shareAt at h
  split at h
  · cases h
    cases pre with
    | none => exact putRoot_length _ _ _
    | some o => exact putRoot_length _ _ _
  · cases h; rfl
  · cases h
theorem shareRange_len {st : St} (r : Root) (off : Nat) : ∀ k, (shareRange st r off k).hp.length = st.hp.length
  | 0 => rfl
  | k + 1 => by
    unfold shareRange
    split
    · rename_i h; rw [shareAt_len h, shareRange_len r off k]
    · exact shareRange_len r off k

/-- A call, run: what it answers, beside what stood ahead of it. -/
theorem callRun {st st1 : St} {a : Act} (R : Rel g w a.tmps st.fr st.hp) {callF : CallF} (hcall : CallSound P callF) {o : Oper} {c : Call} {fo : Operand} (ho : o.op = .call c) (hc : c.callee = .value fo)
    {f : FuncId} {cap vs : List PV} (hf : opv st.fr fo = .fn f cap) (ht : takeArgs st c.args.toList none = some (st1, vs)) {r : PV} {hp' : Heap} {d : Bool} (hcf : callF f (vs ++ cap) st1.hp = some (r, hp', d)) :
    ∃ g1 us, g1.own = g.own ∧ Ext0 g w st.hp.length g1 w st1.hp.length ∧ st1.hp.length = st.hp.length ∧ (execOp a.eval o).run P w = .ok (.enter f us) w ∧
      Calls P f us w fun e w' => ∃ v g', e = .returned v ∧ Rel g' w' #[] [] hp' ∧ X st1.hp.length d g1.hide w st1.hp g' w' hp' ∧ ResV g' w' hp'.length v r := by
  obtain ⟨g1, R1, S1, hlen, ⟨k, hV, hVk⟩, e1, o1⟩ := takeArgs_sound rfl R ht
  obtain ⟨⟨tf, hs⟩, _⟩ := opv_sound R a rfl fo
  rw [hf] at hs
  obtain ⟨cv, hfv, hcs, hcv⟩ := hs.fn_inv
  let us : Array Value := c.args.map a.eval ++ cv
  have hus : us.size = (vs ++ cap).length := by simp [us, hcs]; simpa using hlen.symm
  have hl : vs.length = c.args.size := by simpa using hlen
  have look : ∀ (j : Nat) (u : Value) (y : PV), us[j]? = some u → (vs ++ cap)[j]? = some y → (∃ x, j < c.args.size ∧ c.args.toList[j]? = some x ∧ u = a.eval x ∧ vs[j]? = some y) ∨ (c.args.size ≤ j ∧ V g1 w st1.hp.length u y) := by
    intro j u y hu hy
    simp only [us, Array.getElem?_append, Array.size_map] at hu
    rw [List.getElem?_append] at hy
    by_cases hj : j < c.args.size
    · rw [if_pos hj] at hu
      rw [if_pos (by omega)] at hy
      simp only [Array.getElem?_map, Option.map_eq_some_iff] at hu
      obtain ⟨x, hx, rfl⟩ := hu
      exact .inl ⟨x, hj, by simpa using hx, rfl, hy⟩
    · rw [if_neg hj] at hu
      rw [if_neg (by omega), hl] at hy
      exact .inr ⟨by omega, (hcv _ u y hu hy).mono S1.x.e0⟩
  have hArgs : ArgsV g1.hide w st1.hp.length us (vs ++ cap) := by
    refine ⟨k, fun j u y hj hu hy => ?_, fun u y hu hy => ?_⟩
    · rcases look j u y hu hy with ⟨x, _, hx, rfl, hy'⟩ | ⟨_, h⟩
      · exact (hV j x y hj hx hy').hide
      · exact h.hide
    · rcases look k u y hu hy with ⟨x, _, hx, rfl, hy'⟩ | ⟨_, h⟩
      · exact (hVk x y hx hy').hide
      · exact .of h.hide
  obtain ⟨hrun, hcalls⟩ := hcall f (vs ++ cap) st1.hp r hp' d hcf g1.hide w us R1.hide hus hArgs
  refine ⟨g1, us, o1 rfl, S1.x.e0, e1, ?_, hcalls⟩
  simp only [execOp, ho, resolve, hc, hfv, Deferred.ofValue, Sem.run_bind, Sem.run_pure, Result.andThen_ok, invoke]
  have he : (#[] ++ c.args.map a.eval) ++ cv = us := by simp [us]
  rw [he]
  exact hrun

theorem stepLC_sound (Tb : Tabs P) {st st' : St} {a : Act} (R : Rel g w a.tmps st.fr st.hp) (hb : st.base ≤ st.hp.length) {H : Hint} {own : FuncId → Option Nat} {callF : CallF} (hcall : CallS P own callF) {o1 o2 : Oper}
    (hd1 : ∀ d, o1.dst = some d → d < a.tmps.size) (hd2 : ∀ d, o2.dst = some d → d < a.tmps.size) (h : stepLC P H own callF st o1 o2 = some st') :
    o1.guard = none ∧ o2.guard = none ∧ Runs P a o1 w fun v1 w1 => Runs P (a.put o1.dst v1) o2 w1 fun v2 w2 => ∃ g', Rel g' w2 ((a.put o1.dst v1).put o2.dst v2).tmps st'.fr st'.hp ∧ StepR st st' g w g' w2 := by
  unfold stepLC at h
  split at h
  rotate_left
  · cases h
  rename_i T x t c ho1 hdst hg1 ho2 hg2
  split at h
  rotate_left
  · cases h
  rename_i fo hc
  split at h
  · cases h
  rename_i st1 hs
  split at h
  rotate_left
  · cases h
  rename_i f cap hf
  split at h
  rotate_left
  · cases h
  split at h
  · cases h
  rename_i st2 vs ht
  split at h
  rotate_left
  · cases h
  rename_i r hp' hcf
  split at h
  rotate_left
  · cases h
  rename_i hpl
  cases h
  refine ⟨hg1, hg2, ?_⟩
  have hload : ∃ (sts : St) (gs : G) (z : PV), Rel gs w a.tmps sts.fr sts.hp ∧ StepR st sts g w gs w ∧ gs.own = g.own ∧ sts.hp.length = st.hp.length ∧ stepA P sts o1 = some z ∧ st1 = setSlot sts o1.dst z := by
    simp only [stepOp, ho1] at hs
    have plain : ∀ {sts : St} {gs : G}, Rel gs w a.tmps sts.fr sts.hp → StepR st sts g w gs w → gs.own = g.own → sts.hp.length = st.hp.length → (stepA P sts o1).map (fun v => setSlot sts o1.dst v) = some st1 →
        ∃ (sts : St) (gs : G) (z : PV), Rel gs w a.tmps sts.fr sts.hp ∧ StepR st sts g w gs w ∧ gs.own = g.own ∧ sts.hp.length = st.hp.length ∧ stepA P sts o1 = some z ∧ st1 = setSlot sts o1.dst z := fun {sts gs} R1 S1 e l h => by
      simp only [Option.map_eq_some_iff] at h
      obtain ⟨z, hz, rfl⟩ := h
      exact ⟨sts, gs, z, R1, S1, e, l, hz, rfl⟩
    split at hs
    · rename_i t0 off0 _
      split at hs
      · obtain ⟨g1, R1, S1, e⟩ := shareRange_sound R (.slot t0) off0 (sizeT P T)
        exact plain R1 S1 e (shareRange_len _ _ _) hs
      · exact plain R (StepR.refl _ _ _) rfl rfl hs
    · rename_i t0 off0 _
      split at hs
      · obtain ⟨g1, R1, S1, e⟩ := shareRange_sound R (.heap t0) off0 (sizeT P T)
        exact plain R1 S1 e (shareRange_len _ _ _) hs
      · exact plain R (StepR.refl _ _ _) rfl rfl hs
    · exact plain R (StepR.refl _ _ _) rfl rfl hs
  obtain ⟨sts, gs, z, Rs, Ss, es, ls, hz, rfl⟩ := hload
  have hm : ¬ makes P sts o1 := by rintro (⟨_, _, _, e⟩ | ⟨_, _, _, e, _⟩) <;> (rw [ho1] at e; cases e)
  obtain ⟨v1, e1, h2, h3⟩ := stepA_sound Tb rfl Rs o1 hz hm
  refine Runs.value e1 ?_
  have R1 := Rs.putFlat hd1 h2 h3
  have hl1 : (setSlot sts o1.dst z).hp.length = st.hp.length := by rw [(setSlot_rest sts o1.dst z).1]; exact ls
  obtain ⟨g2, us, o2', ext, l2, hexec, hcalls⟩ := callRun R1 hcall.call ho2 hc hf ht hcf
  have Rt : Rel g w (a.put o1.dst v1).tmps (setFr st.fr t .undef) st.hp := by
    rw [hdst]
    exact (R.clearSlot (hd1 t hdst) v1).1
  refine Runs.enter hexec (hcalls.mono fun e w' hpost => ?_)
  obtain ⟨v, g', rfl, R', x, hres⟩ := hpost
  refine ⟨v, rfl, ?_⟩
  have ext0 : Ext0 g w st.hp.length g2 w st2.hp.length := by
    have := (Ss.setSlot o1.dst z).x.e0
    exact this.trans ext
  obtain ⟨g0, R0, res0, X0⟩ := plainBack (base := st.base) (d0 := st.dirty) (hp' := hp') Rt (o2'.trans es) ext0 (l2.trans hl1) hb x hres hpl
  have hsz : (a.put o1.dst v1).tmps.size = a.tmps.size := by rw [hdst]; simp [Act.put]
  obtain ⟨g3, R3, S3⟩ := Rel.landDst (a := a.put o1.dst v1) (st := { st with fr := setFr st.fr t .undef }) (dst := o2.dst) R0 (fun d hd => by rw [hsz]; exact hd2 d hd) res0
  exact ⟨g3, R3, StepR.trans (st1 := { st with fr := setFr st.fr t .undef }) ⟨rfl, id, X0⟩ S3⟩

theorem evalOpsL_sound (Tb : Tabs P) {H : Hint} {own : FuncId → Option Nat} {callF : CallF} (hcall : CallS P own callF) {ops : Array Oper} {Q : Exit → Act → World → Prop} {k : Nat} {l : List Oper} {st st' : St} {a : Act} {w : World} {g : G}
    (R : Rel g w a.tmps st.fr st.hp) (hb : st.base ≤ st.hp.length) (hd : ∀ o ∈ l, ∀ d, o.dst = some d → d < a.tmps.size) (h : evalOpsL P H own callF ops k l st = some st')
    (hQ : ∀ a' w', After st st' g a w a' w' → Q .normal a' w') : wpList P ops Q l a w := by
  unfold evalOpsL at h
  split at h
  · cases h
  rename_i st1 h1
  split at h
  rotate_left
  · cases h
  rename_i o1 o2 rest hdrop
  split at h
  · cases h
  rename_i st2 h2
  have hl : l = l.take k ++ (o1 :: o2 :: rest) := by rw [← hdrop]; exact (List.take_append_drop k l).symm
  rw [hl] at hd ⊢
  refine evalOps_wp Tb hcall (l.take k) R hb (fun o ho d hod => hd o (by simp [ho]) d hod) h1 fun a1 w1 A1 => ?_
  obtain ⟨⟨g1, R1, S1⟩, s1, r1⟩ := A1
  obtain ⟨q1, q2, hrun⟩ := stepLC_sound Tb R1 (S1.baseOk hb) hcall (fun d hod => by rw [s1]; exact hd o1 (by simp) d hod) (fun d hod => by rw [s1]; exact hd o2 (by simp) d hod) h2
  have hsz : ∀ (a : Act) (o : Option Nat) v, (a.put o v).tmps.size = a.tmps.size := fun a o v => by cases o <;> simp [Act.put]
  have hrest : ∀ (a : Act) (o : Option Nat) v, (a.put o v).defers = a.defers := fun a o v => by cases o <;> rfl
  refine wpList_step fun K hK => ?_
  have hw1 : Region.wanted o1 (yielded ops a1.tmps) = true := by unfold Region.wanted; rw [q1]
  rw [hw1]
  simp only [if_true]
  refine hrun.wp fun v1 w2 hrun2 => hK _ _ ?_
  refine wpList_step fun K2 hK2 => ?_
  have hw2 : Region.wanted o2 (yielded ops (a1.put o1.dst v1).tmps) = true := by unfold Region.wanted; rw [q2]
  rw [hw2]
  simp only [if_true]
  refine hrun2.wp fun v2 w3 ⟨g3, R3, S3⟩ => hK2 _ _ ?_
  exact evalOps_sound Tb hcall rest R3 ((S1.trans S3).baseOk hb) (fun o ho d hod => by rw [hsz, hsz, s1]; exact hd o (by simp [ho]) d hod) h fun a' w' ⟨⟨g4, R4, S4⟩, h4, h5⟩ =>
    hQ a' w' ⟨⟨g4, R4, (S1.trans S3).trans S4⟩, (h4.trans (hsz _ _ _)).trans ((hsz _ _ _).trans s1), (h5.trans (hrest _ _ _)).trans ((hrest _ _ _).trans r1)⟩
end
end Go.PS
end

section
/-
  Code.
-/
namespace Go.PS
section
variable {g g' g1 g2 : G} {w w' w1 w2 : World} {hn hn' : Nat} {tm : Array Value} {fr fr' : Fr} {hp hp' hp1 hp2 : Heap} {P : Program} {t : Nat}

theorem get_map (f : Nat → PV) : ∀ (keep : List Nat) (t : Nat), get (keep.map fun t => (t, f t)) t = if t ∈ keep then f t else .undef
  | [], t => rfl
  | k :: ks, t => by
    rw [List.map_cons, get_cons, get_map f ks t]
    by_cases h : k = t
    · subst h; simp
    · rw [if_neg h]
      by_cases h2 : t ∈ ks
      · simp [h2]
      · rw [if_neg h2, if_neg (by simp [h2, Ne.symm h])]

theorem keepRef_cases (keep : List Nat) (v : PV) : keepRef keep v = v ∨ keepRef keep v = .undef := by
  cases v with
  | ptr r pre off => cases r <;> simp [keepRef, Decidable.em]
  | hd r pre => cases r <;> simp [keepRef, Decidable.em]
  | vw r pre off sz n => cases r <;> simp [keepRef, Decidable.em]
  | _ => exact .inl rfl
theorem keepRef_ref {keep : List Nat} {v : PV} {t : Nat} {pre : Option Nat} (h : refOf (keepRef keep v) = some (.slot t, pre)) : refOf v = some (.slot t, pre) ∧ t ∈ keep := by
  cases v with
  | ptr r p off => cases r <;> simp only [keepRef] at h <;> (try split at h) <;> simp_all [refOf]
  | hd r p => cases r <;> simp only [keepRef] at h <;> (try split at h) <;> simp_all [refOf]
  | vw r p off sz n => cases r <;> simp only [keepRef] at h <;> (try split at h) <;> simp_all [refOf]
  | _ => cases h
theorem keepRef_rooty {keep : List Nat} {v : PV} (h : rooty v = true) : keepRef keep v = v := by
  cases v <;> first | rfl | cases h

theorem softAll_sound : ∀ (xs : List (Nat × Option Nat)) {st : St} {g : G}, Rel g w tm st.fr st.hp →
    ∃ g', Rel g' w tm (softAll xs st).fr (softAll xs st).hp ∧ StepR st (softAll xs st) g w g' w
  | [], st, g, R => ⟨g, R, StepR.refl _ _ _⟩
  | x :: xs, st, g, R => by
    have h1 : ∃ g', Rel g' w tm (soft1 st x).fr (soft1 st x).hp ∧ StepR st (soft1 st x) g w g' w := by
      unfold soft1
      split
      · rename_i st1 y h
        obtain ⟨g', R', S', _⟩ := shareAt_sound R h
        exact ⟨g', R', S'⟩
      · exact ⟨g, R, StepR.refl _ _ _⟩
    obtain ⟨g1, R1, S1⟩ := h1
    obtain ⟨g2, R2, S2⟩ := softAll_sound xs R1
    exact ⟨g2, R2, S1.trans S2⟩
theorem canon_sound {st : St} (R : Rel g w tm st.fr st.hp) (keep : List Nat) : Rel g w tm (canon keep st).fr (canon keep st).hp ∧ StepR st (canon keep st) g w g w := by
  refine ⟨?_, ⟨rfl, id, X.refl _ _ _ _ _⟩⟩
  show Rel g w tm (keep.map fun t => (t, keepRef keep (get st.fr t))) st.hp
  refine R.weaken (fun t => ?_) (fun t t' pre h => ?_)
  · rw [get_map]; split
    · exact keepRef_cases _ _
    · exact .inr rfl
  · rw [get_map] at h ⊢
    split at h
    · obtain ⟨h1, h2⟩ := keepRef_ref h
      rw [if_pos h2]
      exact keepRef_rooty (rooty_of_rootOk (R.live t t' pre h1))
    · cases h

theorem After.trans {st st1 st2 : St} {a a1 a2 : Act} (h : After st st1 g a w a1 w1) (h' : ∀ g1, Rel g1 w1 a1.tmps st1.fr st1.hp → StepR st st1 g w g1 w1 → After st1 st2 g1 a1 w1 a2 w2) : After st st2 g a w a2 w2 := by
  obtain ⟨⟨g1, R1, S1⟩, h2, h3⟩ := h
  obtain ⟨⟨g2, R2, S2⟩, h4, h5⟩ := h' g1 R1 S1
  exact ⟨⟨g2, R2, S1.trans S2⟩, h4.trans h2, h5.trans h3⟩

def exOf : Ex → Exit
  | .normal => .normal
  | .exit id => .exit id
  | .goto l => .goto l
  | .ret => .ret

def wfOps (n : Nat) (ops : List Oper) : Bool := ops.all fun o => match o.dst with | some d => decide (d < n) | none => true
theorem wfOps_spec {n : Nat} {ops : List Oper} (h : wfOps n ops = true) : ∀ o ∈ ops, ∀ d, o.dst = some d → d < n := fun o ho d hd => by
  have := List.all_eq_true.1 h o ho
  simpa [hd] using this
def wfCode (H : Hint) (n : Nat) : Code → Bool
  | .region id ops dr => wfOps n ops.toList && (!dr || drawChk ops (H.free id) (H.pairs id))
  | .seq a b => wfCode H n a && wfCode H n b
  | .cond _ a b => wfCode H n a && wfCode H n b
  | .block _ c | .loop c | .scope c => wfCode H n c
  | _ => true

theorem then_of {next : Act → World → Prop} {Q : Exit → Act → World → Prop} {e : Ex} {a : Act} {w : World} (h : e = .normal → next a w) (h' : e ≠ .normal → Q (exOf e) a w) : Exit.then next Q (exOf e) a w := by
  cases e with
  | normal => exact h rfl
  | exit id => exact h' (by simp)
  | goto l => exact h' (by simp)
  | ret => exact h' (by simp)

/-- What a region that asks for its order may do. -/
def DrawOK (P : Program) (H : Hint) (own : FuncId → Option Nat) (callF : CallF) (n : Nat) : Prop :=
  ∀ (id : Nat) (ops : Array Oper) (st st' : St) (a : Act) (w : World) (g : G) (Q : Exit → Act → World → Prop), wfOps n ops.toList = true → drawChk ops (H.free id) (H.pairs id) = true → a.tmps.size = n → Rel g w a.tmps st.fr st.hp → st.base ≤ st.hp.length →
    evalDraw P H own callF id ops st = some st' → (∀ a' w', After st st' g a w a' w' → Q .normal a' w') → (Code.region id ops true).wp P Q a w

theorem hasLabel_find (l : Nat) : ∀ c : Code, hasLabel l c = (findLabel c l).isSome
  | .seq a b => by
    simp only [hasLabel, findLabel, hasLabel_find l a, hasLabel_find l b]
    cases findLabel a l <;> simp
  | .label l' => by simp only [hasLabel, findLabel]; split <;> simp_all
  | .skip | .region .. | .cond .. | .block .. | .loop .. | .rangeFunc .. | .exit _ | .scope _ | .goto _ | .ret | .refuse _ => rfl

def Code.jumps (P : Program) (body : Code) (Q : Exit → Act → World → Prop) : Nat → Code → Act → World → Prop
  | 0, _, _, _ => False
  | n + 1, c, a, w => c.wp P (fun e a w => match e with
    | .goto l => (match findLabel body l with
      | some rest => Code.jumps P body Q n rest a w
      | none => Q (.goto l) a w)
    | e => Q e a w) a w

theorem wp_scope_jumps {body : Code} {Q : Exit → Act → World → Prop} {a : Act} (n : Nat) (h : Code.jumps P body Q n body a w) : (Code.scope body).wp P Q a w := by
  intro b k cs
  have key : ∀ n c a w, Code.jumps P body Q n c a w → ∃ e a' w', Q e a' w' ∧ Arrives P (lone (b.at a (.code c :: .inScope body :: k)) cs w) b k cs e a' w' := by
    intro n
    induction n with
    | zero => intro c a w h; exact h.elim
    | succ n ih =>
      intro c a w h
      obtain ⟨e, a₁, w₁, hq, harr⟩ := h b (.inScope body :: k) cs
      cases e with
      | normal => exact ⟨.normal, a₁, w₁, hq, Steps.trans harr (.one step_inScope)⟩
      | exit id => exact ⟨.exit id, a₁, w₁, hq, fun k' hk => harr k' (by simp [exitTo, hk])⟩
      | goto l =>
        simp only at hq
        cases hf : findLabel body l with
        | none =>
          rw [hf] at hq
          exact ⟨.goto l, a₁, w₁, hq, fun k' hk => harr k' (by simp [gotoIn, hf, hk])⟩
        | some rest =>
          rw [hf] at hq
          obtain ⟨e₂, a₂, w₂, hq₂, harr₂⟩ := ih rest a₁ w₁ hq
          exact ⟨e₂, a₂, w₂, hq₂, .of_steps (harr _ (by simp [gotoIn, hf])) harr₂⟩
      | ret => exact ⟨_, a₁, w₁, hq, harr⟩
      | panic ch => exact ⟨_, a₁, w₁, hq, harr⟩
      | outgrown => exact ⟨_, a₁, w₁, hq, harr⟩
  obtain ⟨e, a', w', hq, harr⟩ := key n body a w h
  exact ⟨e, a', w', hq, .of_steps (.one step_scope) harr⟩

theorem jumps_of {body : Code} {Q : Exit → Act → World → Prop} {e : Ex} {a : Act} {n : Nat} (h : ∀ l, e = .goto l → (match findLabel body l with | some rest => Code.jumps P body Q n rest a w | none => Q (.goto l) a w)) (h' : (∀ l, e ≠ .goto l) → Q (exOf e) a w) :
    (fun (e : Exit) a w => match e with
    | .goto l => (match findLabel body l with
      | some rest => Code.jumps P body Q n rest a w
      | none => Q (.goto l) a w)
    | e => Q e a w) (exOf e) a w := by
  cases e with
  | normal => exact h' (by simp)
  | exit id => exact h' (by simp)
  | goto l => exact h l rfl
  | ret => exact h' (by simp)

mutual
theorem evalCode_sound (Tb : Tabs P) {H : Hint} {own : FuncId → Option Nat} {callF : CallF} (hcall : CallS P own callF) {nt : Nat} (hdraw : DrawOK P H own callF nt) (n : Nat) : ∀ (c : Code) {st st' : St} {e : Ex} {a : Act} {w : World} {g : G} {Q : Exit → Act → World → Prop},
    wfCode H nt c = true → a.tmps.size = nt → Rel g w a.tmps st.fr st.hp → st.base ≤ st.hp.length → evalCode P H own callF n c none st = some (e, st') →
    (∀ a' w', After st st' g a w a' w' → Q (exOf e) a' w') → c.wp P Q a w
  | .seq x y, st, st', e, a, w, g, Q, hwf, hn, R, hb, h, hQ => by
    simp only [wfCode, Bool.and_eq_true] at hwf
    unfold evalCode at h
    split at h
    · rename_i st1 h1
      refine wp_seq (evalCode_sound Tb hcall hdraw n x hwf.1 hn R hb h1 fun a1 w1 A1 => ?_)
      obtain ⟨⟨g1, R1, S1⟩, h2, h3⟩ := A1
      exact evalCode_sound Tb hcall hdraw n y hwf.2 (h2.trans hn) R1 (S1.baseOk hb) h fun a2 w2 ⟨⟨g2, R2, S2⟩, h4, h5⟩ => hQ a2 w2 ⟨⟨g2, R2, S1.trans S2⟩, h4.trans h2, h5.trans h3⟩
    · rename_i hne
      refine wp_seq (evalCode_sound Tb hcall hdraw n x hwf.1 hn R hb h fun a1 w1 A1 => then_of (fun he => ?_) fun _ => hQ a1 w1 A1)
      subst he
      exact (hne _ h).elim
  | .skip, st, st', e, a, w, g, Q, hwf, hn, R, hb, h, hQ => by
    simp only [evalCode, Option.some.injEq, Prod.mk.injEq] at h
    obtain ⟨rfl, rfl⟩ := h
    exact wp_skip (hQ a w ⟨⟨g, R, StepR.refl _ _ _⟩, rfl, rfl⟩)
  | .label l, st, st', e, a, w, g, Q, hwf, hn, R, hb, h, hQ => by
    simp only [evalCode, Option.some.injEq, Prod.mk.injEq] at h
    obtain ⟨rfl, rfl⟩ := h
    exact wp_label (hQ a w ⟨⟨g, R, StepR.refl _ _ _⟩, rfl, rfl⟩)
  | .exit id, st, st', e, a, w, g, Q, hwf, hn, R, hb, h, hQ => by
    simp only [evalCode, Option.some.injEq, Prod.mk.injEq] at h
    obtain ⟨rfl, rfl⟩ := h
    exact wp_exit (hQ a w ⟨⟨g, R, StepR.refl _ _ _⟩, rfl, rfl⟩)
  | .goto l, st, st', e, a, w, g, Q, hwf, hn, R, hb, h, hQ => by
    simp only [evalCode, Option.some.injEq, Prod.mk.injEq] at h
    obtain ⟨rfl, rfl⟩ := h
    exact wp_goto (hQ a w ⟨⟨g, R, StepR.refl _ _ _⟩, rfl, rfl⟩)
  | .ret, st, st', e, a, w, g, Q, hwf, hn, R, hb, h, hQ => by
    simp only [evalCode, Option.some.injEq, Prod.mk.injEq] at h
    obtain ⟨rfl, rfl⟩ := h
    exact wp_ret (hQ a w ⟨⟨g, R, StepR.refl _ _ _⟩, rfl, rfl⟩)
  | .region id ops dr, st, st', e, a, w, g, Q, hwf, hn, R, hb, h, hQ => by
    simp only [wfCode, Bool.and_eq_true, Bool.or_eq_true, Bool.not_eq_true'] at hwf
    simp only [evalCode] at h
    split at h
    · rename_i st1 h1
      simp only [Option.some.injEq, Prod.mk.injEq] at h
      obtain ⟨rfl, rfl⟩ := h
      have fin : ∀ a' w', After st st1 g a w a' w' → Q .normal a' w' := fun a' w' ⟨⟨g1, R1, S1⟩, h2, h3⟩ => by
        obtain ⟨g2, R2, S2⟩ := softAll_sound (H.soft id) R1
        obtain ⟨R3, S3⟩ := canon_sound R2 (H.keep id)
        exact hQ a' w' ⟨⟨g2, R3, S1.trans (S2.trans S3)⟩, h2, h3⟩
      cases dr with
      | true =>
        rcases hwf.2 with h' | h'
        · cases h'
        · exact hdraw id ops st st1 a w g Q hwf.1 h' hn R hb (by simpa using h1) fin
      | false =>
        simp only [Bool.false_eq_true, if_false] at h1
        cases hz : H.lazy id with
        | none =>
          rw [hz] at h1
          exact wp_region_list (evalOps_sound Tb hcall ops.toList R hb (by rw [hn]; exact wfOps_spec hwf.1) h1 fin)
        | some k =>
          rw [hz] at h1
          exact wp_region_list (evalOpsL_sound Tb hcall R hb (by rw [hn]; exact wfOps_spec hwf.1) h1 fin)
    · cases h
  | .cond c x y, st, st', e, a, w, g, Q, hwf, hn, R, hb, h, hQ => by
    simp only [wfCode, Bool.and_eq_true] at hwf
    obtain ⟨⟨tc, hc⟩, _⟩ := opv_sound R a rfl c
    simp only [evalCode] at h
    split at h
    · rename_i hb'; rw [hb'] at hc
      exact wp_cond_true hc.bool_inv (evalCode_sound Tb hcall hdraw n x hwf.1 hn R hb h hQ)
    · rename_i hb'; rw [hb'] at hc
      exact wp_cond_false hc.bool_inv (evalCode_sound Tb hcall hdraw n y hwf.2 hn R hb h hQ)
    · cases h
  | .block id b, st, st', e, a, w, g, Q, hwf, hn, R, hb, h, hQ => by
    simp only [wfCode] at hwf
    simp only [evalCode] at h
    refine wp_block ?_
    split at h
    · rename_i id' st1 h1
      refine evalCode_sound Tb hcall hdraw n b hwf hn R hb h1 fun a1 w1 A1 => ?_
      simp only [exOf, Exit.inBlock]
      split at h
      · rename_i he; subst he; cases h; simp only [if_true]; exact hQ a1 w1 A1
      · rename_i he; cases h; rw [if_neg he]; exact hQ a1 w1 A1
    · rename_i hne
      refine evalCode_sound Tb hcall hdraw n b hwf hn R hb h fun a1 w1 A1 => ?_
      cases e with
      | exit id' => exact (hne _ _ h).elim
      | normal => exact hQ a1 w1 A1
      | goto l => exact hQ a1 w1 A1
      | ret => exact hQ a1 w1 A1
  | .loop b, st, st', e, a, w, g, Q, hwf, hn, R, hb, h, hQ => by
    simp only [wfCode] at hwf
    simp only [evalCode] at h
    refine wp_loop_rounds n ?_
    have key : ∀ (k : Nat) {st : St} {a : Act} {w : World} {g : G}, a.tmps.size = nt → Rel g w a.tmps st.fr st.hp → st.base ≤ st.hp.length →
        iter (fun st => evalCode P H own callF n b none (canon (H.head (firstReg b)) st)) k st = some (e, st') → (∀ a' w', After st st' g a w a' w' → Q (exOf e) a' w') → Code.rounds P b Q k a w := by
      intro k
      induction k with
      | zero => intro st a w g _ _ _ h; cases h
      | succ k ih =>
        intro st a w g hn R hb h hQ
        unfold iter at h
        obtain ⟨R0, S0⟩ := canon_sound R (H.head (firstReg b))
        have hb0 := S0.baseOk hb
        split at h
        · rename_i st1 h1
          refine evalCode_sound Tb hcall hdraw n b hwf hn R0 hb0 h1 fun a1 w1 A1 => ?_
          obtain ⟨⟨g1, R1, S1⟩, h2, h3⟩ := A1
          exact ih (h2.trans hn) R1 (S1.baseOk hb0) h fun a2 w2 ⟨⟨g2, R2, S2⟩, h4, h5⟩ => hQ a2 w2 ⟨⟨g2, R2, (S0.trans S1).trans S2⟩, h4.trans h2, h5.trans h3⟩
        · rename_i hne
          refine evalCode_sound Tb hcall hdraw n b hwf hn R0 hb0 h fun a1 w1 ⟨⟨g1, R1, S1⟩, h2, h3⟩ => then_of (fun he => ?_) fun _ => hQ a1 w1 ⟨⟨g1, R1, S0.trans S1⟩, h2, h3⟩
          subst he
          exact (hne _ h).elim
    exact key n hn R hb h hQ
  | .scope b, st, st', e, a, w, g, Q, hwf, hn, R, hb, h, hQ => by
    simp only [wfCode] at hwf
    simp only [evalCode] at h
    refine wp_scope_jumps n ?_
    have key : ∀ (k : Nat) (j : Option Nat) (c : Code) {st : St} {a : Act} {w : World} {g : G}, (j = none ∧ c = b ∨ ∃ l, j = some l ∧ findLabel b l = some c) → a.tmps.size = nt → Rel g w a.tmps st.fr st.hp → st.base ≤ st.hp.length →
        scopeIter (evalCode P H own callF n b) (fun l => hasLabel l b) H.head k j st = some (e, st') → (∀ a' w', After st st' g a w a' w' → Q (exOf e) a' w') → Code.jumps P b Q k c a w := by
      intro k
      induction k with
      | zero => intro j c st a w g _ _ _ _ h; cases h
      | succ k ih =>
        intro j c st a w g hj hn R hb h hQ
        unfold scopeIter at h
        have run : ∀ {e1 : Ex} {st1 : St} {Q1 : Exit → Act → World → Prop}, evalCode P H own callF n b j st = some (e1, st1) → (∀ a' w', After st st1 g a w a' w' → Q1 (exOf e1) a' w') → c.wp P Q1 a w := fun {e1 st1 Q1} h1 hQ1 => by
          rcases hj with ⟨rfl, rfl⟩ | ⟨l, rfl, hf⟩
          · exact evalCode_sound Tb hcall hdraw n c hwf hn R hb h1 hQ1
          · exact evalFrom_sound Tb hcall hdraw n b l c hf hwf hn R hb h1 hQ1
        unfold Code.jumps
        split at h
        · rename_i l st1 h1
          refine run h1 fun a1 w1 A1 => ?_
          simp only [exOf]
          split at h
          · rename_i hl
            rw [hasLabel_find] at hl
            obtain ⟨rest, hr⟩ := Option.isSome_iff_exists.1 hl
            rw [hr]
            obtain ⟨⟨g1, R1, S1⟩, h2, h3⟩ := A1
            obtain ⟨R2, S2⟩ := canon_sound R1 (H.head (1000 + l))
            exact ih (some l) rest (.inr ⟨l, rfl, hr⟩) (h2.trans hn) R2 (S2.baseOk (S1.baseOk hb)) h fun a2 w2 ⟨⟨g2, R3, S3⟩, h4, h5⟩ => hQ a2 w2 ⟨⟨g2, R3, (S1.trans S2).trans S3⟩, h4.trans h2, h5.trans h3⟩
          · rename_i hl
            rw [hasLabel_find] at hl
            have hr : findLabel b l = none := by simpa using hl
            rw [hr]
            simp only [Option.some.injEq, Prod.mk.injEq] at h
            obtain ⟨rfl, rfl⟩ := h
            exact hQ a1 w1 A1
        · rename_i hne
          refine run h fun a1 w1 A1 => jumps_of (fun l he => ?_) fun _ => hQ a1 w1 A1
          subst he
          exact (hne _ _ h).elim
    exact key n none b (.inl ⟨rfl, rfl⟩) hn R hb h hQ
  | .rangeFunc .., st, st', e, a, w, g, Q, hwf, hn, R, hb, h, hQ => by simp [evalCode] at h
  | .refuse _, st, st', e, a, w, g, Q, hwf, hn, R, hb, h, hQ => by simp [evalCode] at h

theorem evalFrom_sound (Tb : Tabs P) {H : Hint} {own : FuncId → Option Nat} {callF : CallF} (hcall : CallS P own callF) {nt : Nat} (hdraw : DrawOK P H own callF nt) (n : Nat) : ∀ (c : Code) (l : Nat) (rest : Code) {st st' : St} {e : Ex} {a : Act} {w : World} {g : G} {Q : Exit → Act → World → Prop},
    findLabel c l = some rest → wfCode H nt c = true → a.tmps.size = nt → Rel g w a.tmps st.fr st.hp → st.base ≤ st.hp.length → evalCode P H own callF n c (some l) st = some (e, st') →
    (∀ a' w', After st st' g a w a' w' → Q (exOf e) a' w') → rest.wp P Q a w
  | .seq x y, l, rest, st, st', e, a, w, g, Q, hf, hwf, hn, R, hb, h, hQ => by
    simp only [wfCode, Bool.and_eq_true] at hwf
    unfold evalCode at h
    rw [hasLabel_find] at h
    simp only [findLabel] at hf
    split at hf
    · rename_i r1 hf1
      cases hf
      rw [hf1] at h
      simp only [Option.isSome_some, if_true] at h
      split at h
      · rename_i st1 h1
        refine wp_seq (evalFrom_sound Tb hcall hdraw n x l r1 hf1 hwf.1 hn R hb h1 fun a1 w1 A1 => ?_)
        obtain ⟨⟨g1, R1, S1⟩, h2, h3⟩ := A1
        exact evalCode_sound Tb hcall hdraw n y hwf.2 (h2.trans hn) R1 (S1.baseOk hb) h fun a2 w2 ⟨⟨g2, R2, S2⟩, h4, h5⟩ => hQ a2 w2 ⟨⟨g2, R2, S1.trans S2⟩, h4.trans h2, h5.trans h3⟩
      · rename_i hne
        refine wp_seq (evalFrom_sound Tb hcall hdraw n x l r1 hf1 hwf.1 hn R hb h fun a1 w1 A1 => then_of (fun he => ?_) fun _ => hQ a1 w1 A1)
        subst he
        exact (hne _ h).elim
    · rename_i hf1
      rw [hf1] at h
      simp only [Option.isSome_none, Bool.false_eq_true, if_false] at h
      exact evalFrom_sound Tb hcall hdraw n y l rest hf hwf.2 hn R hb h hQ
  | .label l', l, rest, st, st', e, a, w, g, Q, hf, hwf, hn, R, hb, h, hQ => by
    simp only [findLabel] at hf
    split at hf
    · rename_i he
      cases hf
      have he : l' = l := by simpa using he
      simp only [evalCode, he, if_true, Option.some.injEq, Prod.mk.injEq] at h
      obtain ⟨rfl, rfl⟩ := h
      exact wp_skip (hQ a w ⟨⟨g, R, StepR.refl _ _ _⟩, rfl, rfl⟩)
    · cases hf
  | .skip, _, _, _, _, _, _, _, _, _, hf, _, _, _, _, _, _ => by cases hf
  | .region .., _, _, _, _, _, _, _, _, _, hf, _, _, _, _, _, _ => by cases hf
  | .cond .., _, _, _, _, _, _, _, _, _, hf, _, _, _, _, _, _ => by cases hf
  | .block .., _, _, _, _, _, _, _, _, _, hf, _, _, _, _, _, _ => by cases hf
  | .loop .., _, _, _, _, _, _, _, _, _, hf, _, _, _, _, _, _ => by cases hf
  | .rangeFunc .., _, _, _, _, _, _, _, _, _, hf, _, _, _, _, _, _ => by cases hf
  | .exit _, _, _, _, _, _, _, _, _, _, hf, _, _, _, _, _, _ => by cases hf
  | .scope _, _, _, _, _, _, _, _, _, _, hf, _, _, _, _, _, _ => by cases hf
  | .goto _, _, _, _, _, _, _, _, _, _, hf, _, _, _, _, _, _ => by cases hf
  | .ret, _, _, _, _, _, _, _, _, _, hf, _, _, _, _, _, _ => by cases hf
  | .refuse _, _, _, _, _, _, _, _, _, _, hf, _, _, _, _, _, _ => by cases hf
end
end
end Go.PS
end

section
/-
  Regions that ask for their order: what an operation's answer hangs on.
-/
namespace Go.PS
section
variable {g g' g1 g2 : G} {w w' w1 w2 : World} {hn hn' : Nat} {tm : Array Value} {fr fr' : Fr} {hp hp' hp1 hp2 : Heap} {P : Program} {t : Nat} {st s2 : St}

def SameRoot (st s2 : St) (v : PV) : Prop := ∀ r pre, refOf v = some (r, pre) → rootPV s2 r = rootPV st r

theorem nav_same {r : Root} {pre : Option Nat} (h : rootPV s2 r = rootPV st r) : nav s2 r pre = nav st r pre := by unfold nav; rw [h]
theorem navS_same {r : Root} {pre : Option Nat} (h : rootPV s2 r = rootPV st r) : navS s2 r pre = navS st r pre := by unfold navS; rw [nav_same h]
theorem content_same {x : PV} (h : SameRoot st s2 x) : content s2 x = content st x := by
  cases x with
  | hd r pre => simp only [content]; rw [navS_same (h r pre rfl)]
  | vw r pre off sz n => simp only [content]; rw [nav_same (h r pre rfl)]
  | _ => rfl
theorem lenOf_same {x : PV} (h : SameRoot st s2 x) : lenOf s2 x = lenOf st x := by
  cases x with
  | hd r pre => simp only [lenOf]; rw [navS_same (h r pre rfl)]
  | _ => rfl
theorem load_same {T : TypeId} {x : PV} (h : SameRoot st s2 x) : load P s2 T x = load P st T x := by
  cases x with
  | ptr r pre off => simp only [load]; rw [nav_same (h r pre rfl)]
  | _ => rfl
theorem sliceOp_same {T : TypeId} {x : PV} {lo hi mx : Option PV} (h : SameRoot st s2 x) : sliceOp P s2 T x lo hi mx = sliceOp P st T x lo hi mx := by
  unfold sliceOp
  cases P.underlying T with
  | none => rfl
  | some d => cases d <;> cases x <;> first | rfl | (simp only; rw [navS_same (h _ _ rfl)])
theorem indexAddr_same {T : TypeId} {x i : PV} (h : SameRoot st s2 x) : indexAddr P s2 T x i = indexAddr P st T x i := by
  unfold indexAddr
  cases i with
  | int k n =>
    simp only
    cases P.underlying T with
    | none => rfl
    | some d => cases d <;> cases x <;> first | rfl | (simp only; rw [navS_same (h _ _ rfl)])
  | _ => rfl
theorem conv_same {S D : TypeId} {x : PV} (h : SameRoot st s2 x) : conv P s2 S D x = conv P st S D x := by
  unfold conv
  cases P.underlying S with
  | none => rfl
  | some d => cases P.underlying D with
    | none => cases d <;> rfl
    | some d' => cases d <;> cases d' <;> cases x <;> first | rfl | (simp only; rw [content_same h])

theorem seen_tmp (fr : Fr) (t : Nat) : seen (.tmp t) (opv fr (.tmp t)) = viewSlot t (get fr t) := by
  show viewSlot t (match get fr t with | .box _ => .ptr (.slot t) none 0 | v => v) = _
  generalize get fr t = v
  cases v <;> rfl
theorem seen_same {x : Operand} (h : SameRoot st s2 (opv st.fr x)) (hm : ∀ t, x = .tmp t → get s2.fr t = get st.fr t) : SameRoot st s2 (seen x (opv st.fr x)) := by
  cases x with
  | tmp t =>
    have hg := hm t rfl
    have slot : rootPV s2 (.slot t) = rootPV st (.slot t) := by simp only [rootPV]; exact hg
    rw [seen_tmp]
    intro r pre hr
    have h : SameRoot st s2 (match get st.fr t with | .box _ => .ptr (.slot t) none 0 | v => v) := h
    cases hv : get st.fr t with
    | sl tg n cs =>
      rw [hv] at hr
      cases tg <;> first | (cases hr; done) | (cases hr; exact slot)
    | box cs => rw [hv] at hr; cases hr; exact slot
    | agg cs => rw [hv] at hr; cases hr
    | _ => rw [hv] at h hr; exact h r pre hr
  | _ => exact h
/-- The pure operations' answers hang on their operands and on what these show. -/
theorem stepA_same {o : Oper} (hv : ∀ x ∈ o.op.operands.toList, opv s2.fr x = opv st.fr x) (hm : ∀ t, Operand.tmp t ∈ o.op.operands.toList → get s2.fr t = get st.fr t)
    (hr : plainOp o.op = true ∨ ∀ x ∈ o.op.operands.toList, SameRoot st s2 (opv st.fr x)) : stepA P s2 o = stepA P st o := by
  have nr : plainOp o.op = false → ∀ x ∈ o.op.operands.toList, SameRoot st s2 (opv st.fr x) := fun h => by
    rcases hr with h' | h'
    · rw [h] at h'; cases h'
    · exact h'
  unfold stepA
  cases ho : o.op with
  | move x =>
    rw [ho] at hv hm
    simp only [Op.operands] at hv hm
    cases x with
    | tmp t => simp only; rw [hm t (by simp)]
    | _ => simp only; rw [hv _ (by simp)]
  | pick c a b => rw [ho] at hv; simp only [Op.operands] at hv; simp only; rw [hv c (by simp), hv a (by simp), hv b (by simp)]
  | load T a =>
    rw [ho] at hv nr; simp only [Op.operands] at hv nr
    simp only; rw [hv a (by simp), load_same (nr rfl a (by simp))]
  | nilCheck x => rw [ho] at hv; simp only [Op.operands] at hv; simp only; rw [hv x (by simp)]
  | fieldAddr T x i => rw [ho] at hv; simp only [Op.operands] at hv; simp only; rw [hv x (by simp)]
  | field T x i => rw [ho] at hv; simp only [Op.operands] at hv; simp only; rw [hv x (by simp)]
  | indexAddr T x i =>
    rw [ho] at hv nr hm; simp only [Op.operands] at hv nr hm
    simp only; rw [hv x (by simp), hv i (by simp), indexAddr_same (seen_same (nr rfl x (by simp)) fun t e => hm t (by simp [e]))]
  | index T x i => rw [ho] at hv; simp only [Op.operands] at hv; simp only; rw [hv x (by simp), hv i (by simp)]
  | binOp op T x y U => rw [ho] at hv; simp only [Op.operands] at hv; simp only; rw [hv x (by simp), hv y (by simp)]
  | unOp op T x => rw [ho] at hv; simp only [Op.operands] at hv; simp only; rw [hv x (by simp)]
  | convert a b x =>
    rw [ho] at hv nr; simp only [Op.operands] at hv nr
    simp only; rw [hv x (by simp), conv_same (nr rfl x (by simp))]
  | slice T x lo hi mx =>
    rw [ho] at hv nr; simp only [Op.operands] at hv nr
    simp only
    rw [hv x (by simp), sliceOp_same (nr rfl x (by simp))]
    have e : ∀ z : Option Operand, (∀ y, z = some y → opv s2.fr y = opv st.fr y) → z.map (opv s2.fr) = z.map (opv st.fr) := fun z hz => by
      cases z with
      | none => rfl
      | some y => simp [hz y rfl]
    rw [e lo fun y h => hv y (by subst h; simp), e hi fun y h => hv y (by subst h; simp), e mx fun y h => hv y (by subst h; simp)]
  | extract x i => rw [ho] at hv; simp only [Op.operands] at hv; simp only; rw [hv x (by simp)]
  | makeSlice T l c => rw [ho] at hv; simp only [Op.operands] at hv; simp only; rw [hv l (by simp), hv c (by simp)]
  | call c =>
    rw [ho] at hv nr
    simp only [Op.operands] at hv nr
    have hargs : ∀ x ∈ c.args.toList, x ∈ c.operands.toList := fun x hx => by
      unfold Call.operands
      split <;> simp_all
    simp only
    cases hc : c.callee with
    | builtin b =>
      have hmap : c.args.toList.map (opv s2.fr) = c.args.toList.map (opv st.fr) := List.map_congr_left fun x hx => hv x (hargs x hx)
      cases b <;> simp only
      · cases ha : c.args.toList with
        | nil => rfl
        | cons x xs =>
          have hx := hargs x (by rw [ha]; simp)
          cases xs with
          | cons y ys => rfl
          | nil =>
            cases c.argTypes.toList with
            | nil => rfl
            | cons T Ts => cases Ts with
              | cons _ _ => rfl
              | nil =>
                simp only
                rw [hv x hx]
                have hl := lenOf_same (nr rfl x hx)
                cases P.underlying T with
                | none => rfl
                | some d => cases d <;> (try rfl)
                            simp only
                            generalize opv st.fr x = y at hl
                            cases y <;> first | rfl | (simp only; rw [hl])
      · rw [hmap]
      · rw [hmap]
    | _ => rfl
  | _ => rfl
end
end Go.PS
end

section
/-
  Regions that ask for their order: values that are handed over and leave everything as it is.
-/
namespace Go.PS
section
variable {g g' g1 g2 : G} {w w' w1 w2 : World} {hn hn' : Nat} {tm : Array Value} {fr fr' : Fr} {hp hp' hp1 hp2 : Heap} {P : Program} {t : Nat} {st s2 st1 : St}

def RootIf (st s2 : St) (v : PV) : Prop := (∀ r pre off, v ≠ .ptr r pre off) → SameRoot st s2 v

theorem navS_ow {r : Root} {pre : Option Nat} (h : (match navS st r pre with | some (.ow _, _, _) => true | _ => false) = true) : ∃ s n cs, navS st r pre = some (.ow s, n, cs) := by
  split at h
  · exact ⟨_, _, _, by assumption⟩
  · cases h

theorem takeV_ok {x v : PV} (hok : okV st x = true) (h : takeV st x = some (st1, v)) : st1 = st := by
  cases x with
  | hd r pre =>
    obtain ⟨s, n, cs, hn⟩ := navS_ow hok
    simp only [takeV, hn] at h
    cases h; rfl
  | vw r pre off sz n =>
    obtain ⟨s, m, cs, hn⟩ := navS_ow hok
    simp only [takeV, hn] at h
    split at h
    · cases h; rfl
    · cases h
  | _ => first | (simp only [takeV] at h; cases h; rfl) | (simp [takeV] at h)
theorem takeV_same {x v : PV} (hok : okV st x = true) (h : takeV st x = some (st1, v)) (hr : RootIf st s2 x) : takeV s2 x = some (s2, v) ∧ okV s2 x = true := by
  cases x with
  | hd r pre =>
    have hn' := navS_same (pre := pre) (hr (by simp) r pre rfl)
    obtain ⟨s, n, cs, hn⟩ := navS_ow hok
    simp only [takeV, hn] at h
    cases h
    refine ⟨by simp only [takeV, hn', hn], by simp only [okV, hn', hn]⟩
  | vw r pre off sz n =>
    have hn' := navS_same (pre := pre) (hr (by simp) r pre rfl)
    obtain ⟨s, m, cs, hn⟩ := navS_ow hok
    simp only [takeV, hn] at h
    split at h
    · rename_i hle
      cases h
      exact ⟨by simp only [takeV, hn', hn]; rw [if_pos hle], by simp only [okV, hn', hn]⟩
    · cases h
  | sl g n cs => simp only [takeV] at h; cases h; exact ⟨rfl, by cases g <;> exact hok⟩
  | agg cs => simp only [takeV] at h; cases h; exact ⟨rfl, hok⟩
  | box cs => simp [takeV] at h
  | undef => simp [takeV] at h
  | _ => simp only [takeV] at h; cases h; exact ⟨rfl, rfl⟩

theorem take_eq {x : Operand} (hok : okOp st x = true) : take st x = takeV st (opv st.fr x) := by
  cases x with
  | tmp t =>
    simp only [okOp] at hok
    cases ho : opv st.fr (.tmp t) with
    | sl g n cs =>
      rw [ho] at hok
      cases g <;> first | (simp [okV] at hok; done) | (simp [take, ho])
    | agg cs =>
      rw [ho] at hok
      have hl : cs.all lasting = true := hok
      simp only [take, ho, hl, if_true, takeV]
    | _ => simp [take, ho]
  | const u =>
    unfold take
    split <;> first | rfl | exact absurd ‹Operand.const u = Operand.tmp _› (by simp)
  | global n => simp [take, opv, takeV]
  | func f => simp [take, opv, takeV]

theorem const_ok (u : Value) : okV st (ofConst u) = true ∨ (∃ n, ofConst u = .sl (.mu n) 0 []) ∨ ofConst u = .undef := by
  cases u <;> simp only [ofConst] <;> first | (exact .inl rfl) | (repeat' split) <;> first | (exact .inl rfl) | (exact .inr (.inl ⟨_, rfl⟩)) | (exact .inr (.inr rfl)) | (simp; done) | (right; right; trivial)

theorem take_ok {x : Operand} {v : PV} (hok : okOp st x = true) (h : take st x = some (st1, v)) : st1 = st := by
  rw [take_eq hok] at h
  cases x with
  | tmp t => exact takeV_ok hok h
  | const u =>
    rcases const_ok (st := st) u with h1 | ⟨n, h1⟩ | h1
    · exact takeV_ok h1 h
    · simp only [opv, h1, takeV] at h; cases h; rfl
    · simp [opv, h1, takeV] at h
  | global n => cases hok
  | func f => simp only [opv, takeV] at h; cases h; rfl
theorem take_same {x : Operand} {v : PV} (hok : okOp st x = true) (h : take st x = some (st1, v)) (hv : opv s2.fr x = opv st.fr x) (hr : RootIf st s2 (opv st.fr x)) : take s2 x = some (s2, v) ∧ okOp s2 x = true := by
  rw [take_eq hok] at h
  cases x with
  | tmp t =>
    obtain ⟨h1, h2⟩ := takeV_same hok h hr
    have hok2 : okOp s2 (.tmp t) = true := by simp only [okOp]; rw [hv]; exact h2
    rw [take_eq hok2, hv]
    exact ⟨h1, hok2⟩
  | const u =>
    rw [take_eq (by rfl)]
    refine ⟨?_, rfl⟩
    rcases const_ok (st := st) u with h1 | ⟨n, h1⟩ | h1
    · exact (takeV_same h1 h hr).1
    · simp only [opv, h1, takeV] at h ⊢; cases h; rfl
    · simp [opv, h1, takeV] at h
  | global n => cases hok
  | func f => rw [take_eq (by rfl)]; simp only [opv, takeV] at h ⊢; cases h; exact ⟨rfl, rfl⟩

theorem preShare_ok {dies : Nat → Bool} {x : Operand} (hok : okOp st x = true) : preShare dies st x = st := by
  unfold preShare
  split
  · rename_i t r pre ho
    split
    · rfl
    · simp only [okOp, ho] at hok
      obtain ⟨s, n, cs, hn⟩ := navS_ow hok
      simp only [shareAt, hn]
  · rfl
theorem preShares_ok {dies : Nat → Bool} : ∀ (xs : List (Nat × Operand)), (∀ p ∈ xs, okOp st p.2 = true) → xs.foldl (fun st p => preShare dies st p.2) st = st
  | [], _ => rfl
  | x :: xs, h => by
    rw [List.foldl_cons, preShare_ok (h x (by simp))]
    exact preShares_ok xs fun p hp => h p (by simp [hp])

theorem takeOut_ok {x : Operand} {v : PV} (hok : okOp st x = true) (h : takeOut st x = some (st1, v)) : st1 = st := by
  unfold takeOut at h
  split at h
  · rename_i r pre ho
    cases x with
    | tmp t =>
      simp only [okOp, ho] at hok
      obtain ⟨s, n, cs, hn⟩ := navS_ow hok
      simp only [shareAt, hn] at h
      cases h; rfl
    | const u => cases u <;> simp [opv, ofConst] at ho <;> (repeat' split at ho) <;> cases ho
    | global n => cases hok
    | func f => cases ho
  · split at h
    · rename_i st2 u ht
      split at h
      · cases h; exact take_ok hok ht
      · cases h
    · cases h
theorem takeOut_same {x : Operand} {v : PV} (hok : okOp st x = true) (h : takeOut st x = some (st1, v)) (hv : opv s2.fr x = opv st.fr x) (hr : RootIf st s2 (opv st.fr x)) : takeOut s2 x = some (s2, v) ∧ okOp s2 x = true := by
  unfold takeOut at h ⊢
  split at h
  · rename_i r pre ho
    cases x with
    | tmp t =>
      rw [ho] at hr
      have hn' := navS_same (pre := pre) (hr (by simp) r pre rfl)
      have hok' := hok
      simp only [okOp, ho] at hok
      obtain ⟨s, n, cs, hn⟩ := navS_ow hok
      simp only [shareAt, hn] at h
      cases h
      rw [hv, ho]
      simp only [shareAt, hn', hn]
      exact ⟨trivial, by simp only [okOp]; rw [hv, ho]; simp only [okV, hn', hn]⟩
    | const u => cases u <;> simp [opv, ofConst] at ho <;> (repeat' split at ho) <;> cases ho
    | global n => cases hok
    | func f => cases ho
  · rename_i hne
    split at h
    · rename_i st2 u ht
      split at h
      · rename_i hst
        cases h
        obtain ⟨h1, h2⟩ := take_same hok ht hv hr
        refine ⟨?_, h2⟩
        split
        · rename_i r pre ho
          rw [hv] at ho
          exact (hne r pre ho).elim
        · rw [h1]; simp only [hst, if_true]
      · cases h
    · cases h

theorem takeL_ok : ∀ {xs : List Operand} {vs : List PV} {st st1 : St}, xs.all (okOp st) = true → takeL st xs = some (st1, vs) → st1 = st
  | [], vs, st, st1, _, h => by cases h; rfl
  | x :: xs, vs, st, st1, hok, h => by
    simp only [List.all_cons, Bool.and_eq_true] at hok
    unfold takeL at h
    split at h
    · cases h
    · rename_i st2 v h1
      have := takeOut_ok hok.1 h1
      subst this
      split at h
      · cases h
      · rename_i st3 vs' h2
        cases h
        exact takeL_ok hok.2 h2
theorem takeL_same : ∀ {xs : List Operand} {vs : List PV} {st st1 s2 : St}, xs.all (okOp st) = true → takeL st xs = some (st1, vs) → (∀ x ∈ xs, opv s2.fr x = opv st.fr x) → (∀ x ∈ xs, RootIf st s2 (opv st.fr x)) → takeL s2 xs = some (s2, vs) ∧ xs.all (okOp s2) = true
  | [], vs, st, st1, s2, _, h, _, _ => by cases h; simp [takeL]
  | x :: xs, vs, st, st1, s2, hok, h, hv, hr => by
    simp only [List.all_cons, Bool.and_eq_true] at hok ⊢
    unfold takeL at h ⊢
    split at h
    · cases h
    · rename_i st2 v h1
      have := takeOut_ok hok.1 h1
      subst this
      split at h
      · cases h
      · rename_i st3 vs' h2
        cases h
        obtain ⟨a1, a2⟩ := takeOut_same hok.1 h1 (hv x (by simp)) (hr x (by simp))
        obtain ⟨b1, b2⟩ := takeL_same hok.2 h2 (fun y hy => hv y (by simp [hy])) (fun y hy => hr y (by simp [hy]))
        rw [a1]
        simp only [b1]
        first | exact ⟨rfl, a2, b2⟩ | exact ⟨trivial, a2, b2⟩

theorem buildL_ok {pl : Nat → Option (Nat × Nat)} : ∀ {parts : List (Nat × Operand)} {cs cs' : List PV} {st st1 : St}, parts.all (fun p => okOp st p.2) = true → buildL pl st cs parts = some (st1, cs') → st1 = st
  | [], cs, cs', st, st1, _, h => by cases h; rfl
  | (i, x) :: parts, cs, cs', st, st1, hok, h => by
    simp only [List.all_cons, Bool.and_eq_true] at hok
    unfold buildL at h
    split at h
    · rename_i off size st2 v h0 h1
      have := take_ok hok.1 h1
      subst this
      split at h
      · exact buildL_ok hok.2 h
      · cases h
    · cases h
theorem buildL_same {pl : Nat → Option (Nat × Nat)} : ∀ {parts : List (Nat × Operand)} {cs cs' : List PV} {st st1 s2 : St}, parts.all (fun p => okOp st p.2) = true → buildL pl st cs parts = some (st1, cs') →
    (∀ p ∈ parts, opv s2.fr p.2 = opv st.fr p.2) → (∀ p ∈ parts, RootIf st s2 (opv st.fr p.2)) → buildL pl s2 cs parts = some (s2, cs') ∧ parts.all (fun p => okOp s2 p.2) = true
  | [], cs, cs', st, st1, s2, _, h, _, _ => by cases h; simp [buildL]
  | (i, x) :: parts, cs, cs', st, st1, s2, hok, h, hv, hr => by
    simp only [List.all_cons, Bool.and_eq_true] at hok ⊢
    unfold buildL at h ⊢
    split at h
    · rename_i off size st2 v h0 h1
      have := take_ok hok.1 h1
      subst this
      obtain ⟨a1, a2⟩ := take_same hok.1 h1 (hv (i, x) (by simp)) (hr (i, x) (by simp))
      rw [h0, a1]
      simp only
      split at h
      · rename_i hc
        obtain ⟨b1, b2⟩ := buildL_same hok.2 h (fun y hy => hv y (by simp [hy])) (fun y hy => hr y (by simp [hy]))
        rw [if_pos hc]
        exact ⟨b1, a2, b2⟩
      · cases h
    · cases h

theorem opv_get {x : Operand} (h : ∀ t, x = .tmp t → get s2.fr t = get st.fr t) : opv s2.fr x = opv st.fr x := by
  cases x with
  | tmp t => simp only [opv]; rw [h t rfl]
  | _ => rfl
theorem refOf_const (u : Value) : refOf (ofConst u) = none := by
  unfold ofConst; split <;> rfl
theorem rootIf_get {x : Operand} (h : ∀ t, x = .tmp t → SameRoot st s2 (get st.fr t)) : RootIf st s2 (opv st.fr x) := by
  intro hp
  cases x with
  | tmp t =>
    simp only [opv] at hp ⊢
    split
    · rename_i cs hg
      split at hp
      · exact (hp _ _ _ rfl).elim
      · rename_i hne; exact (hne _ hg).elim
    · exact h t rfl
  | const u => intro r pre hr; simp only [opv, refOf_const] at hr; cases hr
  | global n => intro r pre hr; cases hr
  | func f => intro r pre hr; cases hr

theorem okArgs_same : ∀ {xs : List Operand} {vs : List PV} {st st1 s2 : St}, okArgs st xs = true → takeL st xs = some (st1, vs) → (∀ t, Operand.tmp t ∈ xs → get s2.fr t = get st.fr t) → (∀ t, Operand.tmp t ∈ xs → SameRoot st s2 (get st.fr t)) →
    st1.hp = st.hp ∧ (∃ s3, takeL s2 xs = some (s3, vs) ∧ s3.hp = s2.hp) ∧ okArgs s2 xs = true
  | [], vs, st, st1, s2, _, h, _, _ => by cases h; exact ⟨rfl, ⟨s2, rfl, rfl⟩, rfl⟩
  | x :: xs, vs, st, st1, s2, hok, h, hv, hr => by
    have hx : opv s2.fr x = opv st.fr x := opv_get fun t e => hv t (by rw [e]; simp)
    have hrx : RootIf st s2 (opv st.fr x) := rootIf_get fun t e => hr t (by rw [e]; simp)
    have general : okOp st x = true → okArgs st xs = true → (okOp s2 x = true → okArgs s2 xs = true → okArgs s2 (x :: xs) = true) → st1.hp = st.hp ∧ (∃ s3, takeL s2 (x :: xs) = some (s3, vs) ∧ s3.hp = s2.hp) ∧ okArgs s2 (x :: xs) = true := fun hok1 hok2 hb => by
      unfold takeL at h ⊢
      split at h
      · cases h
      · rename_i st2 v h1
        have := takeOut_ok hok1 h1
        subst this
        split at h
        · cases h
        · rename_i st3 vs' h2
          cases h
          obtain ⟨a1, a2⟩ := takeOut_same hok1 h1 hx hrx
          obtain ⟨b1, ⟨s3, b2, b3⟩, b4⟩ := okArgs_same hok2 h2 (fun t ht => hv t (by simp [ht])) (fun t ht => hr t (by simp [ht]))
          refine ⟨b1, ⟨s3, ?_, b3⟩, hb a2 b4⟩
          rw [a1]; simp only [b2]
    have dropped : ∀ (t : Nat) (tg : Tag) (n : Nat) (cs : List PV), x = .tmp t → opv st.fr x = .sl tg n cs → (∃ s, tg = .mu s ∨ tg = .ow s) → okArgs { st with fr := drop t st.fr } xs = true → (okArgs { s2 with fr := drop t s2.fr } xs = true → okArgs s2 (x :: xs) = true) →
        st1.hp = st.hp ∧ (∃ s3, takeL s2 (x :: xs) = some (s3, vs) ∧ s3.hp = s2.hp) ∧ okArgs s2 (x :: xs) = true := fun t tg n cs hxt ho htg hok2 hb => by
      subst hxt
      have hto : ∀ {s : St}, opv s.fr (.tmp t) = .sl tg n cs → takeOut s (.tmp t) = if (cellsOf (.sl tg n cs)).all storable = true then some ({ s with fr := drop t s.fr }, out (.sl tg n cs)) else none := fun {s} hs => by
        have ht : take s (.tmp t) = some ({ s with fr := drop t s.fr }, .sl tg n cs) := by
          obtain ⟨q, hq | hq⟩ := htg <;> subst hq <;> simp [take, hs]
        unfold takeOut
        rw [hs, ht]
      have hst : (cellsOf (.sl tg n cs)).all storable = true := rfl
      have hs2 : opv s2.fr (.tmp t) = .sl tg n cs := by rw [hx]; exact ho
      unfold takeL at h ⊢
      rw [hto ho] at h
      rw [hto hs2]
      simp only [hst, if_true] at h ⊢
      split at h
      · cases h
      · rename_i st3 vs' h2
        cases h
        obtain ⟨b1, ⟨s3, b2, b3⟩, b4⟩ := okArgs_same (s2 := { s2 with fr := drop t s2.fr }) hok2 h2 (fun u hu => by
            show get (drop t s2.fr) u = get (drop t st.fr) u
            rw [get_drop, get_drop, hv u (by simp [hu])]) (fun u hu r pre hrf => by
            have hrf : refOf (get (drop t st.fr) u) = some (r, pre) := hrf
            rw [get_drop] at hrf
            split at hrf
            · cases hrf
            · obtain ⟨h3, h4⟩ := on_refOf _ _ hrf
              have h5 := hr u (by simp [hu]) r pre h3
              cases r with
              | heap i => exact h5
              | slot q =>
                simp only [rootPV] at h5 ⊢
                show get (drop t s2.fr) q = get (drop t st.fr) q
                rw [get_drop, get_drop, h5])
        refine ⟨b1, ⟨s3, ?_, b3⟩, hb b4⟩
        simp only [b2]
    unfold okArgs at hok
    split at hok
    · rename_i t s n cs ho
      exact dropped t _ n cs rfl ho ⟨s, .inl rfl⟩ hok fun hb => by
        unfold okArgs
        rw [hx, ho]
        exact hb
    · rename_i t s n cs ho
      exact dropped t _ n cs rfl ho ⟨s, .inr rfl⟩ hok fun hb => by
        unfold okArgs
        rw [hx, ho]
        exact hb
    · rename_i h1 h2
      simp only [Bool.and_eq_true] at hok
      refine general hok.1 hok.2 fun a b => ?_
      unfold okArgs
      split
      · rename_i t s n cs ho
        rw [hx] at ho
        exact (h1 _ _ _ _ rfl ho).elim
      · rename_i t s n cs ho
        rw [hx] at ho
        exact (h2 _ _ _ _ rfl ho).elim
      · simp only [Bool.and_eq_true]; exact ⟨a, b⟩
end
end Go.PS
end

section
/-
  Regions that ask for their order: what an operation does, and what it hangs on.
-/
namespace Go.PS
section
variable {g g' g1 g2 : G} {w w' w1 w2 : World} {hn hn' : Nat} {tm : Array Value} {fr fr' : Fr} {hp hp' hp1 hp2 : Heap} {P : Program} {t : Nat} {st s2 st1 s' : St} {H : Hint} {own : FuncId → Option Nat} {callF : CallF} {ops : Array Oper} {o : Oper}

def Live (st : St) : Prop := ∀ t t' pre, refOf (get st.fr t) = some (.slot t', pre) → rootOk pre (get st.fr t') = true
def Near (L : List Nat) (st s2 : St) : Prop := ∀ t ∈ L, get s2.fr t = get st.fr t ∧ ∀ s pre, refOf (get st.fr t) = some (.slot s, pre) → get s2.fr s = get st.fr s
def NearH (L : List Nat) (st s2 : St) : Prop := ∀ t ∈ L, ∀ i pre, refOf (get st.fr t) = some (.heap i, pre) → s2.hp[i]? = st.hp[i]?

structure Ef where
  v : PV
  K : PV → PV
  W : Option (Nat × PV)
  H : Heap → Heap
  D : Bool → Bool

def Ef.at (e : Ef) (u : Nat) (old : PV) : PV := match e.W with | some (s, c) => if u = s then c else e.K old | none => e.K old
structure Eff (e : Ef) (dst : Option Nat) (st s' : St) : Prop where
  get : ∀ u, PS.get s'.fr u = if dst = some u then e.v else e.at u (PS.get st.fr u)
  hp : s'.hp = e.H st.hp
  base : s'.base = st.base
  dirty : s'.dirty = e.D st.dirty

def hits (k : Wk) (v : PV) : Bool := match k with | .none => false | .heap => viewH v | .slot s => (rootS v).contains s
def lvl : Cl → Nat
  | .pure n _ => n
  | .heavy _ => 2

def Facts (e : Ef) (c : Cl) (L : List Nat) (dst : Option Nat) (st : St) : Prop := match c with
  | .pure n F => e.W = none ∧ (∀ v, e.K v = v) ∧ (∀ h, e.H h = h) ∧ (∀ d, e.D d = d) ∧ (n = 0 → viewH e.v = false ∧ ∀ t ∈ L, viewH (get st.fr t) = false) ∧
      (∀ s, F.contains s = false → s ∉ L ∧ (∀ t ∈ L, (rootS (get st.fr t)).contains s = false) ∧ (rootS e.v).contains s = false ∧ dst ≠ some s)
  | .heavy k => (∀ v, e.K v = v ∨ (e.K v = .undef ∧ hits k v = true)) ∧ (match k with
      | .slot s => (∃ c, e.W = some (s, c)) ∧ (∀ h, e.H h = h) ∧ dst ≠ some s ∧ rooty (get st.fr s) = true
      | _ => e.W = none)

theorem noRef (hl : Live st) {d : Nat} (hd : rooty (get st.fr d) = false) (u : Nat) (pre : Option Nat) : refOf (get st.fr u) ≠ some (.slot d, pre) := fun h => by
  have := rooty_of_rootOk (hl u d pre h)
  rw [hd] at this; cases this
theorem on_noRef {d : Nat} {v : PV} (h : ∀ pre, refOf v ≠ some (.slot d, pre)) : (Kill.slot d).on v = v := by
  rcases on_cases (.slot d) v with h' | ⟨_, r, pre, h1, h2⟩
  · exact h'
  · simp [Kill.hits] at h2; subst h2; exact (h pre h1).elim

def kdst (dst : Option Nat) (v : PV) : PV := match dst with | some d => (Kill.slot d).on v | none => v
theorem get_setSlot (hl : Live st) (hi : idle st o = true) (v : PV) (u : Nat) : get (setSlot st o.dst v).fr u = if o.dst = some u then kdst o.dst v else get st.fr u := by
  unfold idle at hi
  cases hd : o.dst with
  | none => simp [setSlot]
  | some d =>
    rw [hd] at hi
    have hr : rooty (get st.fr d) = false := by simpa using hi
    simp only [setSlot, Option.some.injEq, kdst]
    by_cases h : d = u
    · subst h; rw [if_pos rfl, get_setFr_same]
    · rw [if_neg h, get_setFr _ _ _ _ h (fun pre h' => (noRef hl hr u pre h').elim)]
      exact on_noRef fun pre => noRef hl hr u pre
theorem viewH_kdst {dst : Option Nat} {v : PV} (h : viewH v = false) : viewH (kdst dst v) = false := by
  cases dst with
  | none => exact h
  | some d => rcases on_cases (.slot d) v with h' | ⟨h', _⟩
              · simp only [kdst]; rw [h']; exact h
              · simp only [kdst]; rw [h']; rfl
theorem rootS_kdst {dst : Option Nat} {v : PV} {s : Nat} (h : (rootS v).contains s = false) : (rootS (kdst dst v)).contains s = false := by
  cases dst with
  | none => exact h
  | some d => rcases on_cases (.slot d) v with h' | ⟨h', _⟩
              · simp only [kdst]; rw [h']; exact h
              · simp only [kdst]; rw [h']; rfl

theorem tmp_looks {t : Nat} (h : Operand.tmp t ∈ o.op.operands.toList) : t ∈ o.looksAt ops := by
  unfold Oper.looksAt
  exact List.mem_append_left _ (List.mem_filterMap.2 ⟨_, h, rfl⟩)

/-- The facts of a pure step. -/
theorem pureFacts {n : Nat} {v : PV} (hn : n = 0 → viewH v = false ∧ ∀ t ∈ o.looksAt ops, viewH (get st.fr t) = false) :
    Facts ⟨kdst o.dst v, fun v => v, none, fun h => h, fun d => d⟩ (.pure n (foot ops st o v)) (o.looksAt ops) o.dst st := by
  refine ⟨rfl, fun _ => rfl, fun _ => rfl, fun _ => rfl, fun h => ⟨viewH_kdst (hn h).1, (hn h).2⟩, fun s hs => ?_⟩
  have hs : s ∉ foot ops st o v := by simpa using hs
  unfold foot at hs
  simp only [List.mem_append, List.mem_flatMap, List.mem_cons, not_or, not_exists, not_and] at hs
  obtain ⟨⟨h1, h2⟩, h3⟩ := hs
  refine ⟨fun h => (h1 s h).1 rfl, fun t ht => by simpa using (h1 t ht).2, rootS_kdst (by simpa using h2), fun h => h3 (by simp [h])⟩

theorem depth_zero {v : PV} (h : depth ops st o v = 0) : viewH v = false ∧ (∀ t ∈ o.looksAt ops, viewH (get st.fr t) = false) ∧ (plainOp o.op = false → ∀ t ∈ o.looksAt ops, refH (get st.fr t) = false) := by
  unfold depth at h
  split at h
  · cases h
  · rename_i hn
    simp only [Bool.or_eq_true, not_or, Bool.not_eq_true, List.any_eq_false] at hn
    obtain ⟨h1, h2⟩ := hn
    refine ⟨h1, fun t ht => ?_, fun hp t ht => ?_⟩
    · have := h2 t ht
      unfold touch at this
      split at this
      · simpa using this
      · have h3 : refH (get st.fr t) = false := by simpa using this
        unfold refH at h3
        unfold viewH
        split at h3
        · cases h3
        · rename_i hne
          split
          · rename_i i q hq; exact (hne i _ hq).elim
          · rfl
    · have := h2 t ht
      unfold touch at this
      rw [hp] at this
      simpa using this
theorem depth_same {v : PV} (hn : Near (o.looksAt ops) st s2) : depth ops s2 o v = depth ops st o v := by
  unfold depth
  have : (o.looksAt ops).any (fun t => touch o.op (get s2.fr t)) = (o.looksAt ops).any (fun t => touch o.op (get st.fr t)) := by
    rw [Bool.eq_iff_iff]
    simp only [List.any_eq_true]
    constructor
    · rintro ⟨t, ht, h⟩; rw [(hn t ht).1] at h; exact ⟨t, ht, h⟩
    · rintro ⟨t, ht, h⟩; rw [← (hn t ht).1] at h; exact ⟨t, ht, h⟩
  rw [this]
theorem foot_same {v : PV} (hn : Near (o.looksAt ops) st s2) : foot ops s2 o v = foot ops st o v := by
  unfold foot
  have : (o.looksAt ops).flatMap (fun t => t :: rootS (get s2.fr t)) = (o.looksAt ops).flatMap (fun t => t :: rootS (get st.fr t)) := by
    rw [List.flatMap_def, List.flatMap_def]
    congr 1
    exact List.map_congr_left fun t ht => by rw [(hn t ht).1]
  rw [this]
theorem known_same (hn : Near (o.looksAt ops) st s2) : ((o.looksAt ops).all fun t => known (get s2.fr t)) = ((o.looksAt ops).all fun t => known (get st.fr t)) := by
  rw [Bool.eq_iff_iff]
  simp only [List.all_eq_true]
  constructor
  · intro h t ht; rw [← (hn t ht).1]; exact h t ht
  · intro h t ht; rw [(hn t ht).1]; exact h t ht

theorem refH_of {v : PV} {i : Nat} {pre : Option Nat} (h : refOf v = some (.heap i, pre)) : refH v = true := by unfold refH; rw [h]
theorem sameRoot_near (hn : Near (o.looksAt ops) st s2) {t : Nat} (ht : t ∈ o.looksAt ops) (hh : refH (get st.fr t) = true → NearH (o.looksAt ops) st s2) : SameRoot st s2 (get st.fr t) := by
  intro r pre hr
  cases r with
  | slot s => exact (hn t ht).2 s pre hr
  | heap i => simp only [rootPV]; rw [hh (refH_of hr) t ht i pre hr]
theorem opv_near (hn : Near (o.looksAt ops) st s2) {x : Operand} (hx : x ∈ o.op.operands.toList) : opv s2.fr x = opv st.fr x :=
  opv_get fun t e => (hn t (tmp_looks (by rw [← e]; exact hx))).1
theorem sameRoot_opv (hn : Near (o.looksAt ops) st s2) {x : Operand} (hx : x ∈ o.op.operands.toList) (hh : ∀ t, x = .tmp t → refH (get st.fr t) = true → NearH (o.looksAt ops) st s2) : SameRoot st s2 (opv st.fr x) := by
  cases x with
  | tmp t =>
    have ht : t ∈ o.looksAt ops := tmp_looks hx
    intro r pre hr
    simp only [opv] at hr
    split at hr
    · rename_i cs hg
      simp only [refOf, Option.some.injEq, Prod.mk.injEq] at hr
      obtain ⟨rfl, rfl⟩ := hr
      exact (hn t ht).1
    · exact sameRoot_near hn ht (hh t rfl) r pre hr
  | const u => intro r pre hr; simp only [opv, refOf_const] at hr; cases hr
  | global n => intro r pre hr; cases hr
  | func f => intro r pre hr; cases hr
/-- In a step of depth 0 that is not plain nothing leads to the heap. -/
theorem nearH_of {v : PV} (hp : plainOp o.op = false) (hh : 1 ≤ depth ops st o v → NearH (o.looksAt ops) st s2) {t : Nat} (ht : t ∈ o.looksAt ops) (h : refH (get st.fr t) = true) : NearH (o.looksAt ops) st s2 := by
  rcases Nat.eq_zero_or_pos (depth ops st o v) with h0 | h0
  · have := (depth_zero h0).2.2 hp t ht
    rw [h] at this; cases this
  · exact hh h0
theorem stepA_near {v : PV} (hn : Near (o.looksAt ops) st s2) (hh : 1 ≤ depth ops st o v → NearH (o.looksAt ops) st s2) : stepA P s2 o = stepA P st o := by
  refine stepA_same (fun x hx => opv_near hn hx) (fun t ht => (hn t (tmp_looks ht)).1) ?_
  cases hp : plainOp o.op with
  | true => exact .inl rfl
  | false => exact .inr fun x hx => sameRoot_opv hn hx fun t e h => nearH_of hp hh (tmp_looks (by rw [← e]; exact hx)) h

theorem get_dropSlot (hl : Live st) {d : Nat} (hd : rooty (get st.fr d) = false) (c : PV) (u : Nat) : get ((d, c) :: drop d st.fr) u = if some d = some u then c else get st.fr u := by
  rw [get_cons]
  by_cases h : d = u
  · subst h; simp
  · rw [if_neg h, if_neg (by simpa using h), get_drop, if_neg h]
    exact on_noRef fun pre => noRef hl hd u pre

end
end Go.PS
end

section
/-
  Regions that ask for their order: the operations, one by one.
-/
namespace Go.PS
section
variable {g g' g1 g2 : G} {w w' w1 w2 : World} {hn hn' : Nat} {tm : Array Value} {fr fr' : Fr} {hp hp' hp1 hp2 : Heap} {P : Program} {t : Nat} {st s2 st1 s' : St} {H : Hint} {own : FuncId → Option Nat} {callF : CallF} {ops : Array Oper} {o : Oper} {c : Cl}

/-- The same, of a part of the step. -/
def Shape1 (F : St → Option (St × Cl)) (ops : Array Oper) (st s' : St) (o : Oper) (c : Cl) : Prop :=
  ∃ e, Eff e o.dst st s' ∧ Facts e c (o.looksAt ops) o.dst st ∧
    ∀ s2, s2.base = st.base → Near (o.looksAt ops) st s2 → (1 ≤ lvl c → NearH (o.looksAt ops) st s2) → (2 ≤ lvl c → s2.hp = st.hp) → idle s2 o = true → Live s2 →
      ∃ s2', F s2 = some (s2', c) ∧ Eff e o.dst s2 s2'

def pureEf (dst : Option Nat) (v : PV) : Ef := ⟨kdst dst v, fun v => v, none, fun h => h, fun d => d⟩
theorem eff_pure (hl : Live st) (hi : idle st o = true) (v : PV) : Eff (pureEf o.dst v) o.dst st (setSlot st o.dst v) :=
  ⟨fun u => get_setSlot hl hi v u, (setSlot_rest _ _ _).1, (setSlot_rest _ _ _).2.1, (setSlot_rest _ _ _).2.2⟩
theorem facts_depth (v : PV) : Facts (pureEf o.dst v) (.pure (depth ops st o v) (foot ops st o v)) (o.looksAt ops) o.dst st :=
  pureFacts fun h => ⟨(depth_zero h).1, (depth_zero h).2.1⟩
theorem dPure_same {v : PV} (hn : Near (o.looksAt ops) st s2) : dPure ops s2 o v = (setSlot s2 o.dst v, .pure (depth ops st o v) (foot ops st o v)) := by
  unfold dPure; rw [depth_same hn, foot_same hn]

theorem dA_shape (hl : Live st) (hi : idle st o = true) (h : dA P ops st o = some (s', c)) : Shape1 (fun s => dA P ops s o) ops st s' o c := by
  unfold dA at h
  split at h
  · rename_i v hv
    cases h
    refine ⟨_, eff_pure hl hi v, facts_depth v, fun s2 hb hn hh _ hi2 hl2 => ⟨_, ?_, eff_pure hl2 hi2 v⟩⟩
    show dA P ops s2 o = _
    unfold dA
    rw [(stepA_near hn hh).trans hv]
    simp only [dPure_same hn]
  · cases h

theorem dAssign_shape (hl : Live st) (hi : idle st o = true) {x : Operand} (hx : x ∈ o.op.operands.toList) (hpl : plainOp o.op = true) (h : dAssign P ops st o x = some (s', c)) : Shape1 (fun s => dAssign P ops s o x) ops st s' o c := by
  unfold dAssign at h
  split at h
  · rename_i hc
    split at h
    · rename_i st1 v ht
      split at h
      · cases h
      · rename_i hv
        cases h
        refine ⟨_, eff_pure hl hi _, facts_depth _, fun s2 hb hn hh _ hi2 hl2 => ⟨_, ?_, eff_pure hl2 hi2 _⟩⟩
        have hroot : RootIf st s2 (opv st.fr x) := fun hnp r pre hr => by
          cases x with
          | tmp t =>
            have htl : t ∈ o.looksAt ops := tmp_looks hx
            simp only [opv] at hr hnp
            split at hr
            · rename_i hg
              split at hnp
              · exact (hnp _ _ _ rfl).elim
              · rename_i hne; exact (hne _ hg).elim
            · rename_i hnb
              have hnp : ∀ r pre off, get st.fr t ≠ .ptr r pre off := by
                split at hnp
                · rename_i hg; exact (hnb _ hg).elim
                · exact hnp
              cases r with
              | slot s => exact (hn t htl).2 s pre hr
              | heap i =>
                have hview : viewH (get st.fr t) = true := by
                  have hok := hc.1
                  have hok : okV st (get st.fr t) = true := by
                    simp only [okOp, opv] at hok
                    exact hok
                  have noNav : ∀ s n cs, navS st (.heap i) none ≠ some (.ow s, n, cs) := fun s n cs hnv => by
                    unfold navS nav at hnv
                    simp only [rootPV] at hnv
                    cases hh' : st.hp[i]? with
                    | none => simp only [hh'] at hnv; cases hnv
                    | some cs' => cases cs' <;> (simp only [hh'] at hnv; cases hnv)
                  cases hg : get st.fr t with
                  | ptr r' p' o' => exact (hnp _ _ _ hg).elim
                  | hd r' p' =>
                    rw [hg] at hr hok
                    simp only [refOf, Option.some.injEq, Prod.mk.injEq] at hr
                    obtain ⟨rfl, rfl⟩ := hr
                    obtain ⟨s, n, cs, hnv⟩ := navS_ow hok
                    cases p' with
                    | some q => rfl
                    | none => exact (noNav _ _ _ hnv).elim
                  | vw r' p' a b n' =>
                    rw [hg] at hr hok
                    simp only [refOf, Option.some.injEq, Prod.mk.injEq] at hr
                    obtain ⟨rfl, rfl⟩ := hr
                    obtain ⟨s, n, cs, hnv⟩ := navS_ow hok
                    cases p' with
                    | some q => rfl
                    | none => exact (noNav _ _ _ hnv).elim
                  | _ => rw [hg] at hr; cases hr
                have hd : 1 ≤ depth ops st o (retag P o.type v) := by
                  rcases Nat.eq_zero_or_pos (depth ops st o (retag P o.type v)) with h0 | h0
                  · have := (depth_zero h0).2.1 t htl
                    rw [hview] at this; cases this
                  · exact h0
                simp only [rootPV]
                rw [hh hd t htl i pre hr]
          | const u => simp only [opv, refOf_const] at hr; cases hr
          | global n => cases hr
          | func f => cases hr
        obtain ⟨a1, a2⟩ := take_same hc.1 ht (opv_near hn hx) hroot
        show dAssign P ops s2 o x = _
        unfold dAssign
        rw [if_pos ⟨a2, hc.2⟩, a1]
        simp only [hv, dPure_same hn]
        rfl
    · cases h
  · cases h

theorem dAlloc_shape (hl : Live st) (hi : idle st o = true) {T : TypeId} (h : dAlloc P H ops st o T = some (s', c)) (hlook : o.op = .alloc T) (hnv : ∀ t ∈ o.looksAt ops, viewH (get st.fr t) = false) : Shape1 (fun s => dAlloc P H ops s o T) ops st s' o c := by
  unfold dAlloc at h
  split at h
  · rename_i t z hd hz
    split at h
    · rename_i hbox
      cases h
      have hr : ∀ s : St, idle s o = true → rooty (get s.fr t) = false := fun s hs => by
        unfold idle at hs; rw [hd] at hs; simpa using hs
      have heff : ∀ s : St, Live s → idle s o = true → Eff (pureEf o.dst (.box z)) o.dst s { s with fr := (t, .box z) :: drop t s.fr } := fun s hl hi =>
        ⟨fun u => by
          show get ((t, .box z) :: drop t s.fr) u = _
          rw [get_dropSlot hl (hr s hi), hd]; rfl, rfl, rfl, rfl⟩
      refine ⟨_, heff st hl hi, pureFacts fun _ => ⟨rfl, hnv⟩, fun s2 hb hn hh _ hi2 hl2 => ⟨_, ?_, heff s2 hl2 hi2⟩⟩
      show dAlloc P H ops s2 o T = _
      unfold dAlloc
      rw [hd, hz]
      simp only [hbox, if_true, foot_same hn]
    · cases h
  · cases h
end
end Go.PS
end

section
/-
  Regions that ask for their order: the operations, one by one, part 2.
-/
namespace Go.PS
section
variable {g g' g1 g2 : G} {w w' w1 w2 : World} {hn hn' : Nat} {tm : Array Value} {fr fr' : Fr} {hp hp' hp1 hp2 : Heap} {P : Program} {t : Nat} {st s2 st1 s' : St} {H : Hint} {own : FuncId → Option Nat} {callF : CallF} {ops : Array Oper} {o : Oper} {c : Cl}

theorem okV_same {v : PV} (h : okV st v = true) (hr : RootIf st s2 v) : okV s2 v = true := by
  cases v with
  | hd r pre => simp only [okV] at h ⊢; rw [navS_same (hr (by simp) r pre rfl)]; exact h
  | vw r pre off sz n => simp only [okV] at h ⊢; rw [navS_same (hr (by simp) r pre rfl)]; exact h
  | sl g n cs => cases g <;> first | rfl | cases h
  | agg cs => exact h
  | box cs => cases h
  | undef => cases h
  | _ => rfl
theorem okOp_same {x : Operand} (h : okOp st x = true) (hv : opv s2.fr x = opv st.fr x) (hr : RootIf st s2 (opv st.fr x)) : okOp s2 x = true := by
  cases x with
  | tmp t => simp only [okOp] at h ⊢; rw [hv]; exact okV_same h hr
  | const u => rfl
  | global n => cases h
  | func f => rfl

theorem near_drop {L : List Nat} (hn : Near L st s2) (d t : Nat) (ht : t ∈ L) : get (drop d s2.fr) t = get (drop d st.fr) t := by
  rw [get_drop, get_drop, (hn t ht).1]
theorem root_drop {t d : Nat} (hs : SameRoot st s2 (get st.fr t)) : SameRoot { st with fr := drop d st.fr } { s2 with fr := drop d s2.fr } (get (drop d st.fr) t) := by
  intro r pre hr
  rw [get_drop] at hr
  split at hr
  · cases hr
  · have h1 := hs r pre (on_refOf _ _ hr).1
    cases r with
    | heap i => exact h1
    | slot q =>
      simp only [rootPV] at h1 ⊢
      rw [get_drop, get_drop, h1]

theorem dBuild_shape (hl : Live st) (hi : idle st o = true) {T : TypeId} {parts : Array (Nat × Operand)} (ho : o.op = .build T parts) (h : dBuild P ops st o T parts = some (s', c)) : Shape1 (fun s => dBuild P ops s o T parts) ops st s' o c := by
  have hmem : ∀ p ∈ parts.toList, p.2 ∈ o.op.operands.toList := fun p hp => by rw [ho]; simp only [Op.operands, List.mem_map]; exact ⟨p, hp, rfl⟩
  have hpl : plainOp o.op = false := by rw [ho]; rfl
  unfold dBuild at h
  split at h
  · rename_i z pl d hz hp hd
    split at h
    · rename_i hok
      split at h
      · rename_i st1 cs hb
        cases h
        have hr : ∀ s : St, idle s o = true → rooty (get s.fr d) = false := fun s hs => by
          unfold idle at hs; rw [hd] at hs; simpa using hs
        have heff : ∀ s : St, Live s → idle s o = true → Eff (pureEf o.dst (.agg cs)) o.dst s { s with fr := (d, .agg cs) :: drop d s.fr } := fun s hl hi =>
          ⟨fun u => by
            show get ((d, .agg cs) :: drop d s.fr) u = _
            rw [get_dropSlot hl (hr s hi), hd]; rfl, rfl, rfl, rfl⟩
        refine ⟨_, heff st hl hi, facts_depth _, fun s2 hbase hn hh _ hi2 hl2 => ⟨_, ?_, heff s2 hl2 hi2⟩⟩
        have hsr : ∀ p ∈ parts.toList, ∀ t, p.2 = .tmp t → SameRoot st s2 (get st.fr t) := fun p hp t e => by
          have htl : t ∈ o.looksAt ops := tmp_looks (by rw [← e]; exact hmem p hp)
          exact sameRoot_near hn htl fun h => nearH_of hpl hh htl h
        have hv : ∀ p ∈ parts.toList, opv s2.fr p.2 = opv st.fr p.2 := fun p hp => opv_near hn (hmem p hp)
        have hr2 : ∀ p ∈ parts.toList, RootIf st s2 (opv st.fr p.2) := fun p hp => rootIf_get (hsr p hp)
        have hv0 : ∀ p ∈ parts.toList, opv ({ s2 with fr := drop d s2.fr } : St).fr p.2 = opv ({ st with fr := drop d st.fr } : St).fr p.2 := fun p hp =>
          opv_get (st := { st with fr := drop d st.fr }) (s2 := { s2 with fr := drop d s2.fr }) fun t e => near_drop hn d t (tmp_looks (by rw [← e]; exact hmem p hp))
        have hr0 : ∀ p ∈ parts.toList, RootIf { st with fr := drop d st.fr } { s2 with fr := drop d s2.fr } (opv ({ st with fr := drop d st.fr } : St).fr p.2) := fun p hp =>
          rootIf_get (st := { st with fr := drop d st.fr }) (s2 := { s2 with fr := drop d s2.fr }) fun t e => root_drop (hsr p hp t e)
        have b0 := buildL_same hok.2 hb hv0 hr0
        have hok2 : parts.toList.all (fun p => okOp s2 p.2) = true := List.all_eq_true.2 fun p hp => okOp_same (List.all_eq_true.1 hok.1 p hp) (hv p hp) (hr2 p hp)
        show dBuild P ops s2 o T parts = _
        unfold dBuild
        rw [hz, hp, hd]
        simp only
        rw [if_pos ⟨hok2, b0.2⟩, b0.1]
        simp only [depth_same hn, foot_same hn]
      · cases h
    · cases h
  · cases h

theorem dSlice_shape (hl : Live st) (hi : idle st o = true) {T : TypeId} {n : Nat} {parts : Array (Nat × Operand)} (ho : o.op = .buildSlice T n parts) (h : dSlice P ops st o T n parts = some (s', c)) : Shape1 (fun s => dSlice P ops s o T n parts) ops st s' o c := by
  have hmem : ∀ x ∈ parts.toList.map (·.2), x ∈ o.op.operands.toList := fun x hx => by rw [ho]; simpa only [Op.operands] using hx
  have hpl : plainOp o.op = false := by rw [ho]; rfl
  unfold dSlice at h
  split at h
  · rename_i hok
    split at h
    · rename_i st1 vs e ht he
      split at h
      · rename_i z hz
        split at h
        · rename_i hc
          split at h
          · rename_i cs hf
            cases h
            refine ⟨_, eff_pure hl hi _, facts_depth _, fun s2 hbase hn hh _ hi2 hl2 => ⟨_, ?_, eff_pure hl2 hi2 _⟩⟩
            have hsr : ∀ x ∈ parts.toList.map (·.2), ∀ t, x = .tmp t → SameRoot st s2 (get st.fr t) := fun x hx t e => by
              have htl : t ∈ o.looksAt ops := tmp_looks (by rw [← e]; exact hmem x hx)
              exact sameRoot_near hn htl fun h => nearH_of hpl hh htl h
            obtain ⟨a1, a2⟩ := takeL_same hok ht (fun x hx => opv_near hn (hmem x hx)) (fun x hx => rootIf_get (hsr x hx))
            show dSlice P ops s2 o T n parts = _
            unfold dSlice
            rw [if_pos a2, a1, he]
            simp only [hz, hc, hf, dPure_same hn, and_self, if_true]
          · cases h
        · cases h
      · cases h
    · cases h
  · cases h

theorem dLoad_shape (hl : Live st) (hi : idle st o = true) {T : TypeId} {a : Operand} (ho : o.op = .load T a) (h : dLoad P ops st o T a = some (s', c)) : Shape1 (fun s => dLoad P ops s o T a) ops st s' o c := by
  have hmem : a ∈ o.op.operands.toList := by rw [ho]; simp [Op.operands]
  unfold dLoad at h
  split at h
  · cases h
  · rename_i hs
    obtain ⟨e, h1, h2, h3⟩ := dA_shape hl hi h
    refine ⟨e, h1, h2, fun s2 hb hn hh hhp hi2 hl2 => ?_⟩
    obtain ⟨s2', h4, h5⟩ := h3 s2 hb hn hh hhp hi2 hl2
    refine ⟨s2', ?_, h5⟩
    have hsh : shares P s2 T a = shares P st T a := by
      unfold shares
      rw [opv_near hn hmem]
      split
      · rename_i r off hop
        have hA := h
        unfold dA at hA
        split at hA
        · rename_i v hv
          cases hA
          have hpl : plainOp o.op = false := by rw [ho]; rfl
          have sr := sameRoot_opv hn hmem (fun t _ hr => by
            subst_vars
            exact nearH_of (v := v) hpl hh (tmp_looks hmem) hr)
          rw [hop] at sr
          rw [sr r none rfl]
        · cases hA
      · rfl
    show dLoad P ops s2 o T a = _
    unfold dLoad
    rw [hsh, if_neg hs]
    exact h4

theorem live_kill (hl : Live st) (k : Kill) : Live { st with fr := killFr k st.fr } := fun t t' pre h => by
  have h : refOf (get (killFr k st.fr) t) = some (.slot t', pre) := h
  show rootOk pre (get (killFr k st.fr) t') = true
  rw [get_kill] at h ⊢
  rw [rootOk_on]
  exact hl t t' pre (on_refOf _ _ h).1
theorem idle_kill (hi : idle st o = true) (k : Kill) : idle { st with fr := killFr k st.fr } o = true := by
  unfold idle at hi ⊢
  split
  · rename_i d hd
    rw [hd] at hi
    simpa [get_kill, rooty_on] using hi
  · rfl

theorem dLookup_shape (hl : Live st) (hi : idle st o = true) {T : TypeId} {x ix : Operand} {ok : Bool} (ho : o.op = .lookup T x ix ok) (h : dLookup P ops st o T x ix ok = some (s', c)) :
    Shape1 (fun s => dLookup P ops s o T x ix ok) ops st s' o c := by
  unfold dLookup at h
  split at h
  · rename_i v hv
    cases h
    refine ⟨_, eff_pure hl hi v, pureFacts (fun h => by cases h), fun s2 hb hn hh hhp hi2 hl2 => ⟨_, ?_, eff_pure hl2 hi2 v⟩⟩
    have hhp := hhp (Nat.le_refl _)
    have e1 : opv s2.fr x = opv st.fr x := opv_near hn (by rw [ho]; simp [Op.operands])
    have e2 : opv s2.fr ix = opv st.fr ix := opv_near hn (by rw [ho]; simp [Op.operands])
    have e3 : ∀ y, mapAt s2 y = mapAt st y := fun y => by unfold mapAt; rw [hhp]
    have e4 : lookupOp P s2 T (opv s2.fr x) (opv s2.fr ix) ok = some v := by
      rw [e1, e2, ← hv]; unfold lookupOp; rw [e3]
    show dLookup P ops s2 o T x ix ok = _
    unfold dLookup
    rw [e4]
    simp only [foot_same hn]
  · cases h

theorem dCall_shape (hl : Live st) (hi : idle st o = true) {cl : Call} {fo : Operand} (ho : o.op = .call cl) (hcal : cl.callee = .value fo) {f : FuncId} {cap : List PV} (h : dCall own callF ops st o f cap cl.args.toList = some (s', c)) :
    Shape1 (fun s => dCall own callF ops s o f cap cl.args.toList) ops st s' o c := by
  have hmem : ∀ x ∈ cl.args.toList, x ∈ o.op.operands.toList := fun x hx => by
    rw [ho]; simp only [Op.operands, Call.operands, hcal]; simp at hx ⊢; exact .inr hx
  unfold dCall at h
  split at h
  · rename_i hc
    split at h
    · cases h
    · rename_i st1 vs ht
      split at h
      · cases h
      · rename_i r hp' d hcf
        have same : ∀ s2 : St, Near (o.looksAt ops) st s2 → s2.hp = st.hp → okArgs s2 cl.args.toList = true ∧ ∃ s3, takeL s2 cl.args.toList = some (s3, vs) := fun s2 hn hhp => by
          obtain ⟨_, ⟨s3, h1, _⟩, h2⟩ := okArgs_same hc.2 ht (fun t hx => (hn t (tmp_looks (hmem _ hx))).1) (fun t hx => sameRoot_near hn (tmp_looks (hmem _ hx)) fun _ t' _ i pre _ => by rw [hhp])
          exact ⟨h2, s3, h1⟩
        split at h
        · rename_i hp
          cases h
          refine ⟨_, eff_pure hl hi r, pureFacts (fun h => by cases h), fun s2 hb hn hh hhp hi2 hl2 => ⟨_, ?_, eff_pure hl2 hi2 r⟩⟩
          have hhp := hhp (Nat.le_refl _)
          obtain ⟨h1, s3, h2⟩ := same s2 hn hhp
          show dCall own callF ops s2 o f cap cl.args.toList = _
          unfold dCall
          rw [if_pos ⟨hc.1, h1⟩, h2]
          simp only [hhp, hcf]
          rw [if_pos hp, foot_same hn]
        · rename_i hp
          split at h
          · rename_i hall
            cases h
            let e : Ef := ⟨kdst o.dst r, fun v => if d then Kill.heaps.on v else v, none, fun _ => hp', fun b => b || d⟩
            have heff : ∀ s : St, Live s → idle s o = true → Eff e o.dst s (setSlot { s with hp := hp', dirty := s.dirty || d, fr := if d then killFr .heaps s.fr else s.fr } o.dst r) := fun s hl hi => by
              cases d with
              | false =>
                refine ⟨fun u => ?_, (setSlot_rest _ _ _).1, (setSlot_rest _ _ _).2.1, (setSlot_rest _ _ _).2.2⟩
                exact get_setSlot (st := { s with hp := hp', dirty := s.dirty || false, fr := s.fr }) hl hi r u
              | true =>
                refine ⟨fun u => ?_, (setSlot_rest _ _ _).1, (setSlot_rest _ _ _).2.1, (setSlot_rest _ _ _).2.2⟩
                have hl' : Live ({ s with hp := hp', dirty := s.dirty || true, fr := killFr .heaps s.fr } : St) := live_kill hl .heaps
                have hi' : idle ({ s with hp := hp', dirty := s.dirty || true, fr := killFr .heaps s.fr } : St) o = true := idle_kill hi .heaps
                have := get_setSlot hl' hi' r u
                simp only [if_true]
                rw [this]
                split
                · rfl
                · show get (killFr .heaps s.fr) u = _
                  rw [get_kill]; rfl
            refine ⟨e, heff st hl hi, ⟨fun v => ?_, ?_⟩, fun s2 hb hn hh hhp hi2 hl2 => ⟨_, ?_, heff s2 hl2 hi2⟩⟩
            · cases d with
              | false => exact .inl rfl
              | true =>
                rcases on_cases .heaps v with h1 | ⟨h1, r', pre, h2, h3⟩
                · exact .inl h1
                · refine .inr ⟨h1, ?_⟩
                  simp only [hits, if_true]
                  cases r' with
                  | slot q => simp [Kill.hits] at h3
                  | heap i => cases pre with
                    | none => simp [Kill.hits] at h3
                    | some q => unfold viewH; rw [h2]
            · cases d <;> rfl
            · have hhp := hhp (Nat.le_refl _)
              obtain ⟨h1, s3, h2⟩ := same s2 hn hhp
              have hall2 : cl.args.toList.all (okOp s2) = true := List.all_eq_true.2 fun x hx => okOp_same (List.all_eq_true.1 hall x hx) (opv_near hn (hmem x hx)) (rootIf_get fun t e => sameRoot_near hn (tmp_looks (by rw [← e]; exact hmem x hx)) fun _ t' _ i pre _ => by rw [hhp])
              show dCall own callF ops s2 o f cap cl.args.toList = _
              unfold dCall
              rw [if_pos ⟨hc.1, h1⟩, h2]
              simp only [hhp, hcf]
              rw [if_neg hp, if_pos hall2]
          · cases h
  · cases h
end
end Go.PS
end

section
/-
  Regions that ask for their order: stores and appends.
-/
namespace Go.PS
section
variable {g g' g1 g2 : G} {w w' w1 w2 : World} {hn hn' : Nat} {tm : Array Value} {fr fr' : Fr} {hp hp' hp1 hp2 : Heap} {P : Program} {t : Nat} {st s2 st1 s' : St} {H : Hint} {own : FuncId → Option Nat} {callF : CallF} {ops : Array Oper} {o : Oper} {c : Cl}

def wkOf : Root → Wk
  | .slot s => .slot s
  | .heap _ => .heap
/-- A root is put anew. -/
def putEf (r : Root) (K : PV → PV) (x : PV) (base : Nat) : Ef := match r with
  | .slot s => ⟨.undef, K, some (s, x), fun h => h, fun b => b⟩
  | .heap i => ⟨.undef, K, none, fun h => h.set i (.cells x.kids), fun b => b || decide (i < base)⟩

theorem putEf_mid {fr' : Fr} {K : PV → PV} (hK : ∀ u, get fr' u = K (get st.fr u)) (r : Root) (x : PV) :
    (∀ u, get (putRoot { st with fr := fr' } r x).fr u = (putEf r K x st.base).at u (get st.fr u)) ∧ (putRoot { st with fr := fr' } r x).hp = (putEf r K x st.base).H st.hp ∧ (putRoot { st with fr := fr' } r x).base = st.base ∧
      (putRoot { st with fr := fr' } r x).dirty = (putEf r K x st.base).D st.dirty := by
  cases r with
  | slot s =>
    refine ⟨fun u => ?_, rfl, rfl, rfl⟩
    show get ((s, x) :: fr') u = if u = s then x else K (get st.fr u)
    rw [get_cons, hK]
    by_cases h : s = u
    · subst h; simp
    · rw [if_neg h, if_neg (Ne.symm h)]
  | heap i => exact ⟨fun u => hK u, rfl, rfl, rfl⟩

theorem killHits {k : Kill} {r : Root} (hk : ∀ r' pre, k.hits r' pre = true → r' = r ∧ (∀ i, r = .heap i → pre.isSome = true)) (v : PV) : k.on v = v ∨ (k.on v = .undef ∧ hits (wkOf r) v = true) := by
  rcases on_cases k v with h | ⟨h, r', pre, h1, h2⟩
  · exact .inl h
  · refine .inr ⟨h, ?_⟩
    obtain ⟨rfl, h3⟩ := hk r' pre h2
    cases r' with
    | slot s => simp [wkOf, hits, rootS, h1]
    | heap i =>
      have := h3 i rfl
      cases pre with
      | none => cases this
      | some q => simp [wkOf, hits, viewH, h1]

theorem rooty_root {r : Root} {pre : Option Nat} {nd : PV} (h : nav st r pre = some nd) : rooty (rootPV st r) = true := by
  unfold nav at h
  split at h
  · rename_i e; rw [e]; rfl
  · rename_i e; rw [e]; rfl
  · rename_i e; rw [e]; rfl
  · rename_i e; rw [e]; rfl
  · cases h

theorem putFacts {r : Root} {K : PV → PV} {x : PV} {base : Nat} {L : List Nat} {dst : Option Nat} {v : PV} (hK : ∀ v, K v = v ∨ (K v = .undef ∧ hits (wkOf r) v = true)) (hr : rooty (rootPV st r) = true) (hd : ∀ s, r = .slot s → dst ≠ some s) :
    Facts { putEf r K x base with v := v } (.heavy (wkOf r)) L dst st := by
  cases r with
  | slot s => exact ⟨hK, ⟨_, rfl⟩, fun _ => rfl, hd s rfl, hr⟩
  | heap i => exact ⟨hK, rfl⟩

theorem wk_ptr {r : Root} {pre : Option Nat} {off : Nat} {v : PV} (h : v = .ptr r pre off) (st' : St) : (match v with
      | .ptr (.slot s) _ _ => some (st', Cl.heavy (.slot s))
      | _ => some (st', Cl.heavy .heap)) = some (st', .heavy (wkOf r)) := by
  subst h; cases r <;> rfl

theorem dStore_shape (hl : Live st) (hi : idle st o = true) {T : TypeId} {a x : Operand} (ho : o.op = .store T a x) (h : dStore P st o T a x = some (s', c)) : Shape1 (fun s => dStore P s o T a x) ops st s' o c := by
  have hma : a ∈ o.op.operands.toList := by rw [ho]; simp [Op.operands]
  have hmx : x ∈ o.op.operands.toList := by rw [ho]; simp [Op.operands]
  unfold dStore at h
  split at h
  · rename_i hc
    split at h
    · rename_i st' hst
      unfold store at hst
      split at hst
      · cases hst
      · rename_i st1 v ht
        have := take_ok hc.1 ht
        subst this
        split at hst
        · rename_i r pre off hop
          have h := (wk_ptr hop st').symm.trans h
          split at hst
          · rename_i nd hnav
            split at hst
            · rename_i hcond
              have sames : ∀ s2 : St, Near (o.looksAt ops) st1 s2 → s2.hp = st1.hp → okOp s2 x = true ∧ take s2 x = some (s2, v) ∧ opv s2.fr a = .ptr r pre off ∧ rootPV s2 r = rootPV st1 r := fun s2 hn hhp => by
                have hH : NearH (o.looksAt ops) st1 s2 := fun _ _ i _ _ => by rw [hhp]
                obtain ⟨h1, h2⟩ := take_same hc.1 ht (opv_near hn hmx) (rootIf_get fun t e => sameRoot_near hn (tmp_looks (by rw [← e]; exact hmx)) fun _ => hH)
                have h3 : opv s2.fr a = .ptr r pre off := (opv_near hn hma).trans hop
                have h4 := sameRoot_opv hn hma (fun _ _ _ => hH)
                rw [hop] at h4
                exact ⟨h2, h1, h3, h4 r pre rfl⟩
              have hdst : ∀ s, r = .slot s → o.dst ≠ some s := fun s _ => by rw [hc.2]; simp
              have fin : ∀ {K : PV → PV} {y : PV} {fr' : St → Fr}, (∀ s : St, ∀ u, get (fr' s) u = K (get s.fr u)) → (∀ v, K v = v ∨ (K v = .undef ∧ hits (wkOf r) v = true)) → s' = putRoot { st1 with fr := fr' st1 } r y → c = .heavy (wkOf r) →
                  (∀ s2 : St, Near (o.looksAt ops) st1 s2 → s2.hp = st1.hp → store P s2 T a x = some (putRoot { s2 with fr := fr' s2 } r y)) → Shape1 (fun s => dStore P s o T a x) ops st1 s' o c := by
                intro K y fr' hK hKh hs' hc' hst2
                subst hs' hc'
                have heff : ∀ s : St, Eff (putEf r K y s.base) o.dst s (putRoot { s with fr := fr' s } r y) := fun s => by
                  obtain ⟨h1, h2, h3, h4⟩ := putEf_mid (hK s) r y
                  refine ⟨fun u => ?_, h2, h3, h4⟩
                  rw [hc.2, if_neg (by simp)]; exact h1 u
                refine ⟨_, heff st1, putFacts (v := (putEf r K y st1.base).v) hKh (rooty_root hnav) hdst, fun s2 hb hn _ hhp hi2 hl2 => ⟨_, ?_, by rw [← hb]; exact heff s2⟩⟩
                have hhp := hhp (Nat.le_refl _)
                obtain ⟨h1, h2, h3, h4⟩ := sames s2 hn hhp
                show dStore P s2 o T a x = _
                unfold dStore
                rw [if_pos ⟨h1, hc.2⟩, hst2 s2 hn hhp]
                exact wk_ptr h3 _
              split at hst
              · rename_i cs
                cases hst
                cases h
                obtain ⟨hpre, hroot⟩ := nav_box hnav
                have hk : ∀ r' pre', (killOf r off v).hits r' pre' = true → r' = r ∧ (∀ i, r = .heap i → pre'.isSome = true) := fun r' pre' hk => by
                  unfold killOf at hk
                  split at hk
                  · simp [Kill.hits] at hk; exact ⟨hk.1, fun _ _ => hk.2⟩
                  · simp [Kill.hits] at hk; exact ⟨hk.1, fun _ _ => by rw [hk.2]; rfl⟩
                refine fin (K := (killOf r off v).on) (y := .box (splice cs off (cellsOf (retag P T v)))) (fr' := fun s => killFr (killOf r off v) s.fr) (fun s u => get_kill _ _ _) (killHits hk) rfl rfl fun s2 hn hhp => ?_
                obtain ⟨h1, h2, h3, h4⟩ := sames s2 hn hhp
                unfold store
                rw [h2]
                simp only [h3]
                rw [nav_same h4, hnav]
                simp only
                rw [if_pos hcond]
              · rename_i s n cs
                cases hst
                cases h
                let y : PV := match pre with
                  | none => .sl (.mu s) n (splice cs off ((cellsOf v).map outCell))
                  | some q => (rootPV st1 r).withKids ((rootPV st1 r).kids.set q (.sl (.mu s) n (splice cs off ((cellsOf v).map outCell))))
                have hput : ∀ s2 : St, rootPV s2 r = rootPV st1 r → put s2 r pre (.sl (.mu s) n (splice cs off ((cellsOf v).map outCell))) = putRoot { s2 with fr := s2.fr } r y := fun s2 h4 => by
                  cases pre with
                  | none => rfl
                  | some q => simp only [put, h4, y]
                refine fin (K := fun v => v) (y := y) (fr' := fun s => s.fr) (fun s u => rfl) (fun v => .inl rfl) (hput st1 rfl) rfl fun s2 hn hhp => ?_
                obtain ⟨h1, h2, h3, h4⟩ := sames s2 hn hhp
                unfold store
                rw [h2]
                simp only [h3]
                rw [nav_same h4, hnav]
                simp only
                rw [if_pos hcond, hput s2 h4]
              · cases hst
            · cases hst
          · cases hst
        · cases hst
    · cases h
  · cases h

theorem eff_mid (hl : Live st) (hi : idle st o = true) {e : Ef} {st' : St} (hmid : ∀ u, get st'.fr u = e.at u (get st.fr u)) (hhp : st'.hp = e.H st.hp) (hb : st'.base = st.base) (hdy : st'.dirty = e.D st.dirty)
    (hK : ∀ v, e.K v = v ∨ e.K v = .undef) (hW : ∀ s c, e.W = some (s, c) → refOf c = none ∧ o.dst ≠ some s) (v : PV) : Eff { e with v := kdst o.dst v } o.dst st (setSlot st' o.dst v) := by
  obtain ⟨r1, r2, r3⟩ := setSlot_rest st' o.dst v
  refine ⟨fun u => ?_, r1.trans hhp, r2.trans hb, r3.trans hdy⟩
  cases hd : o.dst with
  | none => simp only [setSlot]; rw [if_neg (by simp)]; exact hmid u
  | some d =>
    have hr : rooty (get st.fr d) = false := by unfold idle at hi; rw [hd] at hi; simpa using hi
    have at_cases : ∀ u old, (∃ s c, e.W = some (s, c) ∧ u = s ∧ e.at u old = c) ∨ e.at u old = e.K old := fun u old => by
      unfold Ef.at
      cases hw : e.W with
      | none => exact .inr rfl
      | some p =>
        obtain ⟨s, c⟩ := p
        by_cases h : u = s
        · exact .inl ⟨s, c, rfl, h, by simp [h]⟩
        · exact .inr (by simp [h])
    have hrd : rooty (get st'.fr d) = false := by
      rw [hmid]
      rcases at_cases d (get st.fr d) with ⟨s, c, hw, hs, _⟩ | h
      · exact ((hW s c hw).2 (by rw [hd, hs])).elim
      · rw [h]
        rcases hK (get st.fr d) with h1 | h1
        · rw [h1]; exact hr
        · rw [h1]; rfl
    have hno : ∀ u pre, refOf (get st'.fr u) ≠ some (.slot d, pre) := fun u pre hrf => by
      rw [hmid] at hrf
      rcases at_cases u (get st.fr u) with ⟨s, c, hw, hs, hat⟩ | h
      · rw [hat, (hW s c hw).1] at hrf; cases hrf
      · rw [h] at hrf
        rcases hK (get st.fr u) with h1 | h1
        · rw [h1] at hrf; exact noRef hl hr u pre hrf
        · rw [h1] at hrf; cases hrf
    simp only [setSlot, Option.some.injEq, kdst]
    by_cases h : d = u
    · subst h; rw [if_pos rfl, get_setFr_same]
    · rw [if_neg h, get_setFr _ _ _ _ h (fun pre h' => (hno u pre h').elim)]
      have : (Kill.slot d).on (get st'.fr u) = get st'.fr u := on_noRef fun pre => hno u pre
      rw [this]; exact hmid u

theorem wk_at {r : Root} {pre : Option Nat} {v : Option (Root × Option Nat)} (h : v = some (r, pre)) (st' : St) : (match v with
      | some (.slot s, _) => some (st', Cl.heavy (.slot s))
      | some (.heap _, _) => some (st', Cl.heavy .heap)
      | none => none) = some (st', .heavy (wkOf r)) := by
  subst h; cases r <;> rfl
theorem appAt_cases {st : St} {x : Operand} {r : Root} {pre : Option Nat} (h : appAt st x = some (r, pre)) : opv st.fr x = .hd r pre ∨ ∃ t g n cs, x = .tmp t ∧ r = .slot t ∧ pre = none ∧ opv st.fr x = .sl g n cs ∧ ((∃ s, g = .mu s) ∨ ∃ s, g = .ow s) := by
  unfold appAt at h
  split at h
  · rename_i e; cases h; exact .inl e
  · rename_i s n cs e
    split at h
    · rename_i t; cases h; exact .inr ⟨t, _, _, _, rfl, rfl, rfl, e, .inl ⟨_, rfl⟩⟩
    · cases h
  · rename_i s n cs e
    split at h
    · rename_i t; cases h; exact .inr ⟨t, _, _, _, rfl, rfl, rfl, e, .inr ⟨_, rfl⟩⟩
    · cases h
  · cases h
theorem appendOp_at {P : Program} {st : St} {T : TypeId} {x : Operand} {y : PV} {e : TypeId} {k : Nat} {ys : List PV} {r : Root} {pre : Option Nat} (he : elemT P T = some e) (hy : content st y = some (k, ys)) (hc : ys.length = k * sizeT P e ∧ ys.all storable = true) (ha : appAt st x = some (r, pre)) : appendOp P st T x y = appendGo P st e k ys r pre := by
  unfold appendOp
  rw [he, hy]
  simp only
  rw [if_pos hc]
  rcases appAt_cases ha with h | ⟨t, g, n, cs, rfl, rfl, rfl, h, ⟨s, rfl⟩ | ⟨s, rfl⟩⟩
  · rw [h]
  · rw [h]
  · rw [h]

/-- What stands where a row has been moved away. -/
def outEf (st : St) (r : Root) (pre : Option Nat) : Ef := match r, pre with
  | .slot t, none => ⟨.undef, (Kill.slot t).on, some (t, .undef), fun h => h, fun b => b⟩
  | r, some q => putEf r (Kill.at r q).on ((rootPV st r).withKids ((rootPV st r).kids.set q .undef)) st.base
  | _, none => ⟨.undef, fun v => v, none, fun h => h, fun b => b⟩

theorem kids_on {k : Kill} {v : PV} (h : rooty v = true) : k.on v = v := by cases v <;> first | rfl | cases h

theorem out_mid {r : Root} {pre : Option Nat} {x : Tag × Nat × List PV} (h : navS st r pre = some x) :
    (∀ u, get (moveOut st r pre).fr u = (outEf st r pre).at u (get st.fr u)) ∧ (moveOut st r pre).hp = (outEf st r pre).H st.hp ∧ (moveOut st r pre).base = st.base ∧ (moveOut st r pre).dirty = (outEf st r pre).D st.dirty := by
  have hroot : rooty (rootPV st r) = true := by
    unfold navS at h
    split at h
    · exact rooty_root (by assumption)
    · cases h
  cases pre with
  | none =>
    cases r with
    | slot t =>
      refine ⟨fun u => ?_, rfl, rfl, rfl⟩
      show get (drop t st.fr) u = if u = t then .undef else (Kill.slot t).on (get st.fr u)
      rw [get_drop]
      by_cases h : t = u
      · subst h; simp
      · rw [if_neg h, if_neg (Ne.symm h)]
    | heap i => exact ⟨fun u => rfl, rfl, rfl, rfl⟩
  | some q =>
    have hr' : rootPV { st with fr := killFr (.at r q) st.fr } r = rootPV st r := by
      cases r with
      | slot t => simp only [rootPV] at hroot ⊢; rw [get_kill, kids_on hroot]
      | heap i => rfl
    have e : moveOut st r (some q) = putRoot { st with fr := killFr (.at r q) st.fr } r ((rootPV st r).withKids ((rootPV st r).kids.set q .undef)) := by
      unfold moveOut
      simp only [put, hr']
    rw [e]
    have e2 : outEf st r (some q) = putEf r (Kill.at r q).on ((rootPV st r).withKids ((rootPV st r).kids.set q .undef)) st.base := by cases r <;> rfl
    rw [e2]
    exact putEf_mid (fun u => get_kill _ _ _) r _

theorem dAppend_shape (hl : Live st) (hi : idle st o = true) {cl : Call} (ho : o.op = .call cl) (hcal : cl.callee = .builtin .append) {T U : TypeId} {x y : Operand} (hargs : cl.args.toList = [x, y]) (h : dAppend P st o T U x y = some (s', c)) :
    Shape1 (fun s => dAppend P s o T U x y) ops st s' o c := by
  have hmem : ∀ z ∈ cl.args.toList, z ∈ o.op.operands.toList := fun z hz => by
    rw [ho]; simp only [Op.operands, Call.operands, hcal]; simpa using hz
  have hmx := hmem x (by rw [hargs]; simp)
  have hmy := hmem y (by rw [hargs]; simp)
  unfold dAppend at h
  split at h
  · rename_i hU
    split at h
    · rename_i st' v hop
      have hhd : ∃ r pre, appAt st x = some (r, pre) := by
        split at h
        · rename_i s p e; exact ⟨_, _, e⟩
        · rename_i i p e; exact ⟨_, _, e⟩
        · cases h
      obtain ⟨r, pre, hx⟩ := hhd
      have h := (wk_at hx (setSlot st' o.dst v)).symm.trans h
      cases h
      have hop1 := hop
      unfold appendOp at hop1
      split at hop1
      · rename_i e k ys he hy
        split at hop1
        · rename_i hcond
          have hop := (appendOp_at he hy hcond hx).symm.trans hop
          have hop0 := hop
          unfold appendGo at hop
          split at hop
          · rename_i tg n cs hn0
            have hroot : rooty (rootPV st r) = true := by
              have := hn0
              unfold navS at this
              split at this
              · exact rooty_root (by assumption)
              · cases this
            have hdst : ∀ s, r = .slot s → o.dst ≠ some s := fun s e hd => by
              subst e
              have hr : rooty (get st.fr s) = false := by unfold idle at hi; rw [hd] at hi; simpa using hi
              simp only [rootPV] at hroot
              rw [hr] at hroot; cases hroot
            have hst' : st' = moveOut st r pre := by
              split at hop
              · split at hop
                · split at hop
                  · cases hop; rfl
                  · cases hop
                · split at hop
                  · cases hop; rfl
                  · cases hop
                · cases hop
              · cases hop
            subst hst'
            have hKe : ∀ v, (outEf st r pre).K v = v ∨ ((outEf st r pre).K v = .undef ∧ hits (wkOf r) v = true) := by
              cases pre with
              | none =>
                cases r with
                | slot t =>
                  refine killHits (k := .slot t) (r := .slot t) fun r' pre' hk => ?_
                  simp [Kill.hits] at hk
                  exact ⟨hk, fun i e => (by cases e)⟩
                | heap i => exact fun v => .inl rfl
              | some q =>
                have e2 : outEf st r (some q) = putEf r (Kill.at r q).on ((rootPV st r).withKids ((rootPV st r).kids.set q .undef)) st.base := by cases r <;> rfl
                rw [e2]
                have := killHits (k := .at r q) (r := r) (fun r' pre' hk => (by
                  simp [Kill.hits] at hk
                  exact ⟨hk.1, fun _ _ => (by rw [hk.2]; rfl)⟩))
                cases r <;> exact this
            have hWe : ∀ s c, (outEf st r pre).W = some (s, c) → refOf c = none ∧ r = .slot s := by
              intro s c hw
              cases pre with
              | none =>
                cases r with
                | slot t => cases hw; exact ⟨rfl, rfl⟩
                | heap i => cases hw
              | some q =>
                cases r with
                | slot t =>
                  have : some (t, (rootPV st (.slot t)).withKids ((rootPV st (.slot t)).kids.set q .undef)) = some (s, c) := hw
                  cases this
                  refine ⟨?_, rfl⟩
                  cases hg : rootPV st (.slot s) <;> rw [hg] at hroot <;> first | rfl | cases hroot
                | heap i => cases hw
            have heff : ∀ s : St, Live s → idle s o = true → navS s r pre = some (tg, n, cs) → outEf s r pre = outEf st r pre → Eff { outEf st r pre with v := kdst o.dst v } o.dst s (setSlot (moveOut s r pre) o.dst v) := fun s hl hi hnv he => by
              obtain ⟨h1, h2, h3, h4⟩ := out_mid hnv
              rw [he] at h1 h2 h4
              exact eff_mid hl hi h1 h2 h3 h4 (fun v => (hKe v).imp id And.left) (fun s c hw => ⟨(hWe s c hw).1, hdst s (hWe s c hw).2⟩) v
            have hfacts : Facts { outEf st r pre with v := kdst o.dst v } (.heavy (wkOf r)) (o.looksAt ops) o.dst st := by
              refine ⟨hKe, ?_⟩
              cases r with
              | slot t =>
                cases pre with
                | none => exact ⟨⟨_, rfl⟩, fun _ => rfl, hdst t rfl, hroot⟩
                | some q => exact ⟨⟨_, rfl⟩, fun _ => rfl, hdst t rfl, hroot⟩
              | heap i => cases pre <;> rfl
            refine ⟨_, heff st hl hi hn0 rfl, hfacts, fun s2 hb hnr _ hhp hi2 hl2 => ?_⟩
            have hhp := hhp (Nat.le_refl _)
            have hH : NearH (o.looksAt ops) st s2 := fun _ _ i _ _ => by rw [hhp]
            have hx2 : appAt s2 x = some (r, pre) := by
              unfold appAt at hx ⊢
              rw [opv_near hnr hmx]; exact hx
            have hr2 : rootPV s2 r = rootPV st r := by
              rcases appAt_cases hx with hx | ⟨t, g, n, cs, rfl, rfl, rfl, hx, _⟩
              · have h4 := sameRoot_opv hnr hmx (fun _ _ _ => hH)
                rw [hx] at h4
                exact h4 r pre rfl
              · have hg : ∀ fr : Fr, opv fr (.tmp t) = .sl g n cs → get fr t = .sl g n cs := fun fr h => by
                  simp only [opv] at h
                  split at h
                  · cases h
                  · exact h
                show get s2.fr t = get st.fr t
                rw [hg _ hx, hg _ ((opv_near hnr hmx).trans hx)]
            have hn2 : navS s2 r pre = some (tg, n, cs) := (navS_same hr2).trans hn0
            have he2 : outEf s2 r pre = outEf st r pre := by
              cases pre with
              | none => cases r <;> rfl
              | some q => cases r <;> simp only [outEf, hr2, hb]
            refine ⟨_, ?_, heff s2 hl2 hi2 hn2 he2⟩
            have hgo : appendGo P s2 e k ys r pre = some (moveOut s2 r pre, v) := by
              unfold appendGo
              rw [hn2]
              simp only
              split at hop
              · rename_i hc2
                rw [if_pos hc2]
                split at hop
                · split at hop
                  · rename_i hs; cases hop; simp only [hs, if_true]
                  · cases hop
                · split at hop
                  · rename_i hs; cases hop; simp only [hs, if_true]
                  · cases hop
                · cases hop
              · cases hop
            have hap : appendOp P s2 T x (opv s2.fr y) = some (moveOut s2 r pre, v) := by
              rw [appendOp_at he (by rw [opv_near hnr hmy, content_same (sameRoot_opv hnr hmy (fun _ _ _ => hH)), hy]) hcond hx2]
              exact hgo
            show dAppend P s2 o T U x y = _
            unfold dAppend
            rw [if_pos hU, hap]
            exact wk_at hx2 _
          · cases hop
        · cases hop1
      · cases hop1
    · cases h
  · cases h
theorem dSlice1_shape (hl : Live st) (hi : idle st o = true) {T : TypeId} {n : Nat} {parts : Array (Nat × Operand)} (ho : o.op = .buildSlice T n parts) (h : dSlice1 P st o T n parts = some (s', c)) :
    Shape1 (fun s => dSlice1 P s o T n parts) ops st s' o c := by
  unfold dSlice1 at h
  split at h
  · rename_i j t hp
    have hmt : Operand.tmp t ∈ o.op.operands.toList := by
      rw [ho]; simp only [Op.operands]
      have : (j, Operand.tmp t) ∈ parts.toList := by rw [hp]; simp
      simp only [Array.toList_map, List.mem_map]
      exact ⟨_, this, rfl⟩
    have hL : t ∈ o.looksAt ops := tmp_looks hmt
    split at h
    · rename_i q m cs e hg he
      have hroot : rooty (rootPV st (.slot t)) = true := by simp only [rootPV]; rw [hg]; rfl
      have hdst : ∀ s, Root.slot t = .slot s → o.dst ≠ some s := fun s e hd => by
        cases e
        have hr : rooty (get st.fr t) = false := by unfold idle at hi; rw [hd] at hi; simpa using hi
        rw [hg] at hr; cases hr
      have hnav : ∀ s : St, get s.fr t = .sl (.mu q) m cs → navS s (.slot t) none = some (.mu q, m, cs) := fun s hs => by
        unfold navS nav; simp only [rootPV]; rw [hs]
      split at h
      · rename_i z hz
        split at h
        · rename_i hc
          split at h
          · rename_i ds hf
            cases h
            have hKe : ∀ v, (outEf st (.slot t) none).K v = v ∨ ((outEf st (.slot t) none).K v = .undef ∧ hits (wkOf (.slot t)) v = true) :=
              killHits (k := .slot t) (r := .slot t) fun r' pre' hk => by
                simp [Kill.hits] at hk
                exact ⟨hk, fun i e => (by cases e)⟩
            have heff : ∀ s : St, Live s → idle s o = true → get s.fr t = .sl (.mu q) m cs → Eff { outEf st (.slot t) none with v := kdst o.dst (.sl (.mu (sizeT P e)) n ds) } o.dst s (setSlot { s with fr := drop t s.fr } o.dst (.sl (.mu (sizeT P e)) n ds)) := fun s hl hi hs => by
              obtain ⟨h1, h2, h3, h4⟩ := out_mid (hnav s hs)
              exact eff_mid hl hi h1 h2 h3 h4 (fun v => (hKe v).imp id And.left) (fun s c hw => by cases hw; exact ⟨rfl, hdst t rfl⟩) _
            have hfacts : Facts { outEf st (.slot t) none with v := kdst o.dst (.sl (.mu (sizeT P e)) n ds) } (.heavy (.slot t)) (o.looksAt ops) o.dst st :=
              ⟨hKe, ⟨_, rfl⟩, fun _ => rfl, hdst t rfl, by rw [hg]; rfl⟩
            refine ⟨_, heff st hl hi hg, hfacts, fun s2 hb hnr _ _ hi2 hl2 => ?_⟩
            have hg2 : get s2.fr t = .sl (.mu q) m cs := (hnr t hL).1.trans hg
            refine ⟨_, ?_, heff s2 hl2 hi2 hg2⟩
            show dSlice1 P s2 o T n parts = _
            unfold dSlice1
            rw [hp]
            simp only [hg2, he, hz]
            rw [if_pos hc, hf]
          · cases h
        · cases h
      · cases h
    · cases h
  · cases h
theorem dCallO_shape (hl : Live st) (hi : idle st o = true) {cl : Call} {fo : Operand} (ho : o.op = .call cl) (hcal : cl.callee = .value fo) {f : FuncId} {cap : List PV} (h : dCallO callF ops st o f cap cl.args.toList = some (s', c)) :
    Shape1 (fun s => dCallO callF ops s o f cap cl.args.toList) ops st s' o c := by
  have hmem : ∀ x ∈ cl.args.toList, x ∈ o.op.operands.toList := fun x hx => by
    rw [ho]; simp only [Op.operands, Call.operands, hcal]; simp at hx ⊢; exact .inr hx
  have same : ∀ (xs : List Operand) (vs : List PV) (st1 : St), (∀ x ∈ xs, x ∈ cl.args.toList) → xs.all (okOp st) = true → takeL st xs = some (st1, vs) → ∀ s2 : St, Near (o.looksAt ops) st s2 → s2.hp = st.hp →
      xs.all (okOp s2) = true ∧ ∃ s3, takeL s2 xs = some (s3, vs) := fun xs vs st1 hsub hok ht s2 hn hhp => by
    obtain ⟨h1, h2⟩ := takeL_same (s2 := s2) hok ht (fun x hx => opv_near hn (hmem x (hsub x hx))) (fun x hx => rootIf_get fun t e => sameRoot_near hn (tmp_looks (by rw [← e]; exact hmem x (hsub x hx))) fun _ t' _ i pre _ => by rw [hhp])
    exact ⟨h2, s2, h1⟩
  unfold dCallO at h
  split at h
  · rename_i t xs hargs
    have hL : t ∈ o.looksAt ops := tmp_looks (hmem _ (by rw [hargs]; simp))
    have hsub : ∀ x ∈ xs, x ∈ cl.args.toList := fun x hx => by rw [hargs]; simp [hx]
    split at h
    · rename_i q m cs hg
      split at h
      · rename_i hok
        split at h
        · cases h
        · rename_i st1 vs ht
          split at h
          · rename_i r hp' hcf
            split at h
            · rename_i hpl
              cases h
              have hdst : ∀ s, Root.slot t = .slot s → o.dst ≠ some s := fun s e hd => by
                cases e
                have hr : rooty (get st.fr t) = false := by unfold idle at hi; rw [hd] at hi; simpa using hi
                rw [hg] at hr; cases hr
              have hnav : ∀ s : St, get s.fr t = .sl (.mu q) m cs → navS s (.slot t) none = some (.mu q, m, cs) := fun s hs => by
                unfold navS nav; simp only [rootPV]; rw [hs]
              have hKe : ∀ v, (outEf st (.slot t) none).K v = v ∨ ((outEf st (.slot t) none).K v = .undef ∧ hits (wkOf (.slot t)) v = true) :=
                killHits (k := .slot t) (r := .slot t) fun r' pre' hk => by
                  simp [Kill.hits] at hk
                  exact ⟨hk, fun i e => (by cases e)⟩
              have heff : ∀ s : St, Live s → idle s o = true → get s.fr t = .sl (.mu q) m cs → Eff { outEf st (.slot t) none with v := kdst o.dst r } o.dst s (setSlot { s with fr := drop t s.fr } o.dst r) := fun s hl hi hs => by
                obtain ⟨h1, h2, h3, h4⟩ := out_mid (hnav s hs)
                exact eff_mid hl hi h1 h2 h3 h4 (fun v => (hKe v).imp id And.left) (fun s c hw => by cases hw; exact ⟨rfl, hdst t rfl⟩) _
              have hfacts : Facts { outEf st (.slot t) none with v := kdst o.dst r } (.heavy (.slot t)) (o.looksAt ops) o.dst st :=
                ⟨hKe, ⟨_, rfl⟩, fun _ => rfl, hdst t rfl, by rw [hg]; rfl⟩
              refine ⟨_, heff st hl hi hg, hfacts, fun s2 hb hnr _ hhp hi2 hl2 => ?_⟩
              have hg2 : get s2.fr t = .sl (.mu q) m cs := (hnr t hL).1.trans hg
              have hhp := hhp (Nat.le_refl _)
              obtain ⟨h1, s3, h2⟩ := same xs vs st1 hsub hok ht s2 hnr hhp
              refine ⟨_, ?_, heff s2 hl2 hi2 hg2⟩
              show dCallO callF ops s2 o f cap cl.args.toList = _
              unfold dCallO
              rw [hargs]
              simp only [hg2, h2, hhp, hcf]
              rw [if_pos h1, if_pos hpl]
            · cases h
          · cases h
      · cases h
    · cases h
  · rename_i u xs hargs
    have hsub : ∀ x ∈ xs, x ∈ cl.args.toList := fun x hx => by rw [hargs]; simp [hx]
    split at h
    · rename_i hu
      split at h
      · rename_i hok
        split at h
        · cases h
        · rename_i st1 vs ht
          split at h
          · rename_i r hp' hcf
            split at h
            · rename_i hpl
              cases h
              refine ⟨_, eff_pure hl hi r, pureFacts (fun h => by cases h), fun s2 hb hn hh hhp hi2 hl2 => ⟨_, ?_, eff_pure hl2 hi2 r⟩⟩
              have hhp := hhp (Nat.le_refl _)
              obtain ⟨h1, s3, h2⟩ := same xs vs st1 hsub hok ht s2 hn hhp
              show dCallO callF ops s2 o f cap cl.args.toList = _
              unfold dCallO
              rw [hargs]
              simp only [hu, h2, hhp, hcf]
              rw [if_pos h1, if_pos hpl, foot_same hn]
            · cases h
          · cases h
      · cases h
    · cases h
  · cases h
theorem dCallX_shape (hl : Live st) (hi : idle st o = true) {cl : Call} {fo : Operand} (ho : o.op = .call cl) (hcal : cl.callee = .value fo) {f : FuncId} {cap : List PV} (h : dCallX own callF ops st o f cap cl.args.toList = some (s', c)) :
    Shape1 (fun s => dCallX own callF ops s o f cap cl.args.toList) ops st s' o c := by
  unfold dCallX at h ⊢
  by_cases hw : own f = some 0
  · simp only [hw, if_true] at h ⊢
    exact dCallO_shape hl hi ho hcal h
  · simp only [hw, if_false] at h ⊢
    exact dCall_shape hl hi ho hcal h
theorem ownPart_same {T : TypeId} {n : Nat} {parts : Array (Nat × Operand)} (ho : o.op = .buildSlice T n parts) {s2 : St} (hn : Near (o.looksAt ops) st s2) : ownPart s2 parts = ownPart st parts := by
  unfold ownPart
  split
  · rename_i j t hp
    have hmt : Operand.tmp t ∈ o.op.operands.toList := by
      rw [ho]; simp only [Op.operands]
      have : (j, Operand.tmp t) ∈ parts.toList := by rw [hp]; simp
      simp only [Array.toList_map, List.mem_map]
      exact ⟨_, this, rfl⟩
    rw [(hn t (tmp_looks hmt)).1]
  · rfl
theorem ownOp_same {x : Operand} (hx : x ∈ o.op.operands.toList) {s2 : St} (hn : Near (o.looksAt ops) st s2) : ownOp s2 x = ownOp st x := by
  unfold ownOp
  split
  · rename_i t; rw [(hn t (tmp_looks hx)).1]
  · rfl
theorem dMoveOwn_shape (hl : Live st) (hi : idle st o = true) {x : Operand} (hx : x ∈ o.op.operands.toList) (h : dMoveOwn P st o x = some (s', c)) : Shape1 (fun s => dMoveOwn P s o x) ops st s' o c := by
  unfold dMoveOwn at h
  split at h
  · rename_i t
    have hL : t ∈ o.looksAt ops := tmp_looks hx
    split at h
    · rename_i q m cs hg
      have hdst : ∀ s, Root.slot t = .slot s → o.dst ≠ some s := fun s e hd => by
        cases e
        have hr : rooty (get st.fr t) = false := by unfold idle at hi; rw [hd] at hi; simpa using hi
        rw [hg] at hr; cases hr
      have hnav : ∀ s : St, get s.fr t = .sl (.mu q) m cs → navS s (.slot t) none = some (.mu q, m, cs) := fun s hs => by
        unfold navS nav; simp only [rootPV]; rw [hs]
      split at h
      · rename_i hc
        cases h
        have hKe : ∀ v, (outEf st (.slot t) none).K v = v ∨ ((outEf st (.slot t) none).K v = .undef ∧ hits (wkOf (.slot t)) v = true) :=
          killHits (k := .slot t) (r := .slot t) fun r' pre' hk => by
            simp [Kill.hits] at hk
            exact ⟨hk, fun i e => (by cases e)⟩
        have heff : ∀ s : St, Live s → idle s o = true → get s.fr t = .sl (.mu q) m cs → Eff { outEf st (.slot t) none with v := kdst o.dst (retag P o.type (.sl (.mu q) m cs)) } o.dst s (setSlot { s with fr := drop t s.fr } o.dst (retag P o.type (.sl (.mu q) m cs))) := fun s hl hi hs => by
          obtain ⟨h1, h2, h3, h4⟩ := out_mid (hnav s hs)
          exact eff_mid hl hi h1 h2 h3 h4 (fun v => (hKe v).imp id And.left) (fun s c hw => by cases hw; exact ⟨rfl, hdst t rfl⟩) _
        have hfacts : Facts { outEf st (.slot t) none with v := kdst o.dst (retag P o.type (.sl (.mu q) m cs)) } (.heavy (.slot t)) (o.looksAt ops) o.dst st :=
          ⟨hKe, ⟨_, rfl⟩, fun _ => rfl, hdst t rfl, by rw [hg]; rfl⟩
        refine ⟨_, heff st hl hi hg, hfacts, fun s2 hb hnr _ _ hi2 hl2 => ?_⟩
        have hg2 : get s2.fr t = .sl (.mu q) m cs := (hnr t hL).1.trans hg
        refine ⟨_, ?_, heff s2 hl2 hi2 hg2⟩
        show dMoveOwn P s2 o (.tmp t) = _
        unfold dMoveOwn
        simp only [hg2]
        rw [if_pos hc]
      · cases h
    · cases h
  · cases h
theorem dBox_shape (hl : Live st) (hi : idle st o = true) {T : TypeId} {x : Operand} (ho : o.op = .box T x) (h : dBox P H st o T x = some (s', c)) : Shape1 (fun s => dBox P H s o T x) ops st s' o c := by
  have hmem : x ∈ o.op.operands.toList := by rw [ho]; simp [Op.operands]
  unfold dBox at h
  split at h
  · rename_i d hd
    split at h
    · rename_i hc
      split at h
      · rename_i st1 v ht
        split at h
        · rename_i hst
          cases h
          let node := Node.cells (cellsOf (retag P T v))
          let e : Ef := ⟨kdst o.dst (.ptr (.heap st.hp.length) none 0), fun v => v, none, fun h => h ++ [node], fun b => b⟩
          have heff : ∀ s : St, Live s → idle s o = true → Eff e o.dst s (setSlot { s with hp := s.hp ++ [node] } o.dst (.ptr (.heap st.hp.length) none 0)) := fun s hl hi =>
            ⟨fun u => get_setSlot (st := { s with hp := s.hp ++ [node] }) hl hi _ u, (setSlot_rest _ _ _).1, (setSlot_rest _ _ _).2.1, (setSlot_rest _ _ _).2.2⟩
          refine ⟨e, heff st hl hi, ⟨fun _ => .inl rfl, rfl⟩, fun s2 hb hn hh hhp hi2 hl2 => ⟨_, ?_, heff s2 hl2 hi2⟩⟩
          have hhp := hhp (Nat.le_refl _)
          have hr : RootIf st s2 (opv st.fr x) := rootIf_get fun t e => sameRoot_near hn (tmp_looks (by rw [← e]; exact hmem)) fun _ t' _ i pre _ => by rw [hhp]
          obtain ⟨a1, a2⟩ := take_same hc.2 ht (opv_near hn hmem) hr
          show dBox P H s2 o T x = _
          unfold dBox
          simp only [hd]
          rw [if_pos ⟨hc.1, a2⟩, a1]
          simp only
          rw [if_pos hst, hhp]
        · cases h
      · cases h
    · cases h
  · cases h
end
end Go.PS
end
