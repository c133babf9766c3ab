/-
  An evaluator of the model on pure values, and its soundness: what evalCall answers for a function and its arguments, the function returns in the model, and nothing older turns. Part 3 of 4.
-/
import Derived.Test.YtolhandckojljaaPsB
import Derived.Laws.IdiomStrings
import Derived.LoopN
import Derived.Scope

set_option linter.all false
section
/-
  The built-in copy; bytes of a text; loads.
-/
namespace Go.PS
section
variable {g g' g1 g2 : G} {w w' w1 w2 : World} {hn hn' : Nat} {tm : Array Value} {fr fr' : Fr} {hp hp' hp1 hp2 : Heap} {P : Program} {t : Nat}

/-- Values that last, written into a variable's cells. -/
theorem storeVals (P : Program) {st : St} (R : Rel g w tm st.fr st.hp) {r : Root} {cs : List PV} (hr : rootPV st r = .box cs) {vs : List Value} {ys : List PV} (hlen : vs.length = ys.length)
    (hV : ∀ (j : Nat) (v : Value) (y : PV), vs[j]? = some v → ys[j]? = some y → V g w st.hp.length v y) (hst : ys.all storable = true) (off : Nat) (hle : off + ys.length ≤ cs.length) :
    let st' := putRoot { st with fr := killFr (.subs r) st.fr } r (.box (splice cs off ys))
    ∃ b g' , g.loc r none = (b, 0) ∧ (∀ j, j < vs.length → (w.cell? ⟨b, off + j, none⟩).isSome = true ∧ w.frozen? ⟨b, off + j, none⟩ = false) ∧ Rel g' (w.setCells b off vs) tm st'.fr st'.hp ∧ StepR st st' g w g' (w.setCells b off vs) := by
  intro st'
  let t0 := tm.size
  have hg : get st.fr t0 = .undef := by
    by_cases h : get st.fr t0 = .undef
    · exact h
    · exact (Nat.lt_irrefl _ (R.size t0 h)).elim
  have hr0 : ∀ t' pre, refOf (get st.fr t') ≠ some (.slot t0, pre) := fun t' pre e => by
    have := R.live t' t0 pre e
    rw [hg] at this
    cases pre <;> cases this
  have T : TakenV g w st.hp.length tm st.fr st.hp st.base st.dirty [(t0, .nilp)] (.agg vs.toArray) (.agg ys) :=
    .agg t0 vs.toArray ys hg hr0 (by simpa using hlen) (fun j v y h1 h2 => .of (hV j v y (by simpa using h1) h2)) fun d hd e => by
      subst e; simp [get] at hd
  obtain ⟨b, g2, w2, hl, hcs, rfl, hthere, hone, R2, S2⟩ := storeBox (P := P) R T hst hr off hle (.subs r) (fun j _ => by simp [Kill.hits]) 0
  exact ⟨b, g2, hl, fun j hj => hthere j (by simpa [Value.cells] using hj), by simpa [Value.cells, retag, cellsOf] using R2, by simpa [Value.cells, retag, cellsOf] using S2⟩

/-- What a copy reads, from the front. -/
theorem copySrc_sound {st : St} (R : Rel g w tm st.fr st.hp) {e : TypeId} {v : Value} {x : PV} {k : Nat} {ys : List PV} (hx : Slot g w st.hp.length tm t v x) (h : copySrc P e st x = some (k, ys)) (hlen : ys.length = k * sizeT P e) (hst : ys.all storable = true) :
    (Builtin.lenOf v).run P w = .ok k w ∧ ∀ m, m ≤ k → ∃ news : List Value, news.length = m * sizeT P e ∧ (Builtin.firstCells (sizeT P e) m v).run P w = .ok news.toArray w ∧ (∀ u ∈ news, u.oneCell' = true) ∧
      ∀ (j : Nat) (u : Value) (y : PV), news[j]? = some u → (ys.take (m * sizeT P e))[j]? = some y → V g w st.hp.length u y := by
  have slice : ∀ {x : PV}, Slot g w st.hp.length tm t v x → content st x = some (k, ys) → (Builtin.lenOf v).run P w = .ok k w ∧ ∀ m, m ≤ k → ∃ news : List Value, news.length = m * sizeT P e ∧ (Builtin.firstCells (sizeT P e) m v).run P w = .ok news.toArray w ∧ (∀ u ∈ news, u.oneCell' = true) ∧
      ∀ (j : Nat) (u : Value) (y : PV), news[j]? = some u → (ys.take (m * sizeT P e))[j]? = some y → V g w st.hp.length u y := by
    intro x hx h
    rcases content_sound R hx h with ⟨rfl, rfl, a, cap, rfl⟩ | ⟨b, o, cap, rfl, hle, hc⟩
    · refine ⟨rfl, fun m hm => ⟨[], (by have : m = 0 := (by omega); subst this; simp), ?_, (fun u hu => by cases hu), fun j u y hu => by simp at hu⟩⟩
      have : m = 0 := by omega
      subst this
      cases a with
      | none => exact run_firstCells_none w _ 0 0 cap
      | some a => exact run_firstCells_some w _ 0 a 0 cap [] (by simp) (fun j u hu => by simp at hu)
    · refine ⟨rfl, fun m hm => ?_⟩
      obtain ⟨vs, h1, h2, h3⟩ := hc.vals
      have hms : m * sizeT P e ≤ ys.length := by rw [hlen]; exact Nat.mul_le_mul_right _ hm
      have hl : (vs.take (m * sizeT P e)).length = m * sizeT P e := by rw [List.length_take]; omega
      have hsub : ∀ (j : Nat) (u : Value), (vs.take (m * sizeT P e))[j]? = some u → vs[j]? = some u := fun j u hu => by
        rw [List.getElem?_take] at hu; split at hu
        · exact hu
        · cases hu
      refine ⟨vs.take (m * sizeT P e), hl, run_firstCells_some w _ m ⟨b, o, none⟩ k cap _ hl (fun j u hu => ?_), fun u hu => ?_, fun j u y hu hy => ?_⟩
      · rw [addr_add]; exact h2 j u (hsub j u hu)
      · obtain ⟨j, hj, rfl⟩ := List.mem_iff_getElem.1 (List.mem_of_mem_take hu)
        have hj' : j < ys.length := by omega
        exact (h3 j _ _ (List.getElem?_eq_getElem hj) (List.getElem?_eq_getElem hj')).oneCell (List.all_eq_true.1 hst _ (List.getElem_mem hj'))
      · refine h3 j u y (hsub j u hu) ?_
        rw [List.getElem?_take] at hy; split at hy
        · exact hy
        · cases hy
  unfold copySrc at h
  split at h
  · rename_i s
    split at h
    · rename_i he
      cases h
      obtain ⟨b, rfl, rfl⟩ := hx.str_inv
      rw [he] at hlen ⊢
      refine ⟨by rw [size_toList]; rfl, fun m hm => ⟨((b.extract 0 m).data.toList.map fun c => Value.int .u8 c.toNat), ?_, ?_, fun u hu => ?_, fun j u y hu hy => ?_⟩⟩
      · have : b.data.toList.length = b.size := by rw [Array.length_toList]; rfl
        simp only [List.length_map, Array.length_toList, ByteArray.data_extract, Array.size_extract, Nat.mul_one]
        have : b.data.size = b.size := rfl
        simp at hm
        omega
      · simp only [Builtin.firstCells, Sem.run_pure, ByteArray.data_extract]
        congr 1
        apply Array.ext'
        simp
      · obtain ⟨_, _, rfl⟩ := List.mem_map.1 hu; rfl
      · simp only [ByteArray.data_extract, Array.toList_extract, List.extract_eq_take_drop, List.drop_zero, Nat.sub_zero, List.getElem?_map, Option.map_eq_some_iff, List.getElem?_take, Nat.mul_one] at hu
        obtain ⟨c, hc, rfl⟩ := hu
        rw [List.getElem?_take, Nat.mul_one] at hy
        split at hc
        · rename_i hlt
          rw [if_pos hlt] at hy
          simp only [ofBytes, List.getElem?_map, hc, Option.map_some, Option.some.injEq] at hy
          subst hy
          exact .int _ _
        · cases hc
    · cases h
  · exact slice hx h

theorem copyExec {a : Act} {o : Oper} {c : Call} (ho : o.op = .call c) (hc : c.callee = .builtin .copy) {x y : Operand} (hargs : c.args.toList = [x, y]) {T U : TypeId} (hT : c.argTypes.toList = [T, U]) {v : Value} {w' : World}
    (h : (Builtin.copy_ #[T, U] o.type #[a.eval x, a.eval y]).run P w = .ok v w') : (execOp a.eval o).run P w = .ok (.value v) w' := by
  have e1 : c.args = #[x, y] := by rw [← Array.toArray_toList (xs := c.args), hargs]
  have e2 : c.argTypes = #[T, U] := by rw [← Array.toArray_toList (xs := c.argTypes), hT]
  have h1 : ∀ cs args, builtin .copy c.argTypes o.type cs args = (do pure (.value (← Builtin.copy_ c.argTypes o.type args)) : Sem Next) := fun _ _ => rfl
  simp only [execOp, ho, resolve, hc, invoke, Sem.run_bind, Sem.run_pure, Result.andThen_ok]
  rw [h1, e1, e2]
  have e3 : #[x, y].map a.eval = #[a.eval x, a.eval y] := by simp
  rw [e3]
  simp only [Sem.run_bind, h, Result.andThen_ok, Sem.run_pure]

/-- The model's copy, where the cells that it writes are there. -/
theorem run_copy_to {T U ty e : TypeId} {i : TypeInfo} (hT : P.underlying T = some (.slice e)) (hi : P.info? e = some i) {b o n cap k : Nat} {x : Value} (hl : (Builtin.lenOf x).run P w = .ok k w) {news : List Value}
    (hf : (Builtin.firstCells i.size (min k n) x).run P w = .ok news.toArray w) (hone : ∀ u ∈ news, u.oneCell' = true) (hthere : ∀ j, j < news.length → (w.cell? ⟨b, o + j, none⟩).isSome = true ∧ w.frozen? ⟨b, o + j, none⟩ = false) :
    (Builtin.copy_ #[T, U] ty #[.slice (some ⟨b, o, none⟩) n cap, x]).run P w = .ok (.int .i64 (min k n : Nat)) (w.setCells b o news) := by
  have hst := run_storeCells_cells (P := P) b o news 0 w (by simpa using fun j hj => (hthere j hj).1) (by simpa using fun j hj => (hthere j hj).2) hone
  simp only [Nat.add_zero] at hst
  have hf' : (Builtin.firstCells i.size (Nat.min k n) x).run P w = .ok news.toArray w := hf
  simp [Builtin.copy_, run_underlying hT, sizeOf, typeInfo, hi, hl, hf', hst, goInt]
/-- Nothing is copied into an empty slice. -/
theorem run_copy_empty {T U ty e : TypeId} {i : TypeInfo} (hT : P.underlying T = some (.slice e)) (hi : P.info? e = some i) {a : Option Addr} {cap k : Nat} {x : Value} (hl : (Builtin.lenOf x).run P w = .ok k w)
    (hf : (Builtin.firstCells i.size 0 x).run P w = .ok #[] w) : (Builtin.copy_ #[T, U] ty #[.slice a 0 cap, x]).run P w = .ok (.int .i64 0) w := by
  have h0 : Nat.min k 0 = 0 := by simp [Nat.min_def]
  cases a <;> simp [Builtin.copy_, run_underlying hT, sizeOf, typeInfo, hi, hl, h0, hf, goInt, storeCells]

theorem copyOK {st st1 : St} {a : Act} (Tb : Tabs P) (R : Rel g w a.tmps st.fr st.hp) {o : Oper} (hd : ∀ d, o.dst = some d → d < a.tmps.size) {c : Call} (ho : o.op = .call c) (hc : c.callee = .builtin .copy)
    {x y : Operand} (hargs : c.args.toList = [x, y]) {T U : TypeId} (hT : c.argTypes.toList = [T, U]) {n : Nat} (h : copyOp P st T (opv st.fr x) (opv st.fr y) = some (st1, n)) : StepOK P a o st (setSlot st1 o.dst (.int .i64 n)) g w := by
  unfold copyOp at h
  split at h
  · cases h
  · rename_i e he
    have he := elemT_spec he
    obtain ⟨i, hi⟩ := Tb.slice _ _ he
    have hsi : sizeT P e = i.size := by simp [sizeT, hi]
    split at h
    · cases h
    · rename_i k ys hsrc
      split at h
      · rename_i hcond
        obtain ⟨hlen, hst⟩ := hcond
        obtain ⟨⟨tx, hx⟩, _⟩ := opv_sound R a rfl x
        obtain ⟨⟨ty, hy⟩, _⟩ := opv_sound R a rfl y
        obtain ⟨hlof, hfirst⟩ := copySrc_sound (P := P) R hy hsrc hlen hst
        have empty : ∀ {a0 : Option Addr} {cap : Nat}, a.eval x = .slice a0 0 cap → (Builtin.copy_ #[T, U] o.type #[a.eval x, a.eval y]).run P w = .ok (.int .i64 0) w := fun {a0 cap} hv => by
          obtain ⟨news, h1, h2, _, _⟩ := hfirst 0 (by omega)
          have : news = [] := List.eq_nil_of_length_eq_zero (by simpa using h1)
          subst this
          rw [hsi] at h2
          rw [hv]
          exact run_copy_empty he hi hlof h2
        have done' : ∀ {g' : G} {w' : World} {m : Nat} {st2 : St}, (Builtin.copy_ #[T, U] o.type #[a.eval x, a.eval y]).run P w = .ok (.int .i64 (m : Nat)) w' → Rel g' w' a.tmps st2.fr st2.hp → StepR st st2 g w g' w' → StepOK P a o st (setSlot st2 o.dst (.int .i64 m)) g w := fun {g' w' m st2} hrun R2 S2 =>
          Runs.value (copyExec ho hc hargs hT hrun) ⟨g', R2.putFlat hd (fun t => (V.int _ _).slot t) (V.int (g := g') (w := w') (hn := st2.hp.length) _ _).lv, S2.setSlot _ _⟩
        -- the copy into a place
        have main : ∀ {r : Root} {pre : Option Nat} {off m : Nat} {b oo cap : Nat} {st2 : St}, copyTo st r pre off (ys.take (min k m * sizeT P e)) = some st2 → a.eval x = .slice (some ⟨b, oo + off, none⟩) m cap → g.loc r pre = (b, oo) → StepOK P a o st (setSlot st2 o.dst (.int .i64 (min k m : Nat))) g w := by
          intro r pre off m b oo cap st2 hcp hv hloc
          obtain ⟨news, hn1, hn2, hn3, hn4⟩ := hfirst (min k m) (Nat.min_le_left _ _)
          have hml : (ys.take (min k m * sizeT P e)).length = min k m * sizeT P e := by
            rw [List.length_take, hlen]
            have : min k m * sizeT P e ≤ k * sizeT P e := Nat.mul_le_mul_right _ (Nat.min_le_left _ _)
            omega
          have hnl : news.length = (ys.take (min k m * sizeT P e)).length := by rw [hn1, hml]
          have hst' : (ys.take (min k m * sizeT P e)).all storable = true := List.all_eq_true.2 fun z hz => List.all_eq_true.1 hst z (List.mem_of_mem_take hz)
          unfold copyTo at hcp
          split at hcp
          · rename_i s n cs hnav
            split at hcp
            · rename_i hle
              cases hcp
              have hlenO : news.length = ((ys.take (min k m * sizeT P e)).map outCell).length := by simpa using hnl
              have hVO : ∀ (j : Nat) (v : Value) (z : PV), news[j]? = some v → ((ys.take (min k m * sizeT P e)).map outCell)[j]? = some z → V g w st.hp.length v z := fun j v z h1 h2 => by
                simp only [List.getElem?_map, Option.map_eq_some_iff] at h2
                obtain ⟨z', h3, rfl⟩ := h2
                exact (hn4 j v z' h1 h3).outCell
              rcases Nat.eq_zero_or_pos news.length with h0 | h0
              · have hnn : news = [] := List.eq_nil_of_length_eq_zero h0
                have hyy : ys.take (min k m * sizeT P e) = [] := List.eq_nil_of_length_eq_zero (by omega)
                subst hnn
                have hrun : (Builtin.copy_ #[T, U] o.type #[a.eval x, a.eval y]).run P w = .ok (.int .i64 (min k m : Nat)) (w.setCells b (oo + off) []) := by
                  rw [hv]
                  exact run_copy_to he hi hlof (by rw [← hsi]; exact hn2) hn3 (fun j hj => by simp at hj)
                rw [hyy]
                obtain ⟨d1, d2, d3, d4⟩ := put_dirty (st := st) (r := r) (pre := pre) (x := .sl (.mu s) n cs)
                exact done' (w' := w) hrun (R.putNode hnav fun u hu => hu) ⟨d1, d2, put_X⟩
              · obtain ⟨b', o', hl, hthere, R2, S2⟩ := storeRow R hnav hlenO hVO off (by simpa using hle) (by omega)
                rw [hloc] at hl; cases hl
                refine done' (w' := w.setCells b (oo + off) news) ?_ R2 S2
                rw [hv]
                exact run_copy_to he hi hlof (by rw [← hsi]; exact hn2) hn3 hthere
            · cases hcp
          · rename_i cs hnav
            split at hcp
            · rename_i hle
              cases hcp
              have hpre : pre = none ∧ rootPV st r = .box cs := by
                unfold nav at hnav
                split at hnav
                · rename_i hr; cases hnav; exact ⟨rfl, hr⟩
                · cases hnav
                · cases hnav
                · split at hnav <;> cases hnav
                · cases hnav
              obtain ⟨rfl, hr⟩ := hpre
              obtain ⟨b', g2, hl, hthere, R2, S2⟩ := storeVals P R hr hnl hn4 hst' off hle
              rw [hloc] at hl; cases hl
              rw [Nat.zero_add] at hv
              refine done' (w' := w.setCells b off news) ?_ R2 S2
              rw [hv]
              exact run_copy_to he hi hlof (by rw [← hsi]; exact hn2) hn3 hthere
            · cases hcp
          · cases hcp
        -- an empty place
        have main0 : ∀ {r : Root} {pre : Option Nat} {off : Nat} {a0 : Option Addr} {cap : Nat} {st2 : St}, copyTo st r pre off (ys.take (min k 0 * sizeT P e)) = some st2 → a.eval x = .slice a0 0 cap → StepOK P a o st (setSlot st2 o.dst (.int .i64 (min k 0 : Nat))) g w := by
          intro r pre off a0 cap st2 hcp hv
          have h0 : min k 0 = 0 := by simp
          rw [h0] at hcp ⊢
          simp only [Nat.zero_mul, List.take_zero] at hcp
          have hrun := empty hv
          unfold copyTo at hcp
          split at hcp
          · rename_i s n cs hnav
            split at hcp
            · cases hcp
              obtain ⟨d1, d2, d3, d4⟩ := put_dirty (st := st) (r := r) (pre := pre) (x := .sl (.mu s) n cs)
              exact done' (w' := w) (m := 0) hrun (R.putNode hnav fun u hu => hu) ⟨d1, d2, put_X⟩
            · cases hcp
          · rename_i cs hnav
            split at hcp
            · cases hcp
              have hr : rootPV st r = .box cs := by
                unfold nav at hnav
                split at hnav
                · rename_i hr; cases hnav; exact hr
                · cases hnav
                · cases hnav
                · split at hnav <;> cases hnav
                · cases hnav
              have hr' := rootPV_killFr (k := .subs r) hr
              have R2 := Rel.putBox (st := { st with fr := killFr (.subs r) st.fr }) (R.kill (.subs r)) hr' (cs' := cs) (fun _ _ h => h)
              obtain ⟨d1, d2, d3⟩ := putRoot_dirty (st := { st with fr := killFr (.subs r) st.fr }) (r := r) (x := .box cs)
              exact done' (w' := w) (m := 0) hrun R2 ⟨d1, d2, putRoot_X (st := { st with fr := killFr (.subs r) st.fr })⟩
            · cases hcp
          · cases hcp
        split at h
        · rename_i r pre hxo
          rw [hxo] at hx
          split at h
          · rename_i tg m cs hn
            simp only [Option.map_eq_some_iff, Prod.mk.injEq] at h
            obtain ⟨st2, hcp, rfl, rfl⟩ := h
            obtain ⟨htg, hL⟩ := hd_at R hx hn
            generalize hv : a.eval x = v at hL
            cases hL with
            | of hV =>
              cases hV with
              | sl0 a0 _ => exact main0 hcp hv
              | sh0 a0 cap => simp at htg
              | sl tg b oo n cap cs f htg2 => rcases htg2 with rfl | ⟨rfl, _⟩ <;> simp at htg
            | mu how hl hle hlen2 room hi2 hc2 h0 => exact main (off := 0) hcp hv hl
            | ow how hl hle hlen2 room hi2 hx2 hc2 h0 => exact main (off := 0) hcp hv hl
            | full hl hi2 hc2 => exact main (off := 0) hcp hv hl
          · cases h
        · rename_i r pre off sz m hxo
          rw [hxo] at hx
          split at h
          · simp only [Option.map_eq_some_iff, Prod.mk.injEq] at h
            obtain ⟨st2, hcp, rfl, rfl⟩ := h
            rcases hx.vw_inv with ⟨rfl, a0, cap, hv⟩ | ⟨b, oo, cap, hloc, hv, _⟩
            · exact main0 hcp hv
            · exact main hcp hv hloc
          · cases h
        · rename_i hxo
          cases h
          rw [hxo] at hx
          rcases hx.sl_inv.row with ⟨_, _, a0, cap, hv, _⟩ | ⟨b, oo, cap, hv, _⟩
          · exact done' (m := 0) (empty hv) R (StepR.refl _ _ _)
          · exact done' (m := 0) (empty hv) R (StepR.refl _ _ _)
        · cases h
      · cases h
end
end Go.PS
end

section
/-
  All operations, as the evaluator steps.
-/
namespace Go.PS
section
variable {g g' g1 g2 : G} {w w' w1 w2 : World} {hn hn' : Nat} {tm : Array Value} {fr fr' : Fr} {hp hp' hp1 hp2 : Heap} {P : Program} {t : Nat}

/-- The bytes of a text, as a new row. -/
theorem bytesOK {st : St} {a : Act} (R : Rel g w a.tmps st.fr st.hp) {o : Oper} (hd : ∀ d, o.dst = some d → d < a.tmps.size) {S D e : TypeId} {x : Operand} (ho : o.op = .convert S D x) (hS : P.underlying S = some .string)
    (hD : P.underlying D = some (.slice e)) (he : P.underlying e = some (.int .u8)) {s : List UInt8} (hx : opv st.fr x = .str s) : StepOK P a o st (setSlot st o.dst (.sl (.mu 1) s.length (ofBytes s))) g w := by
  obtain ⟨⟨tx, hs⟩, _⟩ := opv_sound R a rfl x
  rw [hx] at hs
  obtain ⟨b, hv, rfl⟩ := hs.str_inv
  let gc := grownCap w b.size 0 e
  have hge := grownCap_ge w b.size 0 e
  have hrun := run_bytes_of_string (P := P) w S D e b hS hD he
  let cells := bytesRow b gc
  have hexec : (execOp a.eval o).run P w = .ok (.value (.slice (some ⟨w.heap.size, 0, none⟩) b.size gc)) (w.drew.alloc (.cells cells e (cells.size, cells.size + 1))) := by
    simp only [execOp, ho, Sem.run_bind, hv, hrun, Result.andThen_ok, Sem.run_pure]
    rfl
  have hgr : Grow w (w.drew.alloc (.cells cells e (cells.size, cells.size + 1))) := (Grow.drew w).trans (Grow.alloc _ _)
  have R1 := R.grow hgr
  have hcell : ∀ j, (w.drew.alloc (.cells cells e (cells.size, cells.size + 1))).cell? ⟨w.heap.size, j, none⟩ = cells[j]? := fun j => by
    unfold World.cell?
    have : (w.drew.alloc (.cells cells e (cells.size, cells.size + 1))).heap[w.heap.size]? = some (.cells cells e (cells.size, cells.size + 1)) := heap_new w.drew _
    rw [this]; simp
  have hfro : ∀ j, j < cells.size → (w.drew.alloc (.cells cells e (cells.size, cells.size + 1))).frozen? ⟨w.heap.size, j, none⟩ = false := fun j hj => by
    unfold World.frozen?
    have : (w.drew.alloc (.cells cells e (cells.size, cells.size + 1))).heap[w.heap.size]? = some (.cells cells e (cells.size, cells.size + 1)) := heap_new w.drew _
    rw [this]; simp; omega
  have hsz : cells.size = gc := by
    have h1 : b.data.size = b.size := rfl
    simp only [cells, bytesRow, Array.size_append, Array.size_map, Array.size_replicate]
    omega
  have hbl : b.data.toList.length = b.size := by rw [Array.length_toList]; rfl
  have hol : (ofBytes b.data.toList).length = b.size := by simp [ofBytes, hbl]
  have hres : ResV g (w.drew.alloc (.cells cells e (cells.size, cells.size + 1))) st.hp.length (.slice (some ⟨w.heap.size, 0, none⟩) b.size gc) (.sl (.mu 1) b.data.toList.length (ofBytes b.data.toList)) := by
    rw [hbl]
    refine .mu (own_new R (Nat.le_refl _)) (by show _ < (w.drew.alloc _).heap.size; rw [size_alloc]; exact Nat.lt_succ_self _) hge (by rw [hol, Nat.mul_one]) (fun j hj => ?_) (fun j => notImm_new R (Nat.le_refl _) j) (fun j y hy => ?_) (.inr (by omega))
    · rw [Nat.mul_one] at hj
      rw [Nat.zero_add, hcell]
      exact ⟨by rw [Array.getElem?_eq_getElem (by omega)]; rfl, hfro j (by omega)⟩
    · have hlt : j < b.data.size := by have := lt_of_some hy; rw [hol] at this; exact this
      rw [Nat.zero_add, hcell]
      simp only [ofBytes, List.getElem?_map, Option.map_eq_some_iff] at hy
      obtain ⟨c, hc, rfl⟩ := hy
      refine ⟨.int .u8 c.toNat, ?_, .int _ _⟩
      simp only [cells, bytesRow]
      rw [Array.getElem?_append_left (by simpa using hlt)]
      rw [Array.getElem?_toList] at hc
      simp [hc]
  obtain ⟨g3, R3, S3⟩ := R1.landDst (a := a) (st := st) (dst := o.dst) hd hres
  exact Runs.value hexec ⟨g3, R3, (StepR.ofX rfl rfl (X.grow (base := st.base) R hgr) (by simp)).trans S3⟩

theorem conv_bytes {st : St} {s d : TypeId} {x z : PV} (h : conv P st s d x = some z) {e : TypeId} {str : List UInt8} (hd : P.underlying d = some (.slice e)) (hx : x = .str str) :
    P.underlying s = some .string ∧ P.underlying e = some (.int .u8) ∧ z = .sl (.mu 1) str.length (ofBytes str) := by
  subst hx
  unfold conv at h
  rw [hd] at h
  split at h
  · rename_i e1 e2; cases e2
  · cases ‹some (TypeDesc.slice e) = some TypeDesc.string›
  · rename_i hs e1 e2
    cases e1; cases e2
    split at h
    · rename_i he; cases h; exact ⟨hs, he, rfl⟩
    · cases h
  · rename_i e1 e2; cases e2
  · cases h

theorem preShare_sound {st : St} {a : Act} (R : Rel g w a.tmps st.fr st.hp) (dies : Nat → Bool) (x : Operand) : ∃ g', Rel g' w a.tmps (preShare dies st x).fr (preShare dies st x).hp ∧ StepR st (preShare dies st x) g w g' w := by
  unfold preShare
  split
  · split
    · exact ⟨g, R, StepR.refl _ _ _⟩
    · split
      · rename_i st1 y h
        obtain ⟨g', R', S', _⟩ := shareAt_sound R h
        exact ⟨g', R', S'⟩
      · exact ⟨g, R, StepR.refl _ _ _⟩
  · exact ⟨g, R, StepR.refl _ _ _⟩
theorem preShares_sound {a : Act} (dies : Nat → Bool) : ∀ (xs : List (Nat × Operand)) {st : St} {g : G}, Rel g w a.tmps st.fr st.hp →
    ∃ g', Rel g' w a.tmps (xs.foldl (fun st p => preShare dies st p.2) st).fr (xs.foldl (fun st p => preShare dies st p.2) st).hp ∧ StepR st (xs.foldl (fun st p => preShare dies st p.2) st) g w g' w
  | [], st, g, R => ⟨g, R, StepR.refl _ _ _⟩
  | x :: xs, st, g, R => by
    obtain ⟨g1, R1, S1⟩ := preShare_sound R dies x.2
    obtain ⟨g2, R2, S2⟩ := preShares_sound dies xs R1
    exact ⟨g2, R2, S1.trans S2⟩
theorem StepOK.pre {st st1 st' : St} {a : Act} {o : Oper} (S : StepR st st1 g w g1 w) (h : StepOK P a o st1 st' g1 w) : StepOK P a o st st' g w := by
  unfold StepOK Runs at h ⊢
  split <;> simp_all only []
  · obtain ⟨g2, R2, S2⟩ := h; exact ⟨g2, R2, S.trans S2⟩
  · obtain ⟨g2, R2, S2⟩ := h; exact ⟨g2, R2, S.trans S2⟩
  · exact h.mono fun e w'' ⟨v, he, g2, R2, S2⟩ => ⟨v, he, g2, R2, S.trans S2⟩

theorem stepOp_sound (Tb : Tabs P) {st st' : St} {a : Act} (R : Rel g w a.tmps st.fr st.hp) (hb : st.base ≤ st.hp.length) {H : Hint} {own : FuncId → Option Nat} {callF : CallF} (hcall : CallSound P callF) {o : Oper} (hd : ∀ d, o.dst = some d → d < a.tmps.size)
    (h : stepOp P H own callF st o = some st') : StepOK P a o st st' g w := by
  have pure' : ∀ (hm : ¬ makes P st o), (stepA P st o).map (fun v => setSlot st o.dst v) = some st' → StepOK P a o st st' g w := fun hm h => by
    simp only [Option.map_eq_some_iff] at h
    obtain ⟨z, hz, rfl⟩ := h
    exact pureOK Tb R o hd hz hm
  have h0 := h
  cases ho : o.op with
  | assign x =>
    simp only [stepOp, ho] at h
    split at h
    · rename_i t hdst
      obtain ⟨g1, R1, S1⟩ := preShare_sound R H.dies x
      exact StepOK.pre S1 (assignOK R1 hdst (hd t hdst) ho h)
    · cases h
  | store T x y =>
    simp only [stepOp, ho] at h
    obtain ⟨g1, R1, S1⟩ := preShare_sound R H.dies y
    exact StepOK.pre S1 (storeOK R1 hd ho h)
  | alloc T => exact allocOK R hb hd ho h0
  | box T x =>
    simp only [stepOp, ho] at h
    obtain ⟨g1, R1, S1⟩ := preShare_sound R H.dies x
    exact StepOK.pre S1 (boxOK R1 (S1.baseOk hb) hd ho h)
  | build T parts =>
    simp only [stepOp, ho] at h
    obtain ⟨g1, R1, S1⟩ := preShares_sound H.dies parts.toList R
    exact StepOK.pre S1 (buildOK Tb R1 hd ho h)
  | buildSlice T n parts => exact buildSliceOK R hd ho h0
  | makeFunc fn first cap =>
    cases fn with
    | func f => exact makeFuncOK R hd ho h0
    | _ => simp [stepOp, ho, stepA] at h
  | makeSlice T l c =>
    simp only [stepOp, ho] at h
    split at h
    · rename_i d hdst
      simp only [Option.map_eq_some_iff] at h
      obtain ⟨z, hz, rfl⟩ := h
      exact makeSliceOK R hdst (hd d hdst) ho hz
    · cases h
  | call c =>
    simp only [stepOp, ho] at h
    have hnm : ¬ makes P st o := by
      rintro (⟨_, _, _, e⟩ | ⟨_, _, _, e, _⟩) <;> (rw [ho] at e; cases e)
    cases hc : c.callee with
    | builtin b =>
      simp only [hc] at h
      split at h
      · rename_i e; cases e
        split at h
        · rename_i x y T Ts hargs hT
          split at h
          · rename_i st1 n hop
            cases h
            exact copyOK Tb R hd ho hc hargs hT hop
          · cases h
        · cases h
      · rename_i e; cases e
        split at h
        · rename_i x y T U hargs hT
          split at h
          · rename_i hU
            split at h
            · rename_i st1 v hop
              cases h
              exact appendOK R hd ho hc hargs hT hU hop
            · cases h
          · cases h
        · cases h
      · exact pure' hnm h
      · rename_i e; cases e
      · cases h
    | value fo =>
      simp only [hc] at h
      split at h
      · rename_i f cap hf; exact callOK R hb hcall hd ho hc hf h
      · cases h
    | invoke r n => simp [hc] at h
  | convert s d x =>
    simp only [stepOp, ho] at h
    by_cases hm : makes P st o
    · rcases hm with ⟨_, _, _, e⟩ | ⟨s', d', x', e, e', str, hd', hx'⟩
      · rw [ho] at e; cases e
      · rw [ho] at e; cases e
        simp only [Option.map_eq_some_iff, stepA, ho] at h
        obtain ⟨z, hz, rfl⟩ := h
        obtain ⟨h1, h2, rfl⟩ := conv_bytes hz hd' hx'
        exact bytesOK R hd ho h1 hd' h2 hx'
    · exact pure' hm h
  | load T x =>
    simp only [stepOp, ho] at h
    have plain : ∀ {st1 : St} {g1 : G}, Rel g1 w a.tmps st1.fr st1.hp → StepR st st1 g w g1 w → (stepA P st1 o).map (fun v => setSlot st1 o.dst v) = some st' → StepOK P a o st st' g w := fun {st1 g1} R1 S1 h => by
      simp only [Option.map_eq_some_iff] at h
      obtain ⟨z, hz, rfl⟩ := h
      have hm : ¬ makes P st1 o := by rintro (⟨_, _, _, e⟩ | ⟨_, _, _, e, _⟩) <;> (rw [ho] at e; cases e)
      exact StepOK.pre S1 (pureOK Tb R1 o hd hz hm)
    split at h
    · rename_i t0 off0 _
      split at h
      · obtain ⟨g1, R1, S1, _⟩ := shareRange_sound R (.slot t0) off0 (sizeT P T)
        exact plain R1 S1 h
      · exact plain R (StepR.refl _ _ _) h
    · rename_i t0 off0 _
      split at h
      · obtain ⟨g1, R1, S1, _⟩ := shareRange_sound R (.heap t0) off0 (sizeT P T)
        exact plain R1 S1 h
      · exact plain R (StepR.refl _ _ _) h
    · exact plain R (StepR.refl _ _ _) h
  | _ =>
    simp only [stepOp, ho] at h
    refine pure' ?_ h
    rintro (⟨_, _, _, e⟩ | ⟨_, _, _, e, _⟩) <;> (rw [ho] at e; cases e)
end
end Go.PS
end

section
/-
  Regions whose order is given.
-/
namespace Go.PS
section
variable {g g' g1 g2 : G} {w w' w1 w2 : World} {hn hn' : Nat} {tm : Array Value} {fr fr' : Fr} {hp hp' hp1 hp2 : Heap} {P : Program} {t : Nat}

/-- Behind a stretch of the code. -/
structure After (st st' : St) (g : G) (a : Act) (w : World) (a' : Act) (w' : World) : Prop where
  rel : ∃ g', Rel g' w' a'.tmps st'.fr st'.hp ∧ StepR st st' g w g' w'
  size : a'.tmps.size = a.tmps.size
  rest : a'.defers = a.defers

theorem Runs.wp {a : Act} {o : Oper} {K : Value → World → Prop} {next : Act → World → Prop} {Q : Exit → Act → World → Prop} (h : Runs P a o w K) (hK : ∀ v w', K v w' → next (a.put o.dst v) w') : o.wp P a w next Q := by
  unfold Runs at h
  unfold Oper.wp
  generalize (execOp a.eval o).run P w = r at *
  split at h
  · exact hK _ _ h
  · exact hK _ _ h
  · refine Calls.mono h fun e w'' he => ?_
    obtain ⟨v, rfl, hv⟩ := he
    exact hK _ _ hv
  · exact h.elim

theorem wanted_sound (R : Rel g w tm fr hp) {ops : Array Oper} {o : Oper} {b : Bool} (h : wantedP ops fr o = some b) : Region.wanted o (yielded ops tm) = b := by
  unfold wantedP at h
  unfold Region.wanted
  split at h
  · rename_i hg; cases h; simp [hg]
  · rename_i j want hg
    split at h
    · rename_i t hj
      split at h
      · rename_i c hc
        cases h
        have hs := R.slots t
        rw [hc] at hs
        have hv := hs.bool_inv
        have hlt := R.size t (by rw [hc]; simp)
        have hv' : tm[t]? = some (.bool c) := by
          rw [Array.getElem?_eq_getElem hlt]
          simpa [Array.getD, hlt] using hv
        simp [hg, yielded, hj, hv']
      · rename_i cs hc
        cases h
        have hs := R.slots t
        rw [hc] at hs
        have hlt := R.size t (by rw [hc]; simp)
        have hv' : tm[t]? = some (tm.getD t Go.undef) := by
          rw [Array.getElem?_eq_getElem hlt]
          simp [Array.getD, hlt]
        have hv : tm.getD t Go.undef = .tuple cs := by
          generalize tm.getD t Go.undef = v at hs
          cases hs with | of hs => cases hs with | of hs => cases hs; rfl
        rw [hv] at hv'
        simp [hg, yielded, hj, hv']
      · cases h
    · cases h

theorem evalOps_sound (Tb : Tabs P) {H : Hint} {own : FuncId → Option Nat} {callF : CallF} (hcall : CallSound P callF) {ops : Array Oper} {Q : Exit → Act → World → Prop} : ∀ (l : List Oper) {st st' : St} {a : Act} {w : World} {g : G},
    Rel g w a.tmps st.fr st.hp → st.base ≤ st.hp.length → (∀ o ∈ l, ∀ d, o.dst = some d → d < a.tmps.size) → evalOps P H own callF ops l st = some st' →
    (∀ a' w', After st st' g a w a' w' → Q .normal a' w') → wpList P ops Q l a w
  | [], st, st', a, w, g, R, hb, hd, h, hQ => by
    cases h
    exact hQ a w ⟨⟨g, R, StepR.refl _ _ _⟩, rfl, rfl⟩
  | o :: l, st, st', a, w, g, R, hb, hd, h, hQ => by
    have hdo := hd o (by simp)
    have hsz : ∀ v, (a.put o.dst v).tmps.size = a.tmps.size := fun v => by cases o.dst <;> simp [Act.put]
    have hrest : ∀ v, (a.put o.dst v).defers = a.defers := fun v => by cases o.dst <;> rfl
    refine wpList_step fun K hK => ?_
    unfold evalOps at h
    split at h
    · rename_i hw
      rw [wanted_sound R hw]
      simp only [if_true]
      split at h
      · rename_i st1 hs
        refine (stepOp_sound Tb R hb hcall hdo hs).wp fun v w1 ⟨g1, R1, S1⟩ => hK _ _ ?_
        exact evalOps_sound Tb hcall l R1 (S1.baseOk hb) (fun o' ho' d hd' => by rw [hsz]; exact hd o' (by simp [ho']) d hd') h fun a' w' ⟨⟨g2, R2, S2⟩, h2, h3⟩ =>
          hQ a' w' ⟨⟨g2, R2, S1.trans S2⟩, h2.trans (hsz v), h3.trans (hrest v)⟩
      · cases h
    · rename_i hw
      rw [wanted_sound R hw]
      simp only [Bool.false_eq_true, if_false]
      refine hK _ _ ?_
      have hV : V g w st.hp.length Go.undef (.raw (.tuple #[])) := .raw _ rfl
      have R1 := R.putFlat hdo (fun t => hV.slot t) hV.lv
      have S1 : StepR st (setSlot st o.dst (.raw (.tuple #[]))) g w g w := (StepR.refl _ _ _).setSlot _ _
      exact evalOps_sound Tb hcall l R1 (S1.baseOk hb) (fun o' ho' d hd' => by rw [hsz]; exact hd o' (by simp [ho']) d hd') h fun a' w' ⟨⟨g2, R2, S2⟩, h2, h3⟩ =>
          hQ a' w' ⟨⟨g2, R2, S1.trans S2⟩, h2.trans (hsz _), h3.trans (hrest _)⟩
    · cases h
end
end Go.PS
end

section
/-
  Code.
-/
namespace Go.PS
section
variable {g g' g1 g2 : G} {w w' w1 w2 : World} {hn hn' : Nat} {tm : Array Value} {fr fr' : Fr} {hp hp' hp1 hp2 : Heap} {P : Program} {t : Nat}

theorem get_map (f : Nat → PV) : ∀ (keep : List Nat) (t : Nat), get (keep.map fun t => (t, f t)) t = if t ∈ keep then f t else .undef
  | [], t => rfl
  | k :: ks, t => by
    rw [List.map_cons, get_cons, get_map f ks t]
    by_cases h : k = t
    · subst h; simp
    · rw [if_neg h]
      by_cases h2 : t ∈ ks
      · simp [h2]
      · rw [if_neg h2, if_neg (by simp [h2, Ne.symm h])]

theorem keepRef_cases (keep : List Nat) (v : PV) : keepRef keep v = v ∨ keepRef keep v = .undef := by
  cases v with
  | ptr r pre off => cases r <;> simp [keepRef, Decidable.em]
  | hd r pre => cases r <;> simp [keepRef, Decidable.em]
  | vw r pre off sz n => cases r <;> simp [keepRef, Decidable.em]
  | _ => exact .inl rfl
theorem keepRef_ref {keep : List Nat} {v : PV} {t : Nat} {pre : Option Nat} (h : refOf (keepRef keep v) = some (.slot t, pre)) : refOf v = some (.slot t, pre) ∧ t ∈ keep := by
  cases v with
  | ptr r p off => cases r <;> simp only [keepRef] at h <;> (try split at h) <;> simp_all [refOf]
  | hd r p => cases r <;> simp only [keepRef] at h <;> (try split at h) <;> simp_all [refOf]
  | vw r p off sz n => cases r <;> simp only [keepRef] at h <;> (try split at h) <;> simp_all [refOf]
  | _ => cases h
theorem keepRef_rooty {keep : List Nat} {v : PV} (h : rooty v = true) : keepRef keep v = v := by
  cases v <;> first | rfl | cases h

theorem softAll_sound : ∀ (xs : List (Nat × Option Nat)) {st : St} {g : G}, Rel g w tm st.fr st.hp →
    ∃ g', Rel g' w tm (softAll xs st).fr (softAll xs st).hp ∧ StepR st (softAll xs st) g w g' w
  | [], st, g, R => ⟨g, R, StepR.refl _ _ _⟩
  | x :: xs, st, g, R => by
    have h1 : ∃ g', Rel g' w tm (soft1 st x).fr (soft1 st x).hp ∧ StepR st (soft1 st x) g w g' w := by
      unfold soft1
      split
      · rename_i st1 y h
        obtain ⟨g', R', S', _⟩ := shareAt_sound R h
        exact ⟨g', R', S'⟩
      · exact ⟨g, R, StepR.refl _ _ _⟩
    obtain ⟨g1, R1, S1⟩ := h1
    obtain ⟨g2, R2, S2⟩ := softAll_sound xs R1
    exact ⟨g2, R2, S1.trans S2⟩
theorem canon_sound {st : St} (R : Rel g w tm st.fr st.hp) (keep : List Nat) : Rel g w tm (canon keep st).fr (canon keep st).hp ∧ StepR st (canon keep st) g w g w := by
  refine ⟨?_, ⟨rfl, id, X.refl _ _ _ _ _⟩⟩
  show Rel g w tm (keep.map fun t => (t, keepRef keep (get st.fr t))) st.hp
  refine R.weaken (fun t => ?_) (fun t t' pre h => ?_)
  · rw [get_map]; split
    · exact keepRef_cases _ _
    · exact .inr rfl
  · rw [get_map] at h ⊢
    split at h
    · obtain ⟨h1, h2⟩ := keepRef_ref h
      rw [if_pos h2]
      exact keepRef_rooty (rooty_of_rootOk (R.live t t' pre h1))
    · cases h

theorem After.trans {st st1 st2 : St} {a a1 a2 : Act} (h : After st st1 g a w a1 w1) (h' : ∀ g1, Rel g1 w1 a1.tmps st1.fr st1.hp → StepR st st1 g w g1 w1 → After st1 st2 g1 a1 w1 a2 w2) : After st st2 g a w a2 w2 := by
  obtain ⟨⟨g1, R1, S1⟩, h2, h3⟩ := h
  obtain ⟨⟨g2, R2, S2⟩, h4, h5⟩ := h' g1 R1 S1
  exact ⟨⟨g2, R2, S1.trans S2⟩, h4.trans h2, h5.trans h3⟩

def exOf : Ex → Exit
  | .normal => .normal
  | .exit id => .exit id
  | .goto l => .goto l
  | .ret => .ret

def wfOps (n : Nat) (ops : List Oper) : Bool := ops.all fun o => match o.dst with | some d => decide (d < n) | none => true
theorem wfOps_spec {n : Nat} {ops : List Oper} (h : wfOps n ops = true) : ∀ o ∈ ops, ∀ d, o.dst = some d → d < n := fun o ho d hd => by
  have := List.all_eq_true.1 h o ho
  simpa [hd] using this
def wfCode (H : Hint) (n : Nat) : Code → Bool
  | .region id ops dr => wfOps n ops.toList && (!dr || drawChk ops (H.free id) (H.pairs id))
  | .seq a b => wfCode H n a && wfCode H n b
  | .cond _ a b => wfCode H n a && wfCode H n b
  | .block _ c | .loop c | .scope c => wfCode H n c
  | _ => true

theorem then_of {next : Act → World → Prop} {Q : Exit → Act → World → Prop} {e : Ex} {a : Act} {w : World} (h : e = .normal → next a w) (h' : e ≠ .normal → Q (exOf e) a w) : Exit.then next Q (exOf e) a w := by
  cases e with
  | normal => exact h rfl
  | exit id => exact h' (by simp)
  | goto l => exact h' (by simp)
  | ret => exact h' (by simp)

/-- What a region that asks for its order may do. -/
def DrawOK (P : Program) (H : Hint) (own : FuncId → Option Nat) (callF : CallF) (n : Nat) : Prop :=
  ∀ (id : Nat) (ops : Array Oper) (st st' : St) (a : Act) (w : World) (g : G) (Q : Exit → Act → World → Prop), wfOps n ops.toList = true → drawChk ops (H.free id) (H.pairs id) = true → a.tmps.size = n → Rel g w a.tmps st.fr st.hp → st.base ≤ st.hp.length →
    evalDraw P H own callF id ops st = some st' → (∀ a' w', After st st' g a w a' w' → Q .normal a' w') → (Code.region id ops true).wp P Q a w

theorem hasLabel_find (l : Nat) : ∀ c : Code, hasLabel l c = (findLabel c l).isSome
  | .seq a b => by
    simp only [hasLabel, findLabel, hasLabel_find l a, hasLabel_find l b]
    cases findLabel a l <;> simp
  | .label l' => by simp only [hasLabel, findLabel]; split <;> simp_all
  | .skip | .region .. | .cond .. | .block .. | .loop .. | .rangeFunc .. | .exit _ | .scope _ | .goto _ | .ret | .refuse _ => rfl

def Code.jumps (P : Program) (body : Code) (Q : Exit → Act → World → Prop) : Nat → Code → Act → World → Prop
  | 0, _, _, _ => False
  | n + 1, c, a, w => c.wp P (fun e a w => match e with
    | .goto l => (match findLabel body l with
      | some rest => Code.jumps P body Q n rest a w
      | none => Q (.goto l) a w)
    | e => Q e a w) a w

theorem wp_scope_jumps {body : Code} {Q : Exit → Act → World → Prop} {a : Act} (n : Nat) (h : Code.jumps P body Q n body a w) : (Code.scope body).wp P Q a w := by
  intro b k cs
  have key : ∀ n c a w, Code.jumps P body Q n c a w → ∃ e a' w', Q e a' w' ∧ Arrives P (lone (b.at a (.code c :: .inScope body :: k)) cs w) b k cs e a' w' := by
    intro n
    induction n with
    | zero => intro c a w h; exact h.elim
    | succ n ih =>
      intro c a w h
      obtain ⟨e, a₁, w₁, hq, harr⟩ := h b (.inScope body :: k) cs
      cases e with
      | normal => exact ⟨.normal, a₁, w₁, hq, Steps.trans harr (.one step_inScope)⟩
      | exit id => exact ⟨.exit id, a₁, w₁, hq, fun k' hk => harr k' (by simp [exitTo, hk])⟩
      | goto l =>
        simp only at hq
        cases hf : findLabel body l with
        | none =>
          rw [hf] at hq
          exact ⟨.goto l, a₁, w₁, hq, fun k' hk => harr k' (by simp [gotoIn, hf, hk])⟩
        | some rest =>
          rw [hf] at hq
          obtain ⟨e₂, a₂, w₂, hq₂, harr₂⟩ := ih rest a₁ w₁ hq
          exact ⟨e₂, a₂, w₂, hq₂, .of_steps (harr _ (by simp [gotoIn, hf])) harr₂⟩
      | ret => exact ⟨_, a₁, w₁, hq, harr⟩
      | panic ch => exact ⟨_, a₁, w₁, hq, harr⟩
      | outgrown => exact ⟨_, a₁, w₁, hq, harr⟩
  obtain ⟨e, a', w', hq, harr⟩ := key n body a w h
  exact ⟨e, a', w', hq, .of_steps (.one step_scope) harr⟩

theorem jumps_of {body : Code} {Q : Exit → Act → World → Prop} {e : Ex} {a : Act} {n : Nat} (h : ∀ l, e = .goto l → (match findLabel body l with | some rest => Code.jumps P body Q n rest a w | none => Q (.goto l) a w)) (h' : (∀ l, e ≠ .goto l) → Q (exOf e) a w) :
    (fun (e : Exit) a w => match e with
    | .goto l => (match findLabel body l with
      | some rest => Code.jumps P body Q n rest a w
      | none => Q (.goto l) a w)
    | e => Q e a w) (exOf e) a w := by
  cases e with
  | normal => exact h' (by simp)
  | exit id => exact h' (by simp)
  | goto l => exact h l rfl
  | ret => exact h' (by simp)

mutual
theorem evalCode_sound (Tb : Tabs P) {H : Hint} {own : FuncId → Option Nat} {callF : CallF} (hcall : CallSound P callF) {nt : Nat} (hdraw : DrawOK P H own callF nt) (n : Nat) : ∀ (c : Code) {st st' : St} {e : Ex} {a : Act} {w : World} {g : G} {Q : Exit → Act → World → Prop},
    wfCode H nt c = true → a.tmps.size = nt → Rel g w a.tmps st.fr st.hp → st.base ≤ st.hp.length → evalCode P H own callF n c none st = some (e, st') →
    (∀ a' w', After st st' g a w a' w' → Q (exOf e) a' w') → c.wp P Q a w
  | .seq x y, st, st', e, a, w, g, Q, hwf, hn, R, hb, h, hQ => by
    simp only [wfCode, Bool.and_eq_true] at hwf
    unfold evalCode at h
    split at h
    · rename_i st1 h1
      refine wp_seq (evalCode_sound Tb hcall hdraw n x hwf.1 hn R hb h1 fun a1 w1 A1 => ?_)
      obtain ⟨⟨g1, R1, S1⟩, h2, h3⟩ := A1
      exact evalCode_sound Tb hcall hdraw n y hwf.2 (h2.trans hn) R1 (S1.baseOk hb) h fun a2 w2 ⟨⟨g2, R2, S2⟩, h4, h5⟩ => hQ a2 w2 ⟨⟨g2, R2, S1.trans S2⟩, h4.trans h2, h5.trans h3⟩
    · rename_i hne
      refine wp_seq (evalCode_sound Tb hcall hdraw n x hwf.1 hn R hb h fun a1 w1 A1 => then_of (fun he => ?_) fun _ => hQ a1 w1 A1)
      subst he
      exact (hne _ h).elim
  | .skip, st, st', e, a, w, g, Q, hwf, hn, R, hb, h, hQ => by
    simp only [evalCode, Option.some.injEq, Prod.mk.injEq] at h
    obtain ⟨rfl, rfl⟩ := h
    exact wp_skip (hQ a w ⟨⟨g, R, StepR.refl _ _ _⟩, rfl, rfl⟩)
  | .label l, st, st', e, a, w, g, Q, hwf, hn, R, hb, h, hQ => by
    simp only [evalCode, Option.some.injEq, Prod.mk.injEq] at h
    obtain ⟨rfl, rfl⟩ := h
    exact wp_label (hQ a w ⟨⟨g, R, StepR.refl _ _ _⟩, rfl, rfl⟩)
  | .exit id, st, st', e, a, w, g, Q, hwf, hn, R, hb, h, hQ => by
    simp only [evalCode, Option.some.injEq, Prod.mk.injEq] at h
    obtain ⟨rfl, rfl⟩ := h
    exact wp_exit (hQ a w ⟨⟨g, R, StepR.refl _ _ _⟩, rfl, rfl⟩)
  | .goto l, st, st', e, a, w, g, Q, hwf, hn, R, hb, h, hQ => by
    simp only [evalCode, Option.some.injEq, Prod.mk.injEq] at h
    obtain ⟨rfl, rfl⟩ := h
    exact wp_goto (hQ a w ⟨⟨g, R, StepR.refl _ _ _⟩, rfl, rfl⟩)
  | .ret, st, st', e, a, w, g, Q, hwf, hn, R, hb, h, hQ => by
    simp only [evalCode, Option.some.injEq, Prod.mk.injEq] at h
    obtain ⟨rfl, rfl⟩ := h
    exact wp_ret (hQ a w ⟨⟨g, R, StepR.refl _ _ _⟩, rfl, rfl⟩)
  | .region id ops dr, st, st', e, a, w, g, Q, hwf, hn, R, hb, h, hQ => by
    simp only [wfCode, Bool.and_eq_true, Bool.or_eq_true, Bool.not_eq_true'] at hwf
    simp only [evalCode] at h
    split at h
    · rename_i st1 h1
      simp only [Option.some.injEq, Prod.mk.injEq] at h
      obtain ⟨rfl, rfl⟩ := h
      have fin : ∀ a' w', After st st1 g a w a' w' → Q .normal a' w' := fun a' w' ⟨⟨g1, R1, S1⟩, h2, h3⟩ => by
        obtain ⟨g2, R2, S2⟩ := softAll_sound (H.soft id) R1
        obtain ⟨R3, S3⟩ := canon_sound R2 (H.keep id)
        exact hQ a' w' ⟨⟨g2, R3, S1.trans (S2.trans S3)⟩, h2, h3⟩
      cases dr with
      | true =>
        rcases hwf.2 with h' | h'
        · cases h'
        · exact hdraw id ops st st1 a w g Q hwf.1 h' hn R hb (by simpa using h1) fin
      | false => exact wp_region_list (evalOps_sound Tb hcall ops.toList R hb (by rw [hn]; exact wfOps_spec hwf.1) (by simpa using h1) fin)
    · cases h
  | .cond c x y, st, st', e, a, w, g, Q, hwf, hn, R, hb, h, hQ => by
    simp only [wfCode, Bool.and_eq_true] at hwf
    obtain ⟨⟨tc, hc⟩, _⟩ := opv_sound R a rfl c
    simp only [evalCode] at h
    split at h
    · rename_i hb'; rw [hb'] at hc
      exact wp_cond_true hc.bool_inv (evalCode_sound Tb hcall hdraw n x hwf.1 hn R hb h hQ)
    · rename_i hb'; rw [hb'] at hc
      exact wp_cond_false hc.bool_inv (evalCode_sound Tb hcall hdraw n y hwf.2 hn R hb h hQ)
    · cases h
  | .block id b, st, st', e, a, w, g, Q, hwf, hn, R, hb, h, hQ => by
    simp only [wfCode] at hwf
    simp only [evalCode] at h
    refine wp_block ?_
    split at h
    · rename_i id' st1 h1
      refine evalCode_sound Tb hcall hdraw n b hwf hn R hb h1 fun a1 w1 A1 => ?_
      simp only [exOf, Exit.inBlock]
      split at h
      · rename_i he; subst he; cases h; simp only [if_true]; exact hQ a1 w1 A1
      · rename_i he; cases h; rw [if_neg he]; exact hQ a1 w1 A1
    · rename_i hne
      refine evalCode_sound Tb hcall hdraw n b hwf hn R hb h fun a1 w1 A1 => ?_
      cases e with
      | exit id' => exact (hne _ _ h).elim
      | normal => exact hQ a1 w1 A1
      | goto l => exact hQ a1 w1 A1
      | ret => exact hQ a1 w1 A1
  | .loop b, st, st', e, a, w, g, Q, hwf, hn, R, hb, h, hQ => by
    simp only [wfCode] at hwf
    simp only [evalCode] at h
    refine wp_loop_rounds n ?_
    have key : ∀ (k : Nat) {st : St} {a : Act} {w : World} {g : G}, a.tmps.size = nt → Rel g w a.tmps st.fr st.hp → st.base ≤ st.hp.length →
        iter (fun st => evalCode P H own callF n b none (canon (H.head (firstReg b)) st)) k st = some (e, st') → (∀ a' w', After st st' g a w a' w' → Q (exOf e) a' w') → Code.rounds P b Q k a w := by
      intro k
      induction k with
      | zero => intro st a w g _ _ _ h; cases h
      | succ k ih =>
        intro st a w g hn R hb h hQ
        unfold iter at h
        obtain ⟨R0, S0⟩ := canon_sound R (H.head (firstReg b))
        have hb0 := S0.baseOk hb
        split at h
        · rename_i st1 h1
          refine evalCode_sound Tb hcall hdraw n b hwf hn R0 hb0 h1 fun a1 w1 A1 => ?_
          obtain ⟨⟨g1, R1, S1⟩, h2, h3⟩ := A1
          exact ih (h2.trans hn) R1 (S1.baseOk hb0) h fun a2 w2 ⟨⟨g2, R2, S2⟩, h4, h5⟩ => hQ a2 w2 ⟨⟨g2, R2, (S0.trans S1).trans S2⟩, h4.trans h2, h5.trans h3⟩
        · rename_i hne
          refine evalCode_sound Tb hcall hdraw n b hwf hn R0 hb0 h fun a1 w1 ⟨⟨g1, R1, S1⟩, h2, h3⟩ => then_of (fun he => ?_) fun _ => hQ a1 w1 ⟨⟨g1, R1, S0.trans S1⟩, h2, h3⟩
          subst he
          exact (hne _ h).elim
    exact key n hn R hb h hQ
  | .scope b, st, st', e, a, w, g, Q, hwf, hn, R, hb, h, hQ => by
    simp only [wfCode] at hwf
    simp only [evalCode] at h
    refine wp_scope_jumps n ?_
    have key : ∀ (k : Nat) (j : Option Nat) (c : Code) {st : St} {a : Act} {w : World} {g : G}, (j = none ∧ c = b ∨ ∃ l, j = some l ∧ findLabel b l = some c) → a.tmps.size = nt → Rel g w a.tmps st.fr st.hp → st.base ≤ st.hp.length →
        scopeIter (evalCode P H own callF n b) (fun l => hasLabel l b) H.head k j st = some (e, st') → (∀ a' w', After st st' g a w a' w' → Q (exOf e) a' w') → Code.jumps P b Q k c a w := by
      intro k
      induction k with
      | zero => intro j c st a w g _ _ _ _ h; cases h
      | succ k ih =>
        intro j c st a w g hj hn R hb h hQ
        unfold scopeIter at h
        have run : ∀ {e1 : Ex} {st1 : St} {Q1 : Exit → Act → World → Prop}, evalCode P H own callF n b j st = some (e1, st1) → (∀ a' w', After st st1 g a w a' w' → Q1 (exOf e1) a' w') → c.wp P Q1 a w := fun {e1 st1 Q1} h1 hQ1 => by
          rcases hj with ⟨rfl, rfl⟩ | ⟨l, rfl, hf⟩
          · exact evalCode_sound Tb hcall hdraw n c hwf hn R hb h1 hQ1
          · exact evalFrom_sound Tb hcall hdraw n b l c hf hwf hn R hb h1 hQ1
        unfold Code.jumps
        split at h
        · rename_i l st1 h1
          refine run h1 fun a1 w1 A1 => ?_
          simp only [exOf]
          split at h
          · rename_i hl
            rw [hasLabel_find] at hl
            obtain ⟨rest, hr⟩ := Option.isSome_iff_exists.1 hl
            rw [hr]
            obtain ⟨⟨g1, R1, S1⟩, h2, h3⟩ := A1
            obtain ⟨R2, S2⟩ := canon_sound R1 (H.head (1000 + l))
            exact ih (some l) rest (.inr ⟨l, rfl, hr⟩) (h2.trans hn) R2 (S2.baseOk (S1.baseOk hb)) h fun a2 w2 ⟨⟨g2, R3, S3⟩, h4, h5⟩ => hQ a2 w2 ⟨⟨g2, R3, (S1.trans S2).trans S3⟩, h4.trans h2, h5.trans h3⟩
          · rename_i hl
            rw [hasLabel_find] at hl
            have hr : findLabel b l = none := by simpa using hl
            rw [hr]
            simp only [Option.some.injEq, Prod.mk.injEq] at h
            obtain ⟨rfl, rfl⟩ := h
            exact hQ a1 w1 A1
        · rename_i hne
          refine run h fun a1 w1 A1 => jumps_of (fun l he => ?_) fun _ => hQ a1 w1 A1
          subst he
          exact (hne _ _ h).elim
    exact key n none b (.inl ⟨rfl, rfl⟩) hn R hb h hQ
  | .rangeFunc .., st, st', e, a, w, g, Q, hwf, hn, R, hb, h, hQ => by simp [evalCode] at h
  | .refuse _, st, st', e, a, w, g, Q, hwf, hn, R, hb, h, hQ => by simp [evalCode] at h

theorem evalFrom_sound (Tb : Tabs P) {H : Hint} {own : FuncId → Option Nat} {callF : CallF} (hcall : CallSound P callF) {nt : Nat} (hdraw : DrawOK P H own callF nt) (n : Nat) : ∀ (c : Code) (l : Nat) (rest : Code) {st st' : St} {e : Ex} {a : Act} {w : World} {g : G} {Q : Exit → Act → World → Prop},
    findLabel c l = some rest → wfCode H nt c = true → a.tmps.size = nt → Rel g w a.tmps st.fr st.hp → st.base ≤ st.hp.length → evalCode P H own callF n c (some l) st = some (e, st') →
    (∀ a' w', After st st' g a w a' w' → Q (exOf e) a' w') → rest.wp P Q a w
  | .seq x y, l, rest, st, st', e, a, w, g, Q, hf, hwf, hn, R, hb, h, hQ => by
    simp only [wfCode, Bool.and_eq_true] at hwf
    unfold evalCode at h
    rw [hasLabel_find] at h
    simp only [findLabel] at hf
    split at hf
    · rename_i r1 hf1
      cases hf
      rw [hf1] at h
      simp only [Option.isSome_some, if_true] at h
      split at h
      · rename_i st1 h1
        refine wp_seq (evalFrom_sound Tb hcall hdraw n x l r1 hf1 hwf.1 hn R hb h1 fun a1 w1 A1 => ?_)
        obtain ⟨⟨g1, R1, S1⟩, h2, h3⟩ := A1
        exact evalCode_sound Tb hcall hdraw n y hwf.2 (h2.trans hn) R1 (S1.baseOk hb) h fun a2 w2 ⟨⟨g2, R2, S2⟩, h4, h5⟩ => hQ a2 w2 ⟨⟨g2, R2, S1.trans S2⟩, h4.trans h2, h5.trans h3⟩
      · rename_i hne
        refine wp_seq (evalFrom_sound Tb hcall hdraw n x l r1 hf1 hwf.1 hn R hb h fun a1 w1 A1 => then_of (fun he => ?_) fun _ => hQ a1 w1 A1)
        subst he
        exact (hne _ h).elim
    · rename_i hf1
      rw [hf1] at h
      simp only [Option.isSome_none, Bool.false_eq_true, if_false] at h
      exact evalFrom_sound Tb hcall hdraw n y l rest hf hwf.2 hn R hb h hQ
  | .label l', l, rest, st, st', e, a, w, g, Q, hf, hwf, hn, R, hb, h, hQ => by
    simp only [findLabel] at hf
    split at hf
    · rename_i he
      cases hf
      have he : l' = l := by simpa using he
      simp only [evalCode, he, if_true, Option.some.injEq, Prod.mk.injEq] at h
      obtain ⟨rfl, rfl⟩ := h
      exact wp_skip (hQ a w ⟨⟨g, R, StepR.refl _ _ _⟩, rfl, rfl⟩)
    · cases hf
  | .skip, _, _, _, _, _, _, _, _, _, hf, _, _, _, _, _, _ => by cases hf
  | .region .., _, _, _, _, _, _, _, _, _, hf, _, _, _, _, _, _ => by cases hf
  | .cond .., _, _, _, _, _, _, _, _, _, hf, _, _, _, _, _, _ => by cases hf
  | .block .., _, _, _, _, _, _, _, _, _, hf, _, _, _, _, _, _ => by cases hf
  | .loop .., _, _, _, _, _, _, _, _, _, hf, _, _, _, _, _, _ => by cases hf
  | .rangeFunc .., _, _, _, _, _, _, _, _, _, hf, _, _, _, _, _, _ => by cases hf
  | .exit _, _, _, _, _, _, _, _, _, _, hf, _, _, _, _, _, _ => by cases hf
  | .scope _, _, _, _, _, _, _, _, _, _, hf, _, _, _, _, _, _ => by cases hf
  | .goto _, _, _, _, _, _, _, _, _, _, hf, _, _, _, _, _, _ => by cases hf
  | .ret, _, _, _, _, _, _, _, _, _, hf, _, _, _, _, _, _ => by cases hf
  | .refuse _, _, _, _, _, _, _, _, _, _, hf, _, _, _, _, _, _ => by cases hf
end
end
end Go.PS
end

section
/-
  Regions that ask for their order: what an operation's answer hangs on.
-/
namespace Go.PS
section
variable {g g' g1 g2 : G} {w w' w1 w2 : World} {hn hn' : Nat} {tm : Array Value} {fr fr' : Fr} {hp hp' hp1 hp2 : Heap} {P : Program} {t : Nat} {st s2 : St}

def SameRoot (st s2 : St) (v : PV) : Prop := ∀ r pre, refOf v = some (r, pre) → rootPV s2 r = rootPV st r

theorem nav_same {r : Root} {pre : Option Nat} (h : rootPV s2 r = rootPV st r) : nav s2 r pre = nav st r pre := by unfold nav; rw [h]
theorem navS_same {r : Root} {pre : Option Nat} (h : rootPV s2 r = rootPV st r) : navS s2 r pre = navS st r pre := by unfold navS; rw [nav_same h]
theorem content_same {x : PV} (h : SameRoot st s2 x) : content s2 x = content st x := by
  cases x with
  | hd r pre => simp only [content]; rw [navS_same (h r pre rfl)]
  | vw r pre off sz n => simp only [content]; rw [nav_same (h r pre rfl)]
  | _ => rfl
theorem lenOf_same {x : PV} (h : SameRoot st s2 x) : lenOf s2 x = lenOf st x := by
  cases x with
  | hd r pre => simp only [lenOf]; rw [navS_same (h r pre rfl)]
  | _ => rfl
theorem load_same {T : TypeId} {x : PV} (h : SameRoot st s2 x) : load P s2 T x = load P st T x := by
  cases x with
  | ptr r pre off => simp only [load]; rw [nav_same (h r pre rfl)]
  | _ => rfl
theorem sliceOp_same {T : TypeId} {x : PV} {lo hi mx : Option PV} (h : SameRoot st s2 x) : sliceOp P s2 T x lo hi mx = sliceOp P st T x lo hi mx := by
  unfold sliceOp
  cases P.underlying T with
  | none => rfl
  | some d => cases d <;> cases x <;> first | rfl | (simp only; rw [navS_same (h _ _ rfl)])
theorem indexAddr_same {T : TypeId} {x i : PV} (h : SameRoot st s2 x) : indexAddr P s2 T x i = indexAddr P st T x i := by
  unfold indexAddr
  cases i with
  | int k n =>
    simp only
    cases P.underlying T with
    | none => rfl
    | some d => cases d <;> cases x <;> first | rfl | (simp only; rw [navS_same (h _ _ rfl)])
  | _ => rfl
theorem conv_same {S D : TypeId} {x : PV} (h : SameRoot st s2 x) : conv P s2 S D x = conv P st S D x := by
  unfold conv
  cases P.underlying S with
  | none => rfl
  | some d => cases P.underlying D with
    | none => cases d <;> rfl
    | some d' => cases d <;> cases d' <;> cases x <;> first | rfl | (simp only; rw [content_same h])

/-- The pure operations' answers hang on their operands and on what these show. -/
theorem stepA_same {o : Oper} (hv : ∀ x ∈ o.op.operands.toList, opv s2.fr x = opv st.fr x) (hm : ∀ t, Operand.tmp t ∈ o.op.operands.toList → get s2.fr t = get st.fr t)
    (hr : plainOp o.op = true ∨ ∀ x ∈ o.op.operands.toList, SameRoot st s2 (opv st.fr x)) : stepA P s2 o = stepA P st o := by
  have nr : plainOp o.op = false → ∀ x ∈ o.op.operands.toList, SameRoot st s2 (opv st.fr x) := fun h => by
    rcases hr with h' | h'
    · rw [h] at h'; cases h'
    · exact h'
  unfold stepA
  cases ho : o.op with
  | move x =>
    rw [ho] at hv hm
    simp only [Op.operands] at hv hm
    cases x with
    | tmp t => simp only; rw [hm t (by simp)]
    | _ => simp only; rw [hv _ (by simp)]
  | pick c a b => rw [ho] at hv; simp only [Op.operands] at hv; simp only; rw [hv c (by simp), hv a (by simp), hv b (by simp)]
  | load T a =>
    rw [ho] at hv nr; simp only [Op.operands] at hv nr
    simp only; rw [hv a (by simp), load_same (nr rfl a (by simp))]
  | nilCheck x => rw [ho] at hv; simp only [Op.operands] at hv; simp only; rw [hv x (by simp)]
  | fieldAddr T x i => rw [ho] at hv; simp only [Op.operands] at hv; simp only; rw [hv x (by simp)]
  | field T x i => rw [ho] at hv; simp only [Op.operands] at hv; simp only; rw [hv x (by simp)]
  | indexAddr T x i =>
    rw [ho] at hv nr; simp only [Op.operands] at hv nr
    simp only; rw [hv x (by simp), hv i (by simp), indexAddr_same (nr rfl x (by simp))]
  | index T x i => rw [ho] at hv; simp only [Op.operands] at hv; simp only; rw [hv x (by simp), hv i (by simp)]
  | binOp op T x y U => rw [ho] at hv; simp only [Op.operands] at hv; simp only; rw [hv x (by simp), hv y (by simp)]
  | unOp op T x => rw [ho] at hv; simp only [Op.operands] at hv; simp only; rw [hv x (by simp)]
  | convert a b x =>
    rw [ho] at hv nr; simp only [Op.operands] at hv nr
    simp only; rw [hv x (by simp), conv_same (nr rfl x (by simp))]
  | slice T x lo hi mx =>
    rw [ho] at hv nr; simp only [Op.operands] at hv nr
    simp only
    rw [hv x (by simp), sliceOp_same (nr rfl x (by simp))]
    have e : ∀ z : Option Operand, (∀ y, z = some y → opv s2.fr y = opv st.fr y) → z.map (opv s2.fr) = z.map (opv st.fr) := fun z hz => by
      cases z with
      | none => rfl
      | some y => simp [hz y rfl]
    rw [e lo fun y h => hv y (by subst h; simp), e hi fun y h => hv y (by subst h; simp), e mx fun y h => hv y (by subst h; simp)]
  | extract x i => rw [ho] at hv; simp only [Op.operands] at hv; simp only; rw [hv x (by simp)]
  | makeSlice T l c => rw [ho] at hv; simp only [Op.operands] at hv; simp only; rw [hv l (by simp), hv c (by simp)]
  | call c =>
    rw [ho] at hv nr
    simp only [Op.operands] at hv nr
    have hargs : ∀ x ∈ c.args.toList, x ∈ c.operands.toList := fun x hx => by
      unfold Call.operands
      split <;> simp_all
    simp only
    cases hc : c.callee with
    | builtin b =>
      have hmap : c.args.toList.map (opv s2.fr) = c.args.toList.map (opv st.fr) := List.map_congr_left fun x hx => hv x (hargs x hx)
      cases b <;> simp only
      · cases ha : c.args.toList with
        | nil => rfl
        | cons x xs =>
          have hx := hargs x (by rw [ha]; simp)
          cases xs with
          | cons y ys => rfl
          | nil =>
            cases c.argTypes.toList with
            | nil => rfl
            | cons T Ts => cases Ts with
              | cons _ _ => rfl
              | nil =>
                simp only
                rw [hv x hx]
                have hl := lenOf_same (nr rfl x hx)
                cases P.underlying T with
                | none => rfl
                | some d => cases d <;> (try rfl)
                            simp only
                            generalize opv st.fr x = y at hl
                            cases y <;> first | rfl | (simp only; rw [hl])
      · rw [hmap]
      · rw [hmap]
    | _ => rfl
  | _ => rfl
end
end Go.PS
end

section
/-
  Regions that ask for their order: values that are handed over and leave everything as it is.
-/
namespace Go.PS
section
variable {g g' g1 g2 : G} {w w' w1 w2 : World} {hn hn' : Nat} {tm : Array Value} {fr fr' : Fr} {hp hp' hp1 hp2 : Heap} {P : Program} {t : Nat} {st s2 st1 : St}

def RootIf (st s2 : St) (v : PV) : Prop := (∀ r pre off, v ≠ .ptr r pre off) → SameRoot st s2 v

theorem navS_ow {r : Root} {pre : Option Nat} (h : (match navS st r pre with | some (.ow _, _, _) => true | _ => false) = true) : ∃ s n cs, navS st r pre = some (.ow s, n, cs) := by
  split at h
  · exact ⟨_, _, _, by assumption⟩
  · cases h

theorem takeV_ok {x v : PV} (hok : okV st x = true) (h : takeV st x = some (st1, v)) : st1 = st := by
  cases x with
  | hd r pre =>
    obtain ⟨s, n, cs, hn⟩ := navS_ow hok
    simp only [takeV, hn] at h
    cases h; rfl
  | vw r pre off sz n =>
    obtain ⟨s, m, cs, hn⟩ := navS_ow hok
    simp only [takeV, hn] at h
    split at h
    · cases h; rfl
    · cases h
  | _ => first | (simp only [takeV] at h; cases h; rfl) | (simp [takeV] at h)
theorem takeV_same {x v : PV} (hok : okV st x = true) (h : takeV st x = some (st1, v)) (hr : RootIf st s2 x) : takeV s2 x = some (s2, v) ∧ okV s2 x = true := by
  cases x with
  | hd r pre =>
    have hn' := navS_same (pre := pre) (hr (by simp) r pre rfl)
    obtain ⟨s, n, cs, hn⟩ := navS_ow hok
    simp only [takeV, hn] at h
    cases h
    refine ⟨by simp only [takeV, hn', hn], by simp only [okV, hn', hn]⟩
  | vw r pre off sz n =>
    have hn' := navS_same (pre := pre) (hr (by simp) r pre rfl)
    obtain ⟨s, m, cs, hn⟩ := navS_ow hok
    simp only [takeV, hn] at h
    split at h
    · rename_i hle
      cases h
      exact ⟨by simp only [takeV, hn', hn]; rw [if_pos hle], by simp only [okV, hn', hn]⟩
    · cases h
  | sl g n cs => simp only [takeV] at h; cases h; exact ⟨rfl, by cases g <;> exact hok⟩
  | agg cs => simp only [takeV] at h; cases h; exact ⟨rfl, hok⟩
  | box cs => simp [takeV] at h
  | undef => simp [takeV] at h
  | _ => simp only [takeV] at h; cases h; exact ⟨rfl, rfl⟩

theorem take_eq {x : Operand} (hok : okOp st x = true) : take st x = takeV st (opv st.fr x) := by
  cases x with
  | tmp t =>
    simp only [okOp] at hok
    cases ho : opv st.fr (.tmp t) with
    | sl g n cs =>
      rw [ho] at hok
      cases g <;> first | (simp [okV] at hok; done) | (simp [take, ho])
    | agg cs =>
      rw [ho] at hok
      have hl : cs.all lasting = true := hok
      simp only [take, ho, hl, if_true, takeV]
    | _ => simp [take, ho]
  | const u =>
    unfold take
    split <;> first | rfl | exact absurd ‹Operand.const u = Operand.tmp _› (by simp)
  | global n => simp [take, opv, takeV]
  | func f => simp [take, opv, takeV]

theorem const_ok (u : Value) : okV st (ofConst u) = true ∨ (∃ n, ofConst u = .sl (.mu n) 0 []) ∨ ofConst u = .undef := by
  cases u <;> simp only [ofConst] <;> first | (exact .inl rfl) | (repeat' split) <;> first | (exact .inl rfl) | (exact .inr (.inl ⟨_, rfl⟩)) | (exact .inr (.inr rfl)) | (simp; done) | (right; right; trivial)

theorem take_ok {x : Operand} {v : PV} (hok : okOp st x = true) (h : take st x = some (st1, v)) : st1 = st := by
  rw [take_eq hok] at h
  cases x with
  | tmp t => exact takeV_ok hok h
  | const u =>
    rcases const_ok (st := st) u with h1 | ⟨n, h1⟩ | h1
    · exact takeV_ok h1 h
    · simp only [opv, h1, takeV] at h; cases h; rfl
    · simp [opv, h1, takeV] at h
  | global n => cases hok
  | func f => simp only [opv, takeV] at h; cases h; rfl
theorem take_same {x : Operand} {v : PV} (hok : okOp st x = true) (h : take st x = some (st1, v)) (hv : opv s2.fr x = opv st.fr x) (hr : RootIf st s2 (opv st.fr x)) : take s2 x = some (s2, v) ∧ okOp s2 x = true := by
  rw [take_eq hok] at h
  cases x with
  | tmp t =>
    obtain ⟨h1, h2⟩ := takeV_same hok h hr
    have hok2 : okOp s2 (.tmp t) = true := by simp only [okOp]; rw [hv]; exact h2
    rw [take_eq hok2, hv]
    exact ⟨h1, hok2⟩
  | const u =>
    rw [take_eq (by rfl)]
    refine ⟨?_, rfl⟩
    rcases const_ok (st := st) u with h1 | ⟨n, h1⟩ | h1
    · exact (takeV_same h1 h hr).1
    · simp only [opv, h1, takeV] at h ⊢; cases h; rfl
    · simp [opv, h1, takeV] at h
  | global n => cases hok
  | func f => rw [take_eq (by rfl)]; simp only [opv, takeV] at h ⊢; cases h; exact ⟨rfl, rfl⟩

theorem preShare_ok {dies : Nat → Bool} {x : Operand} (hok : okOp st x = true) : preShare dies st x = st := by
  unfold preShare
  split
  · rename_i t r pre ho
    split
    · rfl
    · simp only [okOp, ho] at hok
      obtain ⟨s, n, cs, hn⟩ := navS_ow hok
      simp only [shareAt, hn]
  · rfl
theorem preShares_ok {dies : Nat → Bool} : ∀ (xs : List (Nat × Operand)), (∀ p ∈ xs, okOp st p.2 = true) → xs.foldl (fun st p => preShare dies st p.2) st = st
  | [], _ => rfl
  | x :: xs, h => by
    rw [List.foldl_cons, preShare_ok (h x (by simp))]
    exact preShares_ok xs fun p hp => h p (by simp [hp])

theorem takeOut_ok {x : Operand} {v : PV} (hok : okOp st x = true) (h : takeOut st x = some (st1, v)) : st1 = st := by
  unfold takeOut at h
  split at h
  · rename_i r pre ho
    cases x with
    | tmp t =>
      simp only [okOp, ho] at hok
      obtain ⟨s, n, cs, hn⟩ := navS_ow hok
      simp only [shareAt, hn] at h
      cases h; rfl
    | const u => cases u <;> simp [opv, ofConst] at ho <;> (repeat' split at ho) <;> cases ho
    | global n => cases hok
    | func f => cases ho
  · split at h
    · rename_i st2 u ht
      split at h
      · cases h; exact take_ok hok ht
      · cases h
    · cases h
theorem takeOut_same {x : Operand} {v : PV} (hok : okOp st x = true) (h : takeOut st x = some (st1, v)) (hv : opv s2.fr x = opv st.fr x) (hr : RootIf st s2 (opv st.fr x)) : takeOut s2 x = some (s2, v) ∧ okOp s2 x = true := by
  unfold takeOut at h ⊢
  split at h
  · rename_i r pre ho
    cases x with
    | tmp t =>
      rw [ho] at hr
      have hn' := navS_same (pre := pre) (hr (by simp) r pre rfl)
      have hok' := hok
      simp only [okOp, ho] at hok
      obtain ⟨s, n, cs, hn⟩ := navS_ow hok
      simp only [shareAt, hn] at h
      cases h
      rw [hv, ho]
      simp only [shareAt, hn', hn]
      exact ⟨trivial, by simp only [okOp]; rw [hv, ho]; simp only [okV, hn', hn]⟩
    | const u => cases u <;> simp [opv, ofConst] at ho <;> (repeat' split at ho) <;> cases ho
    | global n => cases hok
    | func f => cases ho
  · rename_i hne
    split at h
    · rename_i st2 u ht
      split at h
      · rename_i hst
        cases h
        obtain ⟨h1, h2⟩ := take_same hok ht hv hr
        refine ⟨?_, h2⟩
        split
        · rename_i r pre ho
          rw [hv] at ho
          exact (hne r pre ho).elim
        · rw [h1]; simp only [hst, if_true]
      · cases h
    · cases h

theorem takeL_ok : ∀ {xs : List Operand} {vs : List PV} {st st1 : St}, xs.all (okOp st) = true → takeL st xs = some (st1, vs) → st1 = st
  | [], vs, st, st1, _, h => by cases h; rfl
  | x :: xs, vs, st, st1, hok, h => by
    simp only [List.all_cons, Bool.and_eq_true] at hok
    unfold takeL at h
    split at h
    · cases h
    · rename_i st2 v h1
      have := takeOut_ok hok.1 h1
      subst this
      split at h
      · cases h
      · rename_i st3 vs' h2
        cases h
        exact takeL_ok hok.2 h2
theorem takeL_same : ∀ {xs : List Operand} {vs : List PV} {st st1 s2 : St}, xs.all (okOp st) = true → takeL st xs = some (st1, vs) → (∀ x ∈ xs, opv s2.fr x = opv st.fr x) → (∀ x ∈ xs, RootIf st s2 (opv st.fr x)) → takeL s2 xs = some (s2, vs) ∧ xs.all (okOp s2) = true
  | [], vs, st, st1, s2, _, h, _, _ => by cases h; simp [takeL]
  | x :: xs, vs, st, st1, s2, hok, h, hv, hr => by
    simp only [List.all_cons, Bool.and_eq_true] at hok ⊢
    unfold takeL at h ⊢
    split at h
    · cases h
    · rename_i st2 v h1
      have := takeOut_ok hok.1 h1
      subst this
      split at h
      · cases h
      · rename_i st3 vs' h2
        cases h
        obtain ⟨a1, a2⟩ := takeOut_same hok.1 h1 (hv x (by simp)) (hr x (by simp))
        obtain ⟨b1, b2⟩ := takeL_same hok.2 h2 (fun y hy => hv y (by simp [hy])) (fun y hy => hr y (by simp [hy]))
        rw [a1]
        simp only [b1]
        first | exact ⟨rfl, a2, b2⟩ | exact ⟨trivial, a2, b2⟩

theorem buildL_ok {pl : Nat → Option (Nat × Nat)} : ∀ {parts : List (Nat × Operand)} {cs cs' : List PV} {st st1 : St}, parts.all (fun p => okOp st p.2) = true → buildL pl st cs parts = some (st1, cs') → st1 = st
  | [], cs, cs', st, st1, _, h => by cases h; rfl
  | (i, x) :: parts, cs, cs', st, st1, hok, h => by
    simp only [List.all_cons, Bool.and_eq_true] at hok
    unfold buildL at h
    split at h
    · rename_i off size st2 v h0 h1
      have := take_ok hok.1 h1
      subst this
      split at h
      · exact buildL_ok hok.2 h
      · cases h
    · cases h
theorem buildL_same {pl : Nat → Option (Nat × Nat)} : ∀ {parts : List (Nat × Operand)} {cs cs' : List PV} {st st1 s2 : St}, parts.all (fun p => okOp st p.2) = true → buildL pl st cs parts = some (st1, cs') →
    (∀ p ∈ parts, opv s2.fr p.2 = opv st.fr p.2) → (∀ p ∈ parts, RootIf st s2 (opv st.fr p.2)) → buildL pl s2 cs parts = some (s2, cs') ∧ parts.all (fun p => okOp s2 p.2) = true
  | [], cs, cs', st, st1, s2, _, h, _, _ => by cases h; simp [buildL]
  | (i, x) :: parts, cs, cs', st, st1, s2, hok, h, hv, hr => by
    simp only [List.all_cons, Bool.and_eq_true] at hok ⊢
    unfold buildL at h ⊢
    split at h
    · rename_i off size st2 v h0 h1
      have := take_ok hok.1 h1
      subst this
      obtain ⟨a1, a2⟩ := take_same hok.1 h1 (hv (i, x) (by simp)) (hr (i, x) (by simp))
      rw [h0, a1]
      simp only
      split at h
      · rename_i hc
        obtain ⟨b1, b2⟩ := buildL_same hok.2 h (fun y hy => hv y (by simp [hy])) (fun y hy => hr y (by simp [hy]))
        rw [if_pos hc]
        exact ⟨b1, a2, b2⟩
      · cases h
    · cases h

theorem opv_get {x : Operand} (h : ∀ t, x = .tmp t → get s2.fr t = get st.fr t) : opv s2.fr x = opv st.fr x := by
  cases x with
  | tmp t => simp only [opv]; rw [h t rfl]
  | _ => rfl
theorem refOf_const (u : Value) : refOf (ofConst u) = none := by
  unfold ofConst; split <;> rfl
theorem rootIf_get {x : Operand} (h : ∀ t, x = .tmp t → SameRoot st s2 (get st.fr t)) : RootIf st s2 (opv st.fr x) := by
  intro hp
  cases x with
  | tmp t =>
    simp only [opv] at hp ⊢
    split
    · rename_i cs hg
      split at hp
      · exact (hp _ _ _ rfl).elim
      · rename_i hne; exact (hne _ hg).elim
    · exact h t rfl
  | const u => intro r pre hr; simp only [opv, refOf_const] at hr; cases hr
  | global n => intro r pre hr; cases hr
  | func f => intro r pre hr; cases hr

theorem okArgs_same : ∀ {xs : List Operand} {vs : List PV} {st st1 s2 : St}, okArgs st xs = true → takeL st xs = some (st1, vs) → (∀ t, Operand.tmp t ∈ xs → get s2.fr t = get st.fr t) → (∀ t, Operand.tmp t ∈ xs → SameRoot st s2 (get st.fr t)) →
    st1.hp = st.hp ∧ (∃ s3, takeL s2 xs = some (s3, vs) ∧ s3.hp = s2.hp) ∧ okArgs s2 xs = true
  | [], vs, st, st1, s2, _, h, _, _ => by cases h; exact ⟨rfl, ⟨s2, rfl, rfl⟩, rfl⟩
  | x :: xs, vs, st, st1, s2, hok, h, hv, hr => by
    have hx : opv s2.fr x = opv st.fr x := opv_get fun t e => hv t (by rw [e]; simp)
    have hrx : RootIf st s2 (opv st.fr x) := rootIf_get fun t e => hr t (by rw [e]; simp)
    have general : okOp st x = true → okArgs st xs = true → (okOp s2 x = true → okArgs s2 xs = true → okArgs s2 (x :: xs) = true) → st1.hp = st.hp ∧ (∃ s3, takeL s2 (x :: xs) = some (s3, vs) ∧ s3.hp = s2.hp) ∧ okArgs s2 (x :: xs) = true := fun hok1 hok2 hb => by
      unfold takeL at h ⊢
      split at h
      · cases h
      · rename_i st2 v h1
        have := takeOut_ok hok1 h1
        subst this
        split at h
        · cases h
        · rename_i st3 vs' h2
          cases h
          obtain ⟨a1, a2⟩ := takeOut_same hok1 h1 hx hrx
          obtain ⟨b1, ⟨s3, b2, b3⟩, b4⟩ := okArgs_same hok2 h2 (fun t ht => hv t (by simp [ht])) (fun t ht => hr t (by simp [ht]))
          refine ⟨b1, ⟨s3, ?_, b3⟩, hb a2 b4⟩
          rw [a1]; simp only [b2]
    have dropped : ∀ (t : Nat) (tg : Tag) (n : Nat) (cs : List PV), x = .tmp t → opv st.fr x = .sl tg n cs → (∃ s, tg = .mu s ∨ tg = .ow s) → okArgs { st with fr := drop t st.fr } xs = true → (okArgs { s2 with fr := drop t s2.fr } xs = true → okArgs s2 (x :: xs) = true) →
        st1.hp = st.hp ∧ (∃ s3, takeL s2 (x :: xs) = some (s3, vs) ∧ s3.hp = s2.hp) ∧ okArgs s2 (x :: xs) = true := fun t tg n cs hxt ho htg hok2 hb => by
      subst hxt
      have hto : ∀ {s : St}, opv s.fr (.tmp t) = .sl tg n cs → takeOut s (.tmp t) = if (cellsOf (.sl tg n cs)).all storable = true then some ({ s with fr := drop t s.fr }, out (.sl tg n cs)) else none := fun {s} hs => by
        have ht : take s (.tmp t) = some ({ s with fr := drop t s.fr }, .sl tg n cs) := by
          obtain ⟨q, hq | hq⟩ := htg <;> subst hq <;> simp [take, hs]
        unfold takeOut
        rw [hs, ht]
      have hst : (cellsOf (.sl tg n cs)).all storable = true := rfl
      have hs2 : opv s2.fr (.tmp t) = .sl tg n cs := by rw [hx]; exact ho
      unfold takeL at h ⊢
      rw [hto ho] at h
      rw [hto hs2]
      simp only [hst, if_true] at h ⊢
      split at h
      · cases h
      · rename_i st3 vs' h2
        cases h
        obtain ⟨b1, ⟨s3, b2, b3⟩, b4⟩ := okArgs_same (s2 := { s2 with fr := drop t s2.fr }) hok2 h2 (fun u hu => by
            show get (drop t s2.fr) u = get (drop t st.fr) u
            rw [get_drop, get_drop, hv u (by simp [hu])]) (fun u hu r pre hrf => by
            have hrf : refOf (get (drop t st.fr) u) = some (r, pre) := hrf
            rw [get_drop] at hrf
            split at hrf
            · cases hrf
            · obtain ⟨h3, h4⟩ := on_refOf _ _ hrf
              have h5 := hr u (by simp [hu]) r pre h3
              cases r with
              | heap i => exact h5
              | slot q =>
                simp only [rootPV] at h5 ⊢
                show get (drop t s2.fr) q = get (drop t st.fr) q
                rw [get_drop, get_drop, h5])
        refine ⟨b1, ⟨s3, ?_, b3⟩, hb b4⟩
        simp only [b2]
    unfold okArgs at hok
    split at hok
    · rename_i t s n cs ho
      exact dropped t _ n cs rfl ho ⟨s, .inl rfl⟩ hok fun hb => by
        unfold okArgs
        rw [hx, ho]
        exact hb
    · rename_i t s n cs ho
      exact dropped t _ n cs rfl ho ⟨s, .inr rfl⟩ hok fun hb => by
        unfold okArgs
        rw [hx, ho]
        exact hb
    · rename_i h1 h2
      simp only [Bool.and_eq_true] at hok
      refine general hok.1 hok.2 fun a b => ?_
      unfold okArgs
      split
      · rename_i t s n cs ho
        rw [hx] at ho
        exact (h1 _ _ _ _ rfl ho).elim
      · rename_i t s n cs ho
        rw [hx] at ho
        exact (h2 _ _ _ _ rfl ho).elim
      · simp only [Bool.and_eq_true]; exact ⟨a, b⟩
end
end Go.PS
end

section
/-
  Regions that ask for their order: what an operation does, and what it hangs on.
-/
namespace Go.PS
section
variable {g g' g1 g2 : G} {w w' w1 w2 : World} {hn hn' : Nat} {tm : Array Value} {fr fr' : Fr} {hp hp' hp1 hp2 : Heap} {P : Program} {t : Nat} {st s2 st1 s' : St} {H : Hint} {own : FuncId → Option Nat} {callF : CallF} {ops : Array Oper} {o : Oper}

def Live (st : St) : Prop := ∀ t t' pre, refOf (get st.fr t) = some (.slot t', pre) → rootOk pre (get st.fr t') = true
def Near (L : List Nat) (st s2 : St) : Prop := ∀ t ∈ L, get s2.fr t = get st.fr t ∧ ∀ s pre, refOf (get st.fr t) = some (.slot s, pre) → get s2.fr s = get st.fr s
def NearH (L : List Nat) (st s2 : St) : Prop := ∀ t ∈ L, ∀ i pre, refOf (get st.fr t) = some (.heap i, pre) → s2.hp[i]? = st.hp[i]?

structure Ef where
  v : PV
  K : PV → PV
  W : Option (Nat × PV)
  H : Heap → Heap
  D : Bool → Bool

def Ef.at (e : Ef) (u : Nat) (old : PV) : PV := match e.W with | some (s, c) => if u = s then c else e.K old | none => e.K old
structure Eff (e : Ef) (dst : Option Nat) (st s' : St) : Prop where
  get : ∀ u, PS.get s'.fr u = if dst = some u then e.v else e.at u (PS.get st.fr u)
  hp : s'.hp = e.H st.hp
  base : s'.base = st.base
  dirty : s'.dirty = e.D st.dirty

def hits (k : Wk) (v : PV) : Bool := match k with | .none => false | .heap => viewH v | .slot s => (rootS v).contains s
def lvl : Cl → Nat
  | .pure n _ => n
  | .heavy _ => 2

def Facts (e : Ef) (c : Cl) (L : List Nat) (dst : Option Nat) (st : St) : Prop := match c with
  | .pure n F => e.W = none ∧ (∀ v, e.K v = v) ∧ (∀ h, e.H h = h) ∧ (∀ d, e.D d = d) ∧ (n = 0 → viewH e.v = false ∧ ∀ t ∈ L, viewH (get st.fr t) = false) ∧
      (∀ s, F.contains s = false → s ∉ L ∧ (∀ t ∈ L, (rootS (get st.fr t)).contains s = false) ∧ (rootS e.v).contains s = false ∧ dst ≠ some s)
  | .heavy k => (∀ v, e.K v = v ∨ (e.K v = .undef ∧ hits k v = true)) ∧ (match k with
      | .slot s => (∃ c, e.W = some (s, c)) ∧ (∀ h, e.H h = h) ∧ dst ≠ some s ∧ rooty (get st.fr s) = true
      | _ => e.W = none)

theorem noRef (hl : Live st) {d : Nat} (hd : rooty (get st.fr d) = false) (u : Nat) (pre : Option Nat) : refOf (get st.fr u) ≠ some (.slot d, pre) := fun h => by
  have := rooty_of_rootOk (hl u d pre h)
  rw [hd] at this; cases this
theorem on_noRef {d : Nat} {v : PV} (h : ∀ pre, refOf v ≠ some (.slot d, pre)) : (Kill.slot d).on v = v := by
  rcases on_cases (.slot d) v with h' | ⟨_, r, pre, h1, h2⟩
  · exact h'
  · simp [Kill.hits] at h2; subst h2; exact (h pre h1).elim

def kdst (dst : Option Nat) (v : PV) : PV := match dst with | some d => (Kill.slot d).on v | none => v
theorem get_setSlot (hl : Live st) (hi : idle st o = true) (v : PV) (u : Nat) : get (setSlot st o.dst v).fr u = if o.dst = some u then kdst o.dst v else get st.fr u := by
  unfold idle at hi
  cases hd : o.dst with
  | none => simp [setSlot]
  | some d =>
    rw [hd] at hi
    have hr : rooty (get st.fr d) = false := by simpa using hi
    simp only [setSlot, Option.some.injEq, kdst]
    by_cases h : d = u
    · subst h; rw [if_pos rfl, get_setFr_same]
    · rw [if_neg h, get_setFr _ _ _ _ h (fun pre h' => (noRef hl hr u pre h').elim)]
      exact on_noRef fun pre => noRef hl hr u pre
theorem viewH_kdst {dst : Option Nat} {v : PV} (h : viewH v = false) : viewH (kdst dst v) = false := by
  cases dst with
  | none => exact h
  | some d => rcases on_cases (.slot d) v with h' | ⟨h', _⟩
              · simp only [kdst]; rw [h']; exact h
              · simp only [kdst]; rw [h']; rfl
theorem rootS_kdst {dst : Option Nat} {v : PV} {s : Nat} (h : (rootS v).contains s = false) : (rootS (kdst dst v)).contains s = false := by
  cases dst with
  | none => exact h
  | some d => rcases on_cases (.slot d) v with h' | ⟨h', _⟩
              · simp only [kdst]; rw [h']; exact h
              · simp only [kdst]; rw [h']; rfl

theorem tmp_looks {t : Nat} (h : Operand.tmp t ∈ o.op.operands.toList) : t ∈ o.looksAt ops := by
  unfold Oper.looksAt
  exact List.mem_append_left _ (List.mem_filterMap.2 ⟨_, h, rfl⟩)

/-- The facts of a pure step. -/
theorem pureFacts {n : Nat} {v : PV} (hn : n = 0 → viewH v = false ∧ ∀ t ∈ o.looksAt ops, viewH (get st.fr t) = false) :
    Facts ⟨kdst o.dst v, fun v => v, none, fun h => h, fun d => d⟩ (.pure n (foot ops st o v)) (o.looksAt ops) o.dst st := by
  refine ⟨rfl, fun _ => rfl, fun _ => rfl, fun _ => rfl, fun h => ⟨viewH_kdst (hn h).1, (hn h).2⟩, fun s hs => ?_⟩
  have hs : s ∉ foot ops st o v := by simpa using hs
  unfold foot at hs
  simp only [List.mem_append, List.mem_flatMap, List.mem_cons, not_or, not_exists, not_and] at hs
  obtain ⟨⟨h1, h2⟩, h3⟩ := hs
  refine ⟨fun h => (h1 s h).1 rfl, fun t ht => by simpa using (h1 t ht).2, rootS_kdst (by simpa using h2), fun h => h3 (by simp [h])⟩

theorem depth_zero {v : PV} (h : depth ops st o v = 0) : viewH v = false ∧ (∀ t ∈ o.looksAt ops, viewH (get st.fr t) = false) ∧ (plainOp o.op = false → ∀ t ∈ o.looksAt ops, refH (get st.fr t) = false) := by
  unfold depth at h
  split at h
  · cases h
  · rename_i hn
    simp only [Bool.or_eq_true, not_or, Bool.not_eq_true, List.any_eq_false] at hn
    obtain ⟨h1, h2⟩ := hn
    refine ⟨h1, fun t ht => ?_, fun hp t ht => ?_⟩
    · have := h2 t ht
      unfold touch at this
      split at this
      · simpa using this
      · have h3 : refH (get st.fr t) = false := by simpa using this
        unfold refH at h3
        unfold viewH
        split at h3
        · cases h3
        · rename_i hne
          split
          · rename_i i q hq; exact (hne i _ hq).elim
          · rfl
    · have := h2 t ht
      unfold touch at this
      rw [hp] at this
      simpa using this
theorem depth_le {v : PV} : depth ops st o v ≤ 1 := by unfold depth; split <;> omega

theorem depth_same {v : PV} (hn : Near (o.looksAt ops) st s2) : depth ops s2 o v = depth ops st o v := by
  unfold depth
  have : (o.looksAt ops).any (fun t => touch o.op (get s2.fr t)) = (o.looksAt ops).any (fun t => touch o.op (get st.fr t)) := by
    rw [Bool.eq_iff_iff]
    simp only [List.any_eq_true]
    constructor
    · rintro ⟨t, ht, h⟩; rw [(hn t ht).1] at h; exact ⟨t, ht, h⟩
    · rintro ⟨t, ht, h⟩; rw [← (hn t ht).1] at h; exact ⟨t, ht, h⟩
  rw [this]
theorem foot_same {v : PV} (hn : Near (o.looksAt ops) st s2) : foot ops s2 o v = foot ops st o v := by
  unfold foot
  have : (o.looksAt ops).flatMap (fun t => t :: rootS (get s2.fr t)) = (o.looksAt ops).flatMap (fun t => t :: rootS (get st.fr t)) := by
    rw [List.flatMap_def, List.flatMap_def]
    congr 1
    exact List.map_congr_left fun t ht => by rw [(hn t ht).1]
  rw [this]
theorem known_same (hn : Near (o.looksAt ops) st s2) : ((o.looksAt ops).all fun t => known (get s2.fr t)) = ((o.looksAt ops).all fun t => known (get st.fr t)) := by
  rw [Bool.eq_iff_iff]
  simp only [List.all_eq_true]
  constructor
  · intro h t ht; rw [← (hn t ht).1]; exact h t ht
  · intro h t ht; rw [(hn t ht).1]; exact h t ht

theorem refH_of {v : PV} {i : Nat} {pre : Option Nat} (h : refOf v = some (.heap i, pre)) : refH v = true := by unfold refH; rw [h]
theorem sameRoot_near (hn : Near (o.looksAt ops) st s2) {t : Nat} (ht : t ∈ o.looksAt ops) (hh : refH (get st.fr t) = true → NearH (o.looksAt ops) st s2) : SameRoot st s2 (get st.fr t) := by
  intro r pre hr
  cases r with
  | slot s => exact (hn t ht).2 s pre hr
  | heap i => simp only [rootPV]; rw [hh (refH_of hr) t ht i pre hr]
theorem opv_near (hn : Near (o.looksAt ops) st s2) {x : Operand} (hx : x ∈ o.op.operands.toList) : opv s2.fr x = opv st.fr x :=
  opv_get fun t e => (hn t (tmp_looks (by rw [← e]; exact hx))).1
theorem sameRoot_opv (hn : Near (o.looksAt ops) st s2) {x : Operand} (hx : x ∈ o.op.operands.toList) (hh : ∀ t, x = .tmp t → refH (get st.fr t) = true → NearH (o.looksAt ops) st s2) : SameRoot st s2 (opv st.fr x) := by
  cases x with
  | tmp t =>
    have ht : t ∈ o.looksAt ops := tmp_looks hx
    intro r pre hr
    simp only [opv] at hr
    split at hr
    · rename_i cs hg
      simp only [refOf, Option.some.injEq, Prod.mk.injEq] at hr
      obtain ⟨rfl, rfl⟩ := hr
      exact (hn t ht).1
    · exact sameRoot_near hn ht (hh t rfl) r pre hr
  | const u => intro r pre hr; simp only [opv, refOf_const] at hr; cases hr
  | global n => intro r pre hr; cases hr
  | func f => intro r pre hr; cases hr
/-- In a step of depth 0 that is not plain nothing leads to the heap. -/
theorem nearH_of {v : PV} (hp : plainOp o.op = false) (hh : 1 ≤ depth ops st o v → NearH (o.looksAt ops) st s2) {t : Nat} (ht : t ∈ o.looksAt ops) (h : refH (get st.fr t) = true) : NearH (o.looksAt ops) st s2 := by
  rcases Nat.eq_zero_or_pos (depth ops st o v) with h0 | h0
  · have := (depth_zero h0).2.2 hp t ht
    rw [h] at this; cases this
  · exact hh h0
theorem stepA_near {v : PV} (hn : Near (o.looksAt ops) st s2) (hh : 1 ≤ depth ops st o v → NearH (o.looksAt ops) st s2) : stepA P s2 o = stepA P st o := by
  refine stepA_same (fun x hx => opv_near hn hx) (fun t ht => (hn t (tmp_looks ht)).1) ?_
  cases hp : plainOp o.op with
  | true => exact .inl rfl
  | false => exact .inr fun x hx => sameRoot_opv hn hx fun t e h => nearH_of hp hh (tmp_looks (by rw [← e]; exact hx)) h

/-- A step that the pure operations take. -/
theorem shapeA (hl : Live st) (hi : idle st o = true) {v : PV} (hv : stepA P st o = some v) :
    ∃ e, Eff e o.dst st (setSlot st o.dst v) ∧ Facts e (.pure (depth ops st o v) (foot ops st o v)) (o.looksAt ops) o.dst st ∧
      ∀ s2, Near (o.looksAt ops) st s2 → (1 ≤ depth ops st o v → NearH (o.looksAt ops) st s2) → idle s2 o = true → Live s2 →
        stepA P s2 o = some v ∧ depth ops s2 o v = depth ops st o v ∧ foot ops s2 o v = foot ops st o v ∧ Eff e o.dst s2 (setSlot s2 o.dst v) := by
  refine ⟨⟨kdst o.dst v, fun v => v, none, fun h => h, fun d => d⟩, ⟨fun u => get_setSlot hl hi v u, (setSlot_rest _ _ _).1, (setSlot_rest _ _ _).2.1, (setSlot_rest _ _ _).2.2⟩,
    pureFacts fun h => ⟨(depth_zero h).1, (depth_zero h).2.1⟩, fun s2 hn hh hi2 hl2 => ⟨(stepA_near hn hh).trans hv, depth_same hn, foot_same hn, ⟨fun u => get_setSlot hl2 hi2 v u, (setSlot_rest _ _ _).1, (setSlot_rest _ _ _).2.1, (setSlot_rest _ _ _).2.2⟩⟩⟩

theorem get_dropSlot (hl : Live st) {d : Nat} (hd : rooty (get st.fr d) = false) (c : PV) (u : Nat) : get ((d, c) :: drop d st.fr) u = if some d = some u then c else get st.fr u := by
  rw [get_cons]
  by_cases h : d = u
  · subst h; simp
  · rw [if_neg h, if_neg (by simpa using h), get_drop, if_neg h]
    exact on_noRef fun pre => noRef hl hd u pre

end
end Go.PS
end

section
/-
  Regions that ask for their order: the operations, one by one.
-/
namespace Go.PS
section
variable {g g' g1 g2 : G} {w w' w1 w2 : World} {hn hn' : Nat} {tm : Array Value} {fr fr' : Fr} {hp hp' hp1 hp2 : Heap} {P : Program} {t : Nat} {st s2 st1 s' : St} {H : Hint} {own : FuncId → Option Nat} {callF : CallF} {ops : Array Oper} {o : Oper} {c : Cl}

/-- The same, of a part of the step. -/
def Shape1 (F : St → Option (St × Cl)) (ops : Array Oper) (st s' : St) (o : Oper) (c : Cl) : Prop :=
  ∃ e, Eff e o.dst st s' ∧ Facts e c (o.looksAt ops) o.dst st ∧
    ∀ s2, s2.base = st.base → Near (o.looksAt ops) st s2 → (1 ≤ lvl c → NearH (o.looksAt ops) st s2) → (2 ≤ lvl c → s2.hp = st.hp) → idle s2 o = true → Live s2 →
      ∃ s2', F s2 = some (s2', c) ∧ Eff e o.dst s2 s2'

def pureEf (dst : Option Nat) (v : PV) : Ef := ⟨kdst dst v, fun v => v, none, fun h => h, fun d => d⟩
theorem eff_pure (hl : Live st) (hi : idle st o = true) (v : PV) : Eff (pureEf o.dst v) o.dst st (setSlot st o.dst v) :=
  ⟨fun u => get_setSlot hl hi v u, (setSlot_rest _ _ _).1, (setSlot_rest _ _ _).2.1, (setSlot_rest _ _ _).2.2⟩
theorem facts_depth (v : PV) : Facts (pureEf o.dst v) (.pure (depth ops st o v) (foot ops st o v)) (o.looksAt ops) o.dst st :=
  pureFacts fun h => ⟨(depth_zero h).1, (depth_zero h).2.1⟩
theorem dPure_same {v : PV} (hn : Near (o.looksAt ops) st s2) : dPure ops s2 o v = (setSlot s2 o.dst v, .pure (depth ops st o v) (foot ops st o v)) := by
  unfold dPure; rw [depth_same hn, foot_same hn]

theorem dA_shape (hl : Live st) (hi : idle st o = true) (h : dA P ops st o = some (s', c)) : Shape1 (fun s => dA P ops s o) ops st s' o c := by
  unfold dA at h
  split at h
  · rename_i v hv
    cases h
    refine ⟨_, eff_pure hl hi v, facts_depth v, fun s2 hb hn hh _ hi2 hl2 => ⟨_, ?_, eff_pure hl2 hi2 v⟩⟩
    show dA P ops s2 o = _
    unfold dA
    rw [(stepA_near hn hh).trans hv]
    simp only [dPure_same hn]
  · cases h

theorem retagless : True := trivial

theorem dAssign_shape (hl : Live st) (hi : idle st o = true) {x : Operand} (hx : x ∈ o.op.operands.toList) (hpl : plainOp o.op = true) (h : dAssign P ops st o x = some (s', c)) : Shape1 (fun s => dAssign P ops s o x) ops st s' o c := by
  unfold dAssign at h
  split at h
  · rename_i hc
    split at h
    · rename_i st1 v ht
      split at h
      · cases h
      · rename_i hv
        cases h
        refine ⟨_, eff_pure hl hi _, facts_depth _, fun s2 hb hn hh _ hi2 hl2 => ⟨_, ?_, eff_pure hl2 hi2 _⟩⟩
        have hroot : RootIf st s2 (opv st.fr x) := fun hnp r pre hr => by
          cases x with
          | tmp t =>
            have htl : t ∈ o.looksAt ops := tmp_looks hx
            simp only [opv] at hr hnp
            split at hr
            · rename_i hg
              split at hnp
              · exact (hnp _ _ _ rfl).elim
              · rename_i hne; exact (hne _ hg).elim
            · rename_i hnb
              have hnp : ∀ r pre off, get st.fr t ≠ .ptr r pre off := by
                split at hnp
                · rename_i hg; exact (hnb _ hg).elim
                · exact hnp
              cases r with
              | slot s => exact (hn t htl).2 s pre hr
              | heap i =>
                have hview : viewH (get st.fr t) = true := by
                  have hok := hc.1
                  have hok : okV st (get st.fr t) = true := by
                    simp only [okOp, opv] at hok
                    exact hok
                  have noNav : ∀ s n cs, navS st (.heap i) none ≠ some (.ow s, n, cs) := fun s n cs hnv => by
                    unfold navS nav at hnv
                    simp only [rootPV] at hnv
                    cases hh' : st.hp[i]? with
                    | none => simp only [hh'] at hnv; cases hnv
                    | some cs' => simp only [hh'] at hnv; cases hnv
                  cases hg : get st.fr t with
                  | ptr r' p' o' => exact (hnp _ _ _ hg).elim
                  | hd r' p' =>
                    rw [hg] at hr hok
                    simp only [refOf, Option.some.injEq, Prod.mk.injEq] at hr
                    obtain ⟨rfl, rfl⟩ := hr
                    obtain ⟨s, n, cs, hnv⟩ := navS_ow hok
                    cases p' with
                    | some q => rfl
                    | none => exact (noNav _ _ _ hnv).elim
                  | vw r' p' a b n' =>
                    rw [hg] at hr hok
                    simp only [refOf, Option.some.injEq, Prod.mk.injEq] at hr
                    obtain ⟨rfl, rfl⟩ := hr
                    obtain ⟨s, n, cs, hnv⟩ := navS_ow hok
                    cases p' with
                    | some q => rfl
                    | none => exact (noNav _ _ _ hnv).elim
                  | _ => rw [hg] at hr; cases hr
                have hd : 1 ≤ depth ops st o (retag P o.type v) := by
                  rcases Nat.eq_zero_or_pos (depth ops st o (retag P o.type v)) with h0 | h0
                  · have := (depth_zero h0).2.1 t htl
                    rw [hview] at this; cases this
                  · exact h0
                simp only [rootPV]
                rw [hh hd t htl i pre hr]
          | const u => simp only [opv, refOf_const] at hr; cases hr
          | global n => cases hr
          | func f => cases hr
        obtain ⟨a1, a2⟩ := take_same hc.1 ht (opv_near hn hx) hroot
        show dAssign P ops s2 o x = _
        unfold dAssign
        rw [if_pos ⟨a2, hc.2⟩, a1]
        simp only [hv, dPure_same hn]
        rfl
    · cases h
  · cases h

theorem dAlloc_shape (hl : Live st) (hi : idle st o = true) {T : TypeId} (h : dAlloc P H ops st o T = some (s', c)) (hlook : o.op = .alloc T) (hnv : ∀ t ∈ o.looksAt ops, viewH (get st.fr t) = false) : Shape1 (fun s => dAlloc P H ops s o T) ops st s' o c := by
  unfold dAlloc at h
  split at h
  · rename_i t z hd hz
    split at h
    · rename_i hbox
      cases h
      have hr : ∀ s : St, idle s o = true → rooty (get s.fr t) = false := fun s hs => by
        unfold idle at hs; rw [hd] at hs; simpa using hs
      have heff : ∀ s : St, Live s → idle s o = true → Eff (pureEf o.dst (.box z)) o.dst s { s with fr := (t, .box z) :: drop t s.fr } := fun s hl hi =>
        ⟨fun u => by
          show get ((t, .box z) :: drop t s.fr) u = _
          rw [get_dropSlot hl (hr s hi), hd]; rfl, rfl, rfl, rfl⟩
      refine ⟨_, heff st hl hi, pureFacts fun _ => ⟨rfl, hnv⟩, fun s2 hb hn hh _ hi2 hl2 => ⟨_, ?_, heff s2 hl2 hi2⟩⟩
      show dAlloc P H ops s2 o T = _
      unfold dAlloc
      rw [hd, hz]
      simp only [hbox, if_true, foot_same hn]
    · cases h
  · cases h
end
end Go.PS
end

section
/-
  Regions that ask for their order: the operations, one by one, part 2.
-/
namespace Go.PS
section
variable {g g' g1 g2 : G} {w w' w1 w2 : World} {hn hn' : Nat} {tm : Array Value} {fr fr' : Fr} {hp hp' hp1 hp2 : Heap} {P : Program} {t : Nat} {st s2 st1 s' : St} {H : Hint} {own : FuncId → Option Nat} {callF : CallF} {ops : Array Oper} {o : Oper} {c : Cl}

theorem okV_same {v : PV} (h : okV st v = true) (hr : RootIf st s2 v) : okV s2 v = true := by
  cases v with
  | hd r pre => simp only [okV] at h ⊢; rw [navS_same (hr (by simp) r pre rfl)]; exact h
  | vw r pre off sz n => simp only [okV] at h ⊢; rw [navS_same (hr (by simp) r pre rfl)]; exact h
  | sl g n cs => cases g <;> first | rfl | cases h
  | agg cs => exact h
  | box cs => cases h
  | undef => cases h
  | _ => rfl
theorem okOp_same {x : Operand} (h : okOp st x = true) (hv : opv s2.fr x = opv st.fr x) (hr : RootIf st s2 (opv st.fr x)) : okOp s2 x = true := by
  cases x with
  | tmp t => simp only [okOp] at h ⊢; rw [hv]; exact okV_same h hr
  | const u => rfl
  | global n => cases h
  | func f => rfl

theorem near_drop {L : List Nat} (hn : Near L st s2) (d t : Nat) (ht : t ∈ L) : get (drop d s2.fr) t = get (drop d st.fr) t := by
  rw [get_drop, get_drop, (hn t ht).1]
theorem root_drop {t d : Nat} (hs : SameRoot st s2 (get st.fr t)) : SameRoot { st with fr := drop d st.fr } { s2 with fr := drop d s2.fr } (get (drop d st.fr) t) := by
  intro r pre hr
  rw [get_drop] at hr
  split at hr
  · cases hr
  · have h1 := hs r pre (on_refOf _ _ hr).1
    cases r with
    | heap i => exact h1
    | slot q =>
      simp only [rootPV] at h1 ⊢
      rw [get_drop, get_drop, h1]

theorem dBuild_shape (hl : Live st) (hi : idle st o = true) {T : TypeId} {parts : Array (Nat × Operand)} (ho : o.op = .build T parts) (h : dBuild P ops st o T parts = some (s', c)) : Shape1 (fun s => dBuild P ops s o T parts) ops st s' o c := by
  have hmem : ∀ p ∈ parts.toList, p.2 ∈ o.op.operands.toList := fun p hp => by rw [ho]; simp only [Op.operands, List.mem_map]; exact ⟨p, hp, rfl⟩
  have hpl : plainOp o.op = false := by rw [ho]; rfl
  unfold dBuild at h
  split at h
  · rename_i z pl d hz hp hd
    split at h
    · rename_i hok
      split at h
      · rename_i st1 cs hb
        cases h
        have hr : ∀ s : St, idle s o = true → rooty (get s.fr d) = false := fun s hs => by
          unfold idle at hs; rw [hd] at hs; simpa using hs
        have heff : ∀ s : St, Live s → idle s o = true → Eff (pureEf o.dst (.agg cs)) o.dst s { s with fr := (d, .agg cs) :: drop d s.fr } := fun s hl hi =>
          ⟨fun u => by
            show get ((d, .agg cs) :: drop d s.fr) u = _
            rw [get_dropSlot hl (hr s hi), hd]; rfl, rfl, rfl, rfl⟩
        refine ⟨_, heff st hl hi, facts_depth _, fun s2 hbase hn hh _ hi2 hl2 => ⟨_, ?_, heff s2 hl2 hi2⟩⟩
        have hsr : ∀ p ∈ parts.toList, ∀ t, p.2 = .tmp t → SameRoot st s2 (get st.fr t) := fun p hp t e => by
          have htl : t ∈ o.looksAt ops := tmp_looks (by rw [← e]; exact hmem p hp)
          exact sameRoot_near hn htl fun h => nearH_of hpl hh htl h
        have hv : ∀ p ∈ parts.toList, opv s2.fr p.2 = opv st.fr p.2 := fun p hp => opv_near hn (hmem p hp)
        have hr2 : ∀ p ∈ parts.toList, RootIf st s2 (opv st.fr p.2) := fun p hp => rootIf_get (hsr p hp)
        have hv0 : ∀ p ∈ parts.toList, opv ({ s2 with fr := drop d s2.fr } : St).fr p.2 = opv ({ st with fr := drop d st.fr } : St).fr p.2 := fun p hp =>
          opv_get (st := { st with fr := drop d st.fr }) (s2 := { s2 with fr := drop d s2.fr }) fun t e => near_drop hn d t (tmp_looks (by rw [← e]; exact hmem p hp))
        have hr0 : ∀ p ∈ parts.toList, RootIf { st with fr := drop d st.fr } { s2 with fr := drop d s2.fr } (opv ({ st with fr := drop d st.fr } : St).fr p.2) := fun p hp =>
          rootIf_get (st := { st with fr := drop d st.fr }) (s2 := { s2 with fr := drop d s2.fr }) fun t e => root_drop (hsr p hp t e)
        have b0 := buildL_same hok.2 hb hv0 hr0
        have hok2 : parts.toList.all (fun p => okOp s2 p.2) = true := List.all_eq_true.2 fun p hp => okOp_same (List.all_eq_true.1 hok.1 p hp) (hv p hp) (hr2 p hp)
        show dBuild P ops s2 o T parts = _
        unfold dBuild
        rw [hz, hp, hd]
        simp only
        rw [if_pos ⟨hok2, b0.2⟩, b0.1]
        simp only [depth_same hn, foot_same hn]
      · cases h
    · cases h
  · cases h

theorem dSlice_shape (hl : Live st) (hi : idle st o = true) {T : TypeId} {n : Nat} {parts : Array (Nat × Operand)} (ho : o.op = .buildSlice T n parts) (h : dSlice P ops st o T n parts = some (s', c)) : Shape1 (fun s => dSlice P ops s o T n parts) ops st s' o c := by
  have hmem : ∀ x ∈ parts.toList.map (·.2), x ∈ o.op.operands.toList := fun x hx => by rw [ho]; simpa only [Op.operands] using hx
  have hpl : plainOp o.op = false := by rw [ho]; rfl
  unfold dSlice at h
  split at h
  · rename_i hok
    split at h
    · rename_i st1 vs e ht he
      split at h
      · rename_i z hz
        split at h
        · rename_i hc
          split at h
          · rename_i cs hf
            cases h
            refine ⟨_, eff_pure hl hi _, facts_depth _, fun s2 hbase hn hh _ hi2 hl2 => ⟨_, ?_, eff_pure hl2 hi2 _⟩⟩
            have hsr : ∀ x ∈ parts.toList.map (·.2), ∀ t, x = .tmp t → SameRoot st s2 (get st.fr t) := fun x hx t e => by
              have htl : t ∈ o.looksAt ops := tmp_looks (by rw [← e]; exact hmem x hx)
              exact sameRoot_near hn htl fun h => nearH_of hpl hh htl h
            obtain ⟨a1, a2⟩ := takeL_same hok ht (fun x hx => opv_near hn (hmem x hx)) (fun x hx => rootIf_get (hsr x hx))
            show dSlice P ops s2 o T n parts = _
            unfold dSlice
            rw [if_pos a2, a1, he]
            simp only [hz, hc, hf, dPure_same hn, and_self, if_true]
          · cases h
        · cases h
      · cases h
    · cases h
  · cases h

theorem dLoad_shape (hl : Live st) (hi : idle st o = true) {T : TypeId} {a : Operand} (ho : o.op = .load T a) (h : dLoad P ops st o T a = some (s', c)) : Shape1 (fun s => dLoad P ops s o T a) ops st s' o c := by
  have hmem : a ∈ o.op.operands.toList := by rw [ho]; simp [Op.operands]
  unfold dLoad at h
  split at h
  · cases h
  · rename_i hs
    obtain ⟨e, h1, h2, h3⟩ := dA_shape hl hi h
    refine ⟨e, h1, h2, fun s2 hb hn hh hhp hi2 hl2 => ?_⟩
    obtain ⟨s2', h4, h5⟩ := h3 s2 hb hn hh hhp hi2 hl2
    refine ⟨s2', ?_, h5⟩
    have hsh : shares P s2 T a = shares P st T a := by
      unfold shares
      rw [opv_near hn hmem]
      split
      · rename_i r off hop
        have hA := h
        unfold dA at hA
        split at hA
        · rename_i v hv
          cases hA
          have hpl : plainOp o.op = false := by rw [ho]; rfl
          have sr := sameRoot_opv hn hmem (fun t _ hr => by
            subst_vars
            exact nearH_of (v := v) hpl hh (tmp_looks hmem) hr)
          rw [hop] at sr
          rw [sr r none rfl]
        · cases hA
      · rfl
    show dLoad P ops s2 o T a = _
    unfold dLoad
    rw [hsh, if_neg hs]
    exact h4

theorem live_kill (hl : Live st) (k : Kill) : Live { st with fr := killFr k st.fr } := fun t t' pre h => by
  have h : refOf (get (killFr k st.fr) t) = some (.slot t', pre) := h
  show rootOk pre (get (killFr k st.fr) t') = true
  rw [get_kill] at h ⊢
  rw [rootOk_on]
  exact hl t t' pre (on_refOf _ _ h).1
theorem idle_kill (hi : idle st o = true) (k : Kill) : idle { st with fr := killFr k st.fr } o = true := by
  unfold idle at hi ⊢
  split
  · rename_i d hd
    rw [hd] at hi
    simpa [get_kill, rooty_on] using hi
  · rfl

theorem dCall_shape (hl : Live st) (hi : idle st o = true) {cl : Call} {fo : Operand} (ho : o.op = .call cl) (hcal : cl.callee = .value fo) {f : FuncId} {cap : List PV} (h : dCall own callF ops st o f cap cl.args.toList = some (s', c)) :
    Shape1 (fun s => dCall own callF ops s o f cap cl.args.toList) ops st s' o c := by
  have hmem : ∀ x ∈ cl.args.toList, x ∈ o.op.operands.toList := fun x hx => by
    rw [ho]; simp only [Op.operands, Call.operands, hcal]; simp at hx ⊢; exact .inr hx
  unfold dCall at h
  split at h
  · rename_i hc
    split at h
    · cases h
    · rename_i st1 vs ht
      split at h
      · cases h
      · rename_i r hp' d hcf
        have same : ∀ s2 : St, Near (o.looksAt ops) st s2 → s2.hp = st.hp → okArgs s2 cl.args.toList = true ∧ ∃ s3, takeL s2 cl.args.toList = some (s3, vs) := fun s2 hn hhp => by
          obtain ⟨_, ⟨s3, h1, _⟩, h2⟩ := okArgs_same hc.2 ht (fun t hx => (hn t (tmp_looks (hmem _ hx))).1) (fun t hx => sameRoot_near hn (tmp_looks (hmem _ hx)) fun _ t' _ i pre _ => by rw [hhp])
          exact ⟨h2, s3, h1⟩
        split at h
        · rename_i hp
          cases h
          refine ⟨_, eff_pure hl hi r, pureFacts (fun h => by cases h), fun s2 hb hn hh hhp hi2 hl2 => ⟨_, ?_, eff_pure hl2 hi2 r⟩⟩
          have hhp := hhp (Nat.le_refl _)
          obtain ⟨h1, s3, h2⟩ := same s2 hn hhp
          show dCall own callF ops s2 o f cap cl.args.toList = _
          unfold dCall
          rw [if_pos ⟨hc.1, h1⟩, h2]
          simp only [hhp, hcf]
          rw [if_pos hp, foot_same hn]
        · rename_i hp
          split at h
          · rename_i hall
            cases h
            let e : Ef := ⟨kdst o.dst r, fun v => if d then Kill.heaps.on v else v, none, fun _ => hp', fun b => b || d⟩
            have heff : ∀ s : St, Live s → idle s o = true → Eff e o.dst s (setSlot { s with hp := hp', dirty := s.dirty || d, fr := if d then killFr .heaps s.fr else s.fr } o.dst r) := fun s hl hi => by
              cases d with
              | false =>
                refine ⟨fun u => ?_, (setSlot_rest _ _ _).1, (setSlot_rest _ _ _).2.1, (setSlot_rest _ _ _).2.2⟩
                exact get_setSlot (st := { s with hp := hp', dirty := s.dirty || false, fr := s.fr }) hl hi r u
              | true =>
                refine ⟨fun u => ?_, (setSlot_rest _ _ _).1, (setSlot_rest _ _ _).2.1, (setSlot_rest _ _ _).2.2⟩
                have hl' : Live ({ s with hp := hp', dirty := s.dirty || true, fr := killFr .heaps s.fr } : St) := live_kill hl .heaps
                have hi' : idle ({ s with hp := hp', dirty := s.dirty || true, fr := killFr .heaps s.fr } : St) o = true := idle_kill hi .heaps
                have := get_setSlot hl' hi' r u
                simp only [if_true]
                rw [this]
                split
                · rfl
                · show get (killFr .heaps s.fr) u = _
                  rw [get_kill]; rfl
            refine ⟨e, heff st hl hi, ⟨fun v => ?_, ?_⟩, fun s2 hb hn hh hhp hi2 hl2 => ⟨_, ?_, heff s2 hl2 hi2⟩⟩
            · cases d with
              | false => exact .inl rfl
              | true =>
                rcases on_cases .heaps v with h1 | ⟨h1, r', pre, h2, h3⟩
                · exact .inl h1
                · refine .inr ⟨h1, ?_⟩
                  simp only [hits, if_true]
                  cases r' with
                  | slot q => simp [Kill.hits] at h3
                  | heap i => cases pre with
                    | none => simp [Kill.hits] at h3
                    | some q => unfold viewH; rw [h2]
            · cases d <;> rfl
            · have hhp := hhp (Nat.le_refl _)
              obtain ⟨h1, s3, h2⟩ := same s2 hn hhp
              have hall2 : cl.args.toList.all (okOp s2) = true := List.all_eq_true.2 fun x hx => okOp_same (List.all_eq_true.1 hall x hx) (opv_near hn (hmem x hx)) (rootIf_get fun t e => sameRoot_near hn (tmp_looks (by rw [← e]; exact hmem x hx)) fun _ t' _ i pre _ => by rw [hhp])
              show dCall own callF ops s2 o f cap cl.args.toList = _
              unfold dCall
              rw [if_pos ⟨hc.1, h1⟩, h2]
              simp only [hhp, hcf]
              rw [if_neg hp, if_pos hall2]
          · cases h
  · cases h
end
end Go.PS
end

section
/-
  Regions that ask for their order: stores and appends.
-/
namespace Go.PS
section
variable {g g' g1 g2 : G} {w w' w1 w2 : World} {hn hn' : Nat} {tm : Array Value} {fr fr' : Fr} {hp hp' hp1 hp2 : Heap} {P : Program} {t : Nat} {st s2 st1 s' : St} {H : Hint} {own : FuncId → Option Nat} {callF : CallF} {ops : Array Oper} {o : Oper} {c : Cl}

def wkOf : Root → Wk
  | .slot s => .slot s
  | .heap _ => .heap
/-- A root is put anew. -/
def putEf (r : Root) (K : PV → PV) (x : PV) (base : Nat) : Ef := match r with
  | .slot s => ⟨.undef, K, some (s, x), fun h => h, fun b => b⟩
  | .heap i => ⟨.undef, K, none, fun h => h.set i x.kids, fun b => b || decide (i < base)⟩

theorem putEf_mid {fr' : Fr} {K : PV → PV} (hK : ∀ u, get fr' u = K (get st.fr u)) (r : Root) (x : PV) :
    (∀ u, get (putRoot { st with fr := fr' } r x).fr u = (putEf r K x st.base).at u (get st.fr u)) ∧ (putRoot { st with fr := fr' } r x).hp = (putEf r K x st.base).H st.hp ∧ (putRoot { st with fr := fr' } r x).base = st.base ∧
      (putRoot { st with fr := fr' } r x).dirty = (putEf r K x st.base).D st.dirty := by
  cases r with
  | slot s =>
    refine ⟨fun u => ?_, rfl, rfl, rfl⟩
    show get ((s, x) :: fr') u = if u = s then x else K (get st.fr u)
    rw [get_cons, hK]
    by_cases h : s = u
    · subst h; simp
    · rw [if_neg h, if_neg (Ne.symm h)]
  | heap i => exact ⟨fun u => hK u, rfl, rfl, rfl⟩

theorem killHits {k : Kill} {r : Root} (hk : ∀ r' pre, k.hits r' pre = true → r' = r ∧ (∀ i, r = .heap i → pre.isSome = true)) (v : PV) : k.on v = v ∨ (k.on v = .undef ∧ hits (wkOf r) v = true) := by
  rcases on_cases k v with h | ⟨h, r', pre, h1, h2⟩
  · exact .inl h
  · refine .inr ⟨h, ?_⟩
    obtain ⟨rfl, h3⟩ := hk r' pre h2
    cases r' with
    | slot s => simp [wkOf, hits, rootS, h1]
    | heap i =>
      have := h3 i rfl
      cases pre with
      | none => cases this
      | some q => simp [wkOf, hits, viewH, h1]

theorem rooty_root {r : Root} {pre : Option Nat} {nd : PV} (h : nav st r pre = some nd) : rooty (rootPV st r) = true := by
  unfold nav at h
  split at h
  · rename_i e; rw [e]; rfl
  · rename_i e; rw [e]; rfl
  · rename_i e; rw [e]; rfl
  · rename_i e; rw [e]; rfl
  · cases h

theorem putFacts {r : Root} {K : PV → PV} {x : PV} {base : Nat} {L : List Nat} {dst : Option Nat} {v : PV} (hK : ∀ v, K v = v ∨ (K v = .undef ∧ hits (wkOf r) v = true)) (hr : rooty (rootPV st r) = true) (hd : ∀ s, r = .slot s → dst ≠ some s) :
    Facts { putEf r K x base with v := v } (.heavy (wkOf r)) L dst st := by
  cases r with
  | slot s => exact ⟨hK, ⟨_, rfl⟩, fun _ => rfl, hd s rfl, hr⟩
  | heap i => exact ⟨hK, rfl⟩

theorem wk_ptr {r : Root} {pre : Option Nat} {off : Nat} {v : PV} (h : v = .ptr r pre off) (st' : St) : (match v with
      | .ptr (.slot s) _ _ => some (st', Cl.heavy (.slot s))
      | _ => some (st', Cl.heavy .heap)) = some (st', .heavy (wkOf r)) := by
  subst h; cases r <;> rfl

theorem dStore_shape (hl : Live st) (hi : idle st o = true) {T : TypeId} {a x : Operand} (ho : o.op = .store T a x) (h : dStore P st o T a x = some (s', c)) : Shape1 (fun s => dStore P s o T a x) ops st s' o c := by
  have hma : a ∈ o.op.operands.toList := by rw [ho]; simp [Op.operands]
  have hmx : x ∈ o.op.operands.toList := by rw [ho]; simp [Op.operands]
  unfold dStore at h
  split at h
  · rename_i hc
    split at h
    · rename_i st' hst
      unfold store at hst
      split at hst
      · cases hst
      · rename_i st1 v ht
        have := take_ok hc.1 ht
        subst this
        split at hst
        · rename_i r pre off hop
          have h := (wk_ptr hop st').symm.trans h
          split at hst
          · rename_i nd hnav
            split at hst
            · rename_i hcond
              have sames : ∀ s2 : St, Near (o.looksAt ops) st1 s2 → s2.hp = st1.hp → okOp s2 x = true ∧ take s2 x = some (s2, v) ∧ opv s2.fr a = .ptr r pre off ∧ rootPV s2 r = rootPV st1 r := fun s2 hn hhp => by
                have hH : NearH (o.looksAt ops) st1 s2 := fun _ _ i _ _ => by rw [hhp]
                obtain ⟨h1, h2⟩ := take_same hc.1 ht (opv_near hn hmx) (rootIf_get fun t e => sameRoot_near hn (tmp_looks (by rw [← e]; exact hmx)) fun _ => hH)
                have h3 : opv s2.fr a = .ptr r pre off := (opv_near hn hma).trans hop
                have h4 := sameRoot_opv hn hma (fun _ _ _ => hH)
                rw [hop] at h4
                exact ⟨h2, h1, h3, h4 r pre rfl⟩
              have hdst : ∀ s, r = .slot s → o.dst ≠ some s := fun s _ => by rw [hc.2]; simp
              have fin : ∀ {K : PV → PV} {y : PV} {fr' : St → Fr}, (∀ s : St, ∀ u, get (fr' s) u = K (get s.fr u)) → (∀ v, K v = v ∨ (K v = .undef ∧ hits (wkOf r) v = true)) → s' = putRoot { st1 with fr := fr' st1 } r y → c = .heavy (wkOf r) →
                  (∀ s2 : St, Near (o.looksAt ops) st1 s2 → s2.hp = st1.hp → store P s2 T a x = some (putRoot { s2 with fr := fr' s2 } r y)) → Shape1 (fun s => dStore P s o T a x) ops st1 s' o c := by
                intro K y fr' hK hKh hs' hc' hst2
                subst hs' hc'
                have heff : ∀ s : St, Eff (putEf r K y s.base) o.dst s (putRoot { s with fr := fr' s } r y) := fun s => by
                  obtain ⟨h1, h2, h3, h4⟩ := putEf_mid (hK s) r y
                  refine ⟨fun u => ?_, h2, h3, h4⟩
                  rw [hc.2, if_neg (by simp)]; exact h1 u
                refine ⟨_, heff st1, putFacts (v := (putEf r K y st1.base).v) hKh (rooty_root hnav) hdst, fun s2 hb hn _ hhp hi2 hl2 => ⟨_, ?_, by rw [← hb]; exact heff s2⟩⟩
                have hhp := hhp (Nat.le_refl _)
                obtain ⟨h1, h2, h3, h4⟩ := sames s2 hn hhp
                show dStore P s2 o T a x = _
                unfold dStore
                rw [if_pos ⟨h1, hc.2⟩, hst2 s2 hn hhp]
                exact wk_ptr h3 _
              split at hst
              · rename_i cs
                cases hst
                cases h
                obtain ⟨hpre, hroot⟩ := nav_box hnav
                have hk : ∀ r' pre', (killOf r off v).hits r' pre' = true → r' = r ∧ (∀ i, r = .heap i → pre'.isSome = true) := fun r' pre' hk => by
                  unfold killOf at hk
                  split at hk
                  · simp [Kill.hits] at hk; exact ⟨hk.1, fun _ _ => hk.2⟩
                  · simp [Kill.hits] at hk; exact ⟨hk.1, fun _ _ => by rw [hk.2]; rfl⟩
                refine fin (K := (killOf r off v).on) (y := .box (splice cs off (cellsOf (retag P T v)))) (fr' := fun s => killFr (killOf r off v) s.fr) (fun s u => get_kill _ _ _) (killHits hk) rfl rfl fun s2 hn hhp => ?_
                obtain ⟨h1, h2, h3, h4⟩ := sames s2 hn hhp
                unfold store
                rw [h2]
                simp only [h3]
                rw [nav_same h4, hnav]
                simp only
                rw [if_pos hcond]
              · rename_i s n cs
                cases hst
                cases h
                let y : PV := match pre with
                  | none => .sl (.mu s) n (splice cs off ((cellsOf v).map outCell))
                  | some q => (rootPV st1 r).withKids ((rootPV st1 r).kids.set q (.sl (.mu s) n (splice cs off ((cellsOf v).map outCell))))
                have hput : ∀ s2 : St, rootPV s2 r = rootPV st1 r → put s2 r pre (.sl (.mu s) n (splice cs off ((cellsOf v).map outCell))) = putRoot { s2 with fr := s2.fr } r y := fun s2 h4 => by
                  cases pre with
                  | none => rfl
                  | some q => simp only [put, h4, y]
                refine fin (K := fun v => v) (y := y) (fr' := fun s => s.fr) (fun s u => rfl) (fun v => .inl rfl) (hput st1 rfl) rfl fun s2 hn hhp => ?_
                obtain ⟨h1, h2, h3, h4⟩ := sames s2 hn hhp
                unfold store
                rw [h2]
                simp only [h3]
                rw [nav_same h4, hnav]
                simp only
                rw [if_pos hcond, hput s2 h4]
              · cases hst
            · cases hst
          · cases hst
        · cases hst
    · cases h
  · cases h

theorem eff_mid (hl : Live st) (hi : idle st o = true) {e : Ef} {st' : St} (hmid : ∀ u, get st'.fr u = e.at u (get st.fr u)) (hhp : st'.hp = e.H st.hp) (hb : st'.base = st.base) (hdy : st'.dirty = e.D st.dirty)
    (hK : ∀ v, e.K v = v ∨ e.K v = .undef) (hW : ∀ s c, e.W = some (s, c) → refOf c = none ∧ o.dst ≠ some s) (v : PV) : Eff { e with v := kdst o.dst v } o.dst st (setSlot st' o.dst v) := by
  obtain ⟨r1, r2, r3⟩ := setSlot_rest st' o.dst v
  refine ⟨fun u => ?_, r1.trans hhp, r2.trans hb, r3.trans hdy⟩
  cases hd : o.dst with
  | none => simp only [setSlot]; rw [if_neg (by simp)]; exact hmid u
  | some d =>
    have hr : rooty (get st.fr d) = false := by unfold idle at hi; rw [hd] at hi; simpa using hi
    have at_cases : ∀ u old, (∃ s c, e.W = some (s, c) ∧ u = s ∧ e.at u old = c) ∨ e.at u old = e.K old := fun u old => by
      unfold Ef.at
      cases hw : e.W with
      | none => exact .inr rfl
      | some p =>
        obtain ⟨s, c⟩ := p
        by_cases h : u = s
        · exact .inl ⟨s, c, rfl, h, by simp [h]⟩
        · exact .inr (by simp [h])
    have hrd : rooty (get st'.fr d) = false := by
      rw [hmid]
      rcases at_cases d (get st.fr d) with ⟨s, c, hw, hs, _⟩ | h
      · exact ((hW s c hw).2 (by rw [hd, hs])).elim
      · rw [h]
        rcases hK (get st.fr d) with h1 | h1
        · rw [h1]; exact hr
        · rw [h1]; rfl
    have hno : ∀ u pre, refOf (get st'.fr u) ≠ some (.slot d, pre) := fun u pre hrf => by
      rw [hmid] at hrf
      rcases at_cases u (get st.fr u) with ⟨s, c, hw, hs, hat⟩ | h
      · rw [hat, (hW s c hw).1] at hrf; cases hrf
      · rw [h] at hrf
        rcases hK (get st.fr u) with h1 | h1
        · rw [h1] at hrf; exact noRef hl hr u pre hrf
        · rw [h1] at hrf; cases hrf
    simp only [setSlot, Option.some.injEq, kdst]
    by_cases h : d = u
    · subst h; rw [if_pos rfl, get_setFr_same]
    · rw [if_neg h, get_setFr _ _ _ _ h (fun pre h' => (hno u pre h').elim)]
      have : (Kill.slot d).on (get st'.fr u) = get st'.fr u := on_noRef fun pre => hno u pre
      rw [this]; exact hmid u

theorem wk_at {r : Root} {pre : Option Nat} {v : Option (Root × Option Nat)} (h : v = some (r, pre)) (st' : St) : (match v with
      | some (.slot s, _) => some (st', Cl.heavy (.slot s))
      | some (.heap _, _) => some (st', Cl.heavy .heap)
      | none => none) = some (st', .heavy (wkOf r)) := by
  subst h; cases r <;> rfl
theorem appAt_cases {st : St} {x : Operand} {r : Root} {pre : Option Nat} (h : appAt st x = some (r, pre)) : opv st.fr x = .hd r pre ∨ ∃ t g n cs, x = .tmp t ∧ r = .slot t ∧ pre = none ∧ opv st.fr x = .sl g n cs ∧ ((∃ s, g = .mu s) ∨ ∃ s, g = .ow s) := by
  unfold appAt at h
  split at h
  · rename_i e; cases h; exact .inl e
  · rename_i s n cs e
    split at h
    · rename_i t; cases h; exact .inr ⟨t, _, _, _, rfl, rfl, rfl, e, .inl ⟨_, rfl⟩⟩
    · cases h
  · rename_i s n cs e
    split at h
    · rename_i t; cases h; exact .inr ⟨t, _, _, _, rfl, rfl, rfl, e, .inr ⟨_, rfl⟩⟩
    · cases h
  · cases h
theorem appendOp_at {P : Program} {st : St} {T : TypeId} {x : Operand} {y : PV} {e : TypeId} {k : Nat} {ys : List PV} {r : Root} {pre : Option Nat} (he : elemT P T = some e) (hy : content st y = some (k, ys)) (hc : ys.length = k * sizeT P e ∧ ys.all storable = true) (ha : appAt st x = some (r, pre)) : appendOp P st T x y = appendGo P st e k ys r pre := by
  unfold appendOp
  rw [he, hy]
  simp only
  rw [if_pos hc]
  rcases appAt_cases ha with h | ⟨t, g, n, cs, rfl, rfl, rfl, h, ⟨s, rfl⟩ | ⟨s, rfl⟩⟩
  · rw [h]
  · rw [h]
  · rw [h]

/-- What stands where a row has been moved away. -/
def outEf (st : St) (r : Root) (pre : Option Nat) : Ef := match r, pre with
  | .slot t, none => ⟨.undef, (Kill.slot t).on, some (t, .undef), fun h => h, fun b => b⟩
  | r, some q => putEf r (Kill.at r q).on ((rootPV st r).withKids ((rootPV st r).kids.set q .undef)) st.base
  | _, none => ⟨.undef, fun v => v, none, fun h => h, fun b => b⟩

theorem kids_on {k : Kill} {v : PV} (h : rooty v = true) : k.on v = v := by cases v <;> first | rfl | cases h

theorem out_mid {r : Root} {pre : Option Nat} {x : Tag × Nat × List PV} (h : navS st r pre = some x) :
    (∀ u, get (moveOut st r pre).fr u = (outEf st r pre).at u (get st.fr u)) ∧ (moveOut st r pre).hp = (outEf st r pre).H st.hp ∧ (moveOut st r pre).base = st.base ∧ (moveOut st r pre).dirty = (outEf st r pre).D st.dirty := by
  have hroot : rooty (rootPV st r) = true := by
    unfold navS at h
    split at h
    · exact rooty_root (by assumption)
    · cases h
  cases pre with
  | none =>
    cases r with
    | slot t =>
      refine ⟨fun u => ?_, rfl, rfl, rfl⟩
      show get (drop t st.fr) u = if u = t then .undef else (Kill.slot t).on (get st.fr u)
      rw [get_drop]
      by_cases h : t = u
      · subst h; simp
      · rw [if_neg h, if_neg (Ne.symm h)]
    | heap i => exact ⟨fun u => rfl, rfl, rfl, rfl⟩
  | some q =>
    have hr' : rootPV { st with fr := killFr (.at r q) st.fr } r = rootPV st r := by
      cases r with
      | slot t => simp only [rootPV] at hroot ⊢; rw [get_kill, kids_on hroot]
      | heap i => rfl
    have e : moveOut st r (some q) = putRoot { st with fr := killFr (.at r q) st.fr } r ((rootPV st r).withKids ((rootPV st r).kids.set q .undef)) := by
      unfold moveOut
      simp only [put, hr']
    rw [e]
    have e2 : outEf st r (some q) = putEf r (Kill.at r q).on ((rootPV st r).withKids ((rootPV st r).kids.set q .undef)) st.base := by cases r <;> rfl
    rw [e2]
    exact putEf_mid (fun u => get_kill _ _ _) r _

theorem dAppend_shape (hl : Live st) (hi : idle st o = true) {cl : Call} (ho : o.op = .call cl) (hcal : cl.callee = .builtin .append) {T U : TypeId} {x y : Operand} (hargs : cl.args.toList = [x, y]) (h : dAppend P st o T U x y = some (s', c)) :
    Shape1 (fun s => dAppend P s o T U x y) ops st s' o c := by
  have hmem : ∀ z ∈ cl.args.toList, z ∈ o.op.operands.toList := fun z hz => by
    rw [ho]; simp only [Op.operands, Call.operands, hcal]; simpa using hz
  have hmx := hmem x (by rw [hargs]; simp)
  have hmy := hmem y (by rw [hargs]; simp)
  unfold dAppend at h
  split at h
  · rename_i hU
    split at h
    · rename_i st' v hop
      have hhd : ∃ r pre, appAt st x = some (r, pre) := by
        split at h
        · rename_i s p e; exact ⟨_, _, e⟩
        · rename_i i p e; exact ⟨_, _, e⟩
        · cases h
      obtain ⟨r, pre, hx⟩ := hhd
      have h := (wk_at hx (setSlot st' o.dst v)).symm.trans h
      cases h
      have hop1 := hop
      unfold appendOp at hop1
      split at hop1
      · rename_i e k ys he hy
        split at hop1
        · rename_i hcond
          have hop := (appendOp_at he hy hcond hx).symm.trans hop
          have hop0 := hop
          unfold appendGo at hop
          split at hop
          · rename_i tg n cs hn0
            have hroot : rooty (rootPV st r) = true := by
              have := hn0
              unfold navS at this
              split at this
              · exact rooty_root (by assumption)
              · cases this
            have hdst : ∀ s, r = .slot s → o.dst ≠ some s := fun s e hd => by
              subst e
              have hr : rooty (get st.fr s) = false := by unfold idle at hi; rw [hd] at hi; simpa using hi
              simp only [rootPV] at hroot
              rw [hr] at hroot; cases hroot
            have hst' : st' = moveOut st r pre := by
              split at hop
              · split at hop
                · split at hop
                  · cases hop; rfl
                  · cases hop
                · split at hop
                  · cases hop; rfl
                  · cases hop
                · cases hop
              · cases hop
            subst hst'
            have hKe : ∀ v, (outEf st r pre).K v = v ∨ ((outEf st r pre).K v = .undef ∧ hits (wkOf r) v = true) := by
              cases pre with
              | none =>
                cases r with
                | slot t =>
                  refine killHits (k := .slot t) (r := .slot t) fun r' pre' hk => ?_
                  simp [Kill.hits] at hk
                  exact ⟨hk, fun i e => (by cases e)⟩
                | heap i => exact fun v => .inl rfl
              | some q =>
                have e2 : outEf st r (some q) = putEf r (Kill.at r q).on ((rootPV st r).withKids ((rootPV st r).kids.set q .undef)) st.base := by cases r <;> rfl
                rw [e2]
                have := killHits (k := .at r q) (r := r) (fun r' pre' hk => (by
                  simp [Kill.hits] at hk
                  exact ⟨hk.1, fun _ _ => (by rw [hk.2]; rfl)⟩))
                cases r <;> exact this
            have hWe : ∀ s c, (outEf st r pre).W = some (s, c) → refOf c = none ∧ r = .slot s := by
              intro s c hw
              cases pre with
              | none =>
                cases r with
                | slot t => cases hw; exact ⟨rfl, rfl⟩
                | heap i => cases hw
              | some q =>
                cases r with
                | slot t =>
                  have : some (t, (rootPV st (.slot t)).withKids ((rootPV st (.slot t)).kids.set q .undef)) = some (s, c) := hw
                  cases this
                  refine ⟨?_, rfl⟩
                  cases hg : rootPV st (.slot s) <;> rw [hg] at hroot <;> first | rfl | cases hroot
                | heap i => cases hw
            have heff : ∀ s : St, Live s → idle s o = true → navS s r pre = some (tg, n, cs) → outEf s r pre = outEf st r pre → Eff { outEf st r pre with v := kdst o.dst v } o.dst s (setSlot (moveOut s r pre) o.dst v) := fun s hl hi hnv he => by
              obtain ⟨h1, h2, h3, h4⟩ := out_mid hnv
              rw [he] at h1 h2 h4
              exact eff_mid hl hi h1 h2 h3 h4 (fun v => (hKe v).imp id And.left) (fun s c hw => ⟨(hWe s c hw).1, hdst s (hWe s c hw).2⟩) v
            have hfacts : Facts { outEf st r pre with v := kdst o.dst v } (.heavy (wkOf r)) (o.looksAt ops) o.dst st := by
              refine ⟨hKe, ?_⟩
              cases r with
              | slot t =>
                cases pre with
                | none => exact ⟨⟨_, rfl⟩, fun _ => rfl, hdst t rfl, hroot⟩
                | some q => exact ⟨⟨_, rfl⟩, fun _ => rfl, hdst t rfl, hroot⟩
              | heap i => cases pre <;> rfl
            refine ⟨_, heff st hl hi hn0 rfl, hfacts, fun s2 hb hnr _ hhp hi2 hl2 => ?_⟩
            have hhp := hhp (Nat.le_refl _)
            have hH : NearH (o.looksAt ops) st s2 := fun _ _ i _ _ => by rw [hhp]
            have hx2 : appAt s2 x = some (r, pre) := by
              unfold appAt at hx ⊢
              rw [opv_near hnr hmx]; exact hx
            have hr2 : rootPV s2 r = rootPV st r := by
              rcases appAt_cases hx with hx | ⟨t, g, n, cs, rfl, rfl, rfl, hx, _⟩
              · have h4 := sameRoot_opv hnr hmx (fun _ _ _ => hH)
                rw [hx] at h4
                exact h4 r pre rfl
              · have hg : ∀ fr : Fr, opv fr (.tmp t) = .sl g n cs → get fr t = .sl g n cs := fun fr h => by
                  simp only [opv] at h
                  split at h
                  · cases h
                  · exact h
                show get s2.fr t = get st.fr t
                rw [hg _ hx, hg _ ((opv_near hnr hmx).trans hx)]
            have hn2 : navS s2 r pre = some (tg, n, cs) := (navS_same hr2).trans hn0
            have he2 : outEf s2 r pre = outEf st r pre := by
              cases pre with
              | none => cases r <;> rfl
              | some q => cases r <;> simp only [outEf, hr2, hb]
            refine ⟨_, ?_, heff s2 hl2 hi2 hn2 he2⟩
            have hgo : appendGo P s2 e k ys r pre = some (moveOut s2 r pre, v) := by
              unfold appendGo
              rw [hn2]
              simp only
              split at hop
              · rename_i hc2
                rw [if_pos hc2]
                split at hop
                · split at hop
                  · rename_i hs; cases hop; simp only [hs, if_true]
                  · cases hop
                · split at hop
                  · rename_i hs; cases hop; simp only [hs, if_true]
                  · cases hop
                · cases hop
              · cases hop
            have hap : appendOp P s2 T x (opv s2.fr y) = some (moveOut s2 r pre, v) := by
              rw [appendOp_at he (by rw [opv_near hnr hmy, content_same (sameRoot_opv hnr hmy (fun _ _ _ => hH)), hy]) hcond hx2]
              exact hgo
            show dAppend P s2 o T U x y = _
            unfold dAppend
            rw [if_pos hU, hap]
            exact wk_at hx2 _
          · cases hop
        · cases hop1
      · cases hop1
    · cases h
  · cases h
theorem dSlice1_shape (hl : Live st) (hi : idle st o = true) {T : TypeId} {n : Nat} {parts : Array (Nat × Operand)} (ho : o.op = .buildSlice T n parts) (h : dSlice1 P st o T n parts = some (s', c)) :
    Shape1 (fun s => dSlice1 P s o T n parts) ops st s' o c := by
  unfold dSlice1 at h
  split at h
  · rename_i j t hp
    have hmt : Operand.tmp t ∈ o.op.operands.toList := by
      rw [ho]; simp only [Op.operands]
      have : (j, Operand.tmp t) ∈ parts.toList := by rw [hp]; simp
      simp only [Array.toList_map, List.mem_map]
      exact ⟨_, this, rfl⟩
    have hL : t ∈ o.looksAt ops := tmp_looks hmt
    split at h
    · rename_i q m cs e hg he
      have hroot : rooty (rootPV st (.slot t)) = true := by simp only [rootPV]; rw [hg]; rfl
      have hdst : ∀ s, Root.slot t = .slot s → o.dst ≠ some s := fun s e hd => by
        cases e
        have hr : rooty (get st.fr t) = false := by unfold idle at hi; rw [hd] at hi; simpa using hi
        rw [hg] at hr; cases hr
      have hnav : ∀ s : St, get s.fr t = .sl (.mu q) m cs → navS s (.slot t) none = some (.mu q, m, cs) := fun s hs => by
        unfold navS nav; simp only [rootPV]; rw [hs]
      split at h
      · rename_i z hz
        split at h
        · rename_i hc
          split at h
          · rename_i ds hf
            cases h
            have hKe : ∀ v, (outEf st (.slot t) none).K v = v ∨ ((outEf st (.slot t) none).K v = .undef ∧ hits (wkOf (.slot t)) v = true) :=
              killHits (k := .slot t) (r := .slot t) fun r' pre' hk => by
                simp [Kill.hits] at hk
                exact ⟨hk, fun i e => (by cases e)⟩
            have heff : ∀ s : St, Live s → idle s o = true → get s.fr t = .sl (.mu q) m cs → Eff { outEf st (.slot t) none with v := kdst o.dst (.sl (.mu (sizeT P e)) n ds) } o.dst s (setSlot { s with fr := drop t s.fr } o.dst (.sl (.mu (sizeT P e)) n ds)) := fun s hl hi hs => by
              obtain ⟨h1, h2, h3, h4⟩ := out_mid (hnav s hs)
              exact eff_mid hl hi h1 h2 h3 h4 (fun v => (hKe v).imp id And.left) (fun s c hw => by cases hw; exact ⟨rfl, hdst t rfl⟩) _
            have hfacts : Facts { outEf st (.slot t) none with v := kdst o.dst (.sl (.mu (sizeT P e)) n ds) } (.heavy (.slot t)) (o.looksAt ops) o.dst st :=
              ⟨hKe, ⟨_, rfl⟩, fun _ => rfl, hdst t rfl, by rw [hg]; rfl⟩
            refine ⟨_, heff st hl hi hg, hfacts, fun s2 hb hnr _ _ hi2 hl2 => ?_⟩
            have hg2 : get s2.fr t = .sl (.mu q) m cs := (hnr t hL).1.trans hg
            refine ⟨_, ?_, heff s2 hl2 hi2 hg2⟩
            show dSlice1 P s2 o T n parts = _
            unfold dSlice1
            rw [hp]
            simp only [hg2, he, hz]
            rw [if_pos hc, hf]
          · cases h
        · cases h
      · cases h
    · cases h
  · cases h
theorem ownPart_same {T : TypeId} {n : Nat} {parts : Array (Nat × Operand)} (ho : o.op = .buildSlice T n parts) {s2 : St} (hn : Near (o.looksAt ops) st s2) : ownPart s2 parts = ownPart st parts := by
  unfold ownPart
  split
  · rename_i j t hp
    have hmt : Operand.tmp t ∈ o.op.operands.toList := by
      rw [ho]; simp only [Op.operands]
      have : (j, Operand.tmp t) ∈ parts.toList := by rw [hp]; simp
      simp only [Array.toList_map, List.mem_map]
      exact ⟨_, this, rfl⟩
    rw [(hn t (tmp_looks hmt)).1]
  · rfl
end
end Go.PS
end

section
/-
  Regions that ask for their order: a step, whatever it is.
-/
namespace Go.PS
section
variable {g g' g1 g2 : G} {w w' w1 w2 : World} {hn hn' : Nat} {tm : Array Value} {fr fr' : Fr} {hp hp' hp1 hp2 : Heap} {P : Program} {t : Nat} {st s2 st1 s' : St} {H : Hint} {own : FuncId → Option Nat} {callF : CallF} {ops : Array Oper} {o : Oper} {c : Cl}

theorem Shape1.congr {F F' : St → Option (St × Cl)} (h : Shape1 F ops st s' o c) (hF : ∀ s2, Near (o.looksAt ops) st s2 → F' s2 = F s2) : Shape1 F' ops st s' o c := by
  obtain ⟨e, h1, h2, h3⟩ := h
  refine ⟨e, h1, h2, fun s2 hb hn hh hhp hi hl => ?_⟩
  obtain ⟨s2', h4, h5⟩ := h3 s2 hb hn hh hhp hi hl
  exact ⟨s2', by rw [hF s2 hn]; exact h4, h5⟩

theorem viewH_none (h : o.looksAt ops = (match o.guard with | some (g, _) => ((ops[g]?).bind (·.dst)).toList | none => [])) : True := trivial

theorem stepD1_shape (hl : Live st) (hi : idle st o = true) (hg : ∀ t ∈ o.looksAt ops, (∀ x, Operand.tmp t ≠ x ∨ x ∉ o.op.operands.toList) → viewH (get st.fr t) = false) (h : stepD1 P H own callF ops st o = some (s', c)) :
    Shape1 (fun s => stepD1 P H own callF ops s o) ops st s' o c := by
  have h0 := h
  unfold stepD1 at h
  cases ho : o.op with
  | store T a x =>
    rw [ho] at h
    exact (dStore_shape hl hi ho h).congr fun s2 _ => by unfold stepD1; rw [ho]
  | assign x =>
    rw [ho] at h
    exact (dAssign_shape hl hi (by rw [ho]; simp [Op.operands]) (by rw [ho]; rfl) h).congr fun s2 _ => by unfold stepD1; rw [ho]
  | alloc T =>
    rw [ho] at h
    refine (dAlloc_shape hl hi h ho fun t ht => hg t ht fun x => .inr (by rw [ho]; simp [Op.operands])).congr fun s2 _ => by unfold stepD1; rw [ho]
  | build T parts =>
    rw [ho] at h
    exact (dBuild_shape hl hi ho h).congr fun s2 _ => by unfold stepD1; rw [ho]
  | buildSlice T n parts =>
    rw [ho] at h
    simp only at h
    split at h
    · rename_i hw
      exact (dSlice1_shape hl hi ho h).congr fun s2 hn => by unfold stepD1; rw [ho]; simp only; rw [if_pos ((ownPart_same ho hn).trans hw)]
    · rename_i hw
      exact (dSlice_shape hl hi ho h).congr fun s2 hn => by unfold stepD1; rw [ho]; simp only; rw [if_neg (by rw [ownPart_same ho hn]; exact hw)]
  | load T a =>
    rw [ho] at h
    exact (dLoad_shape hl hi ho h).congr fun s2 _ => by unfold stepD1; rw [ho]
  | call cl =>
    rw [ho] at h
    simp only at h
    split at h
    · rename_i f hcal
      split at h
      · rename_i fid cap hf
        refine (dCall_shape hl hi ho hcal h).congr fun s2 hn => ?_
        have hmf : f ∈ o.op.operands.toList := by rw [ho]; simp [Op.operands, Call.operands, hcal]
        have hf2 : opv s2.fr f = .fn fid cap := (opv_near hn hmf).trans hf
        unfold stepD1; rw [ho]; simp only [hcal, hf2]
      · cases h
    · rename_i hcal
      split at h
      · rename_i x y T U hargs hT
        exact (dAppend_shape hl hi ho hcal hargs h).congr fun s2 hn => by unfold stepD1; rw [ho]; simp only [hcal, hargs, hT]
      · cases h
    · cases h
    · rename_i b h1 h2 hcal
      exact (dA_shape hl hi h).congr fun s2 hn => by
        unfold stepD1; rw [ho]; simp only [hcal]
        first | done | (split <;> first | rfl | (rename_i e; cases e; exact (h1 rfl).elim) | (rename_i e; cases e; exact (h2 rfl).elim) | (exfalso; simp_all))
    · cases h
  | box T x => rw [ho] at h; cases h
  | makeFunc f a b => rw [ho] at h; cases h
  | makeSlice T a b =>
    rw [ho] at h
    simp only at h
    unfold dMake at h
    split at h
    · rename_i hd
      exact (dA_shape hl hi h).congr fun s2 _ => by unfold stepD1; rw [ho]; simp only; unfold dMake; rw [if_pos hd]
    · cases h
  | _ =>
    rw [ho] at h
    exact (dA_shape hl hi h).congr fun s2 _ => by unfold stepD1; rw [ho]

theorem shareRange_id {r : Root} {off : Nat} : ∀ (k : Nat), (∀ j, j < k → ∀ s n cs, navS st r (some (off + j)) ≠ some (.mu s, n, cs)) → shareRange st r off k = st
  | 0, _ => rfl
  | k + 1, h => by
    unfold shareRange
    rw [shareRange_id k fun j hj => h j (by omega)]
    unfold shareAt
    split
    · rename_i e
      split at e
      · rename_i s n cs hn; exact (h k (by omega) _ _ _ hn).elim
      · cases e; rfl
      · cases e
    · rfl

theorem not_shares {T : TypeId} {a : Operand} (h : shares P st T a = false) {r : Root} {off : Nat} (ha : opv st.fr a = .ptr r none off) (hT : isAggT P T = true) : shareRange st r off (sizeT P T) = st := by
  refine shareRange_id _ fun j hj s n cs hn => ?_
  unfold shares at h
  rw [ha] at h
  simp only [hT, Bool.true_and, List.any_eq_false] at h
  unfold navS at hn
  split at hn
  · rename_i hnav
    cases hn
    obtain ⟨c0, hr, hc⟩ := nav_root hnav
    rw [hr] at h
    have := h (.sl (.mu s) n cs) (by
      rw [List.mem_iff_getElem?]
      exact ⟨j, by rw [List.getElem?_take, if_pos hj, List.getElem?_drop]; exact hc⟩)
    simp [isMu] at this
  · cases hn

theorem stepD_stepOp (h : stepD P H own callF ops st o = some (s', c)) : stepOp P H own callF st o = some s' := by
  unfold stepD at h
  split at h
  rotate_left
  · cases h
  unfold stepD1 at h
  unfold stepOp
  have dA' : dA P ops st o = some (s', c) → (stepA P st o).map (fun v => setSlot st o.dst v) = some s' := fun h => by
    unfold dA at h
    split at h
    · rename_i v hv; cases h; rw [hv]; rfl
    · cases h
  cases ho : o.op with
  | store T a x =>
    rw [ho] at h
    simp only at h ⊢
    unfold dStore at h
    split at h
    · rename_i hc
      rw [preShare_ok hc.1]
      split at h
      · rename_i st2 hst
        rw [hst, hc.2]
        split at h
        · cases h; rfl
        · cases h; rfl
      · cases h
    · cases h
  | assign x =>
    rw [ho] at h
    simp only at h ⊢
    unfold dAssign at h
    split at h
    · rename_i hc
      obtain ⟨d, hd⟩ := Option.isSome_iff_exists.1 hc.2
      rw [hd, preShare_ok hc.1]
      split at h
      · rename_i st2 v ht
        have := take_ok hc.1 ht
        subst this
        split at h
        · cases h
        · rename_i hv
          cases h
          simp only
          unfold assign
          rw [ht]
          simp only [hd, setSlot]
          cases v <;> first | rfl | exact (hv rfl).elim
      · cases h
    · cases h
  | alloc T =>
    rw [ho] at h
    simp only at h ⊢
    unfold dAlloc at h
    split at h
    · rename_i t z hd hz
      try rw [hd, hz]
      try simp only
      split at h
      · rename_i hb; cases h; rw [if_pos hb]
      · cases h
    · cases h
  | build T parts =>
    rw [ho] at h
    simp only at h ⊢
    unfold dBuild at h
    split at h
    · rename_i z pl d hz hp hd
      split at h
      · rename_i hok
        split at h
        · rename_i st2 cs hb
          have := buildL_ok hok.2 hb
          subst this
          cases h
          rw [preShares_ok parts.toList fun p hp => List.all_eq_true.1 hok.1 p hp]
          unfold buildOp
          rw [hz, hp, hd]
          simp only [hb]
        · cases h
      · cases h
    · cases h
  | buildSlice T n parts =>
    rw [ho] at h
    simp only at h ⊢
    split at h
    · unfold dSlice1 at h
      split at h
      · rename_i j t hp
        split at h
        · rename_i q m cs e hg he
          split at h
          · rename_i z hz
            split at h
            · rename_i hc
              split at h
              · rename_i ds hf
                cases h
                have ht : takeL st (parts.toList.map (·.2)) = some ({ st with fr := drop t st.fr }, [.sl .sh m cs]) := by
                  rw [hp]
                  simp [takeL, takeOut, opv, hg, take, cellsOf, storable, out, outCell]
                rw [ht, he]
                simp only [hz]
                rw [if_pos ⟨hc.1, hc.2.1⟩, show parts.toList.map (·.1) = [j] by rw [hp]; rfl, hf]
              · cases h
            · cases h
          · cases h
        · cases h
      · cases h
    unfold dSlice at h
    split at h
    · rename_i hok
      split at h
      · rename_i st2 vs e ht he
        have := takeL_ok hok ht
        subst this
        try rw [ht, he]
        try simp only
        split at h
        · rename_i z hz
          split at h
          · rename_i hc
            split at h
            · rename_i cs hf
              cases h
              first | (simp only [hz, hc, hf, and_self, if_true]; done) | (rw [if_pos hc]) | (simp only [hf, if_pos hc])
            · cases h
          · cases h
        · cases h
      · cases h
    · cases h
  | load T a =>
    rw [ho] at h
    simp only at h ⊢
    unfold dLoad at h
    split at h
    · cases h
    · rename_i hs
      have hs : shares P st T a = false := by simpa using hs
      split
      · rename_i t off hop
        split
        · rename_i hT
          rw [not_shares hs hop hT]
          exact dA' h
        · exact dA' h
      · rw [hs]
        exact dA' h
      · exact dA' h
  | call cl =>
    rw [ho] at h
    simp only at h ⊢
    split at h
    · rename_i f hcal
      try rw [hcal]
      try simp only
      split at h
      · rename_i fid cap hf
        try rw [hf]
        try simp only
        unfold dCall at h
        split at h
        · rename_i hc
          split at h
          · cases h
          · rename_i st2 vs ht
            obtain ⟨hhp, _, _⟩ := okArgs_same (s2 := st) hc.2 ht (fun _ _ => rfl) (fun _ _ _ _ _ => rfl)
            unfold callOp takeArgs
            rw [hc.1]
            simp only [ht]
            rw [hhp]
            split at h
            · cases h
            · rename_i r hp' d hcf
              try rw [hcf]
              try simp only
              split at h
              · rename_i hp
                cases h
                rw [if_pos ⟨trivial, hp.1, hp.2⟩]
              · rename_i hp
                split at h
                · rename_i hall
                  have := takeL_ok hall ht
                  subst this
                  cases h
                  rw [if_neg (fun hh => hp ⟨hh.2.1, hh.2.2⟩)]
                · cases h
        · cases h
      · cases h
    · rename_i hcal
      try rw [hcal]
      try simp only
      split at h
      · rename_i x y T U hargs hT
        try simp only [hargs, hT]
        unfold dAppend at h
        split at h
        · rename_i hU
          try rw [if_pos hU]
          split at h
          · rename_i st2 v hop
            try rw [hop]
            try simp only
            split at h
            · cases h; rfl
            · cases h; rfl
            · cases h
          · cases h
        · cases h
      · cases h
    · cases h
    · rename_i b h1 h2 hcal
      rw [hcal]
      have hb1 : b ≠ .append := fun e => by subst e; exact h1 rfl
      have hb2 : b ≠ .copy := fun e => by subst e; exact h2 rfl
      cases b <;> first | exact dA' h | exact (hb1 rfl).elim | exact (hb2 rfl).elim
    · cases h
  | box T x => rw [ho] at h; cases h
  | makeFunc f a b => rw [ho] at h; cases h
  | makeSlice T a b =>
    rw [ho] at h
    simp only at h ⊢
    unfold dMake at h
    split at h
    · rename_i hd
      obtain ⟨d, hd⟩ := Option.isSome_iff_exists.1 hd
      rw [hd]
      have := dA' h
      rw [hd] at this
      exact this
    · cases h
  | _ =>
    rw [ho] at h
    exact dA' h
end
end Go.PS
end

section
/-
  Regions that ask for their order: two steps change places.
-/
namespace Go.PS
section
variable {g g' g1 g2 : G} {w w' w1 w2 : World} {hn hn' : Nat} {tm : Array Value} {fr fr' : Fr} {hp hp' hp1 hp2 : Heap} {P : Program} {t : Nat} {st s2 st1 s1 s' : St} {H : Hint} {own : FuncId → Option Nat} {callF : CallF} {ops : Array Oper} {o x y : Oper} {c cx cy : Cl}

def guardL (ops : Array Oper) (o : Oper) : List Nat := match o.guard with
  | some (g, _) => ((ops[g]?).bind (·.dst)).toList
  | none => []
theorem guard_looks {t : Nat} (h : t ∈ guardL ops o) : t ∈ o.looksAt ops := by
  unfold Oper.looksAt guardL at *
  exact List.mem_append_right _ h
theorem looks_cases {t : Nat} (h : t ∈ o.looksAt ops) : Operand.tmp t ∈ o.op.operands.toList ∨ t ∈ guardL ops o := by
  unfold Oper.looksAt at h
  rcases List.mem_append.1 h with h | h
  · obtain ⟨x, hx, he⟩ := List.mem_filterMap.1 h
    cases x <;> simp at he
    subst he; exact .inl hx
  · exact .inr h
theorem wanted_guard {b : Bool} (h : wantedP ops fr o = some b) {t : Nat} (ht : t ∈ guardL ops o) : (∃ q, get fr t = .bool q) ∨ ∃ q, get fr t = .raw (.tuple q) := by
  unfold wantedP at h
  unfold guardL at ht
  split at h
  · rename_i hg; rw [hg] at ht; cases ht
  · rename_i j want hg
    rw [hg] at ht
    simp only at ht
    split at h
    · rename_i t' hj
      rw [hj] at ht
      have : t = t' := by simpa using ht
      subst this
      split at h
      · rename_i q hq; exact .inl ⟨q, hq⟩
      · rename_i q hq; exact .inr ⟨q, hq⟩
      · cases h
    · cases h
theorem wanted_near (h : ∀ t ∈ guardL ops o, get s2.fr t = get st.fr t) : wantedP ops s2.fr o = wantedP ops st.fr o := by
  unfold wantedP
  unfold guardL at h
  split
  · rfl
  · rename_i j want hg
    rw [hg] at h
    simp only at h
    split
    · rename_i t hj
      rw [hj] at h
      rw [h t (by simp)]
    · rfl

/-- What is known of a step with its guard. -/
structure GS (P : Program) (H : Hint) (own : FuncId → Option Nat) (callF : CallF) (ops : Array Oper) (st s' : St) (o : Oper) (c : Cl) (L : List Nat) (e : Ef) : Prop where
  idle : idle st o = true
  sub : ∀ t ∈ L, t ∈ o.looksAt ops
  known : ∀ t ∈ L, get st.fr t ≠ .undef
  eff : Eff e o.dst st s'
  facts : Facts e c L o.dst st
  loc : ∀ s2, s2.base = st.base → Near L st s2 → (1 ≤ lvl c → NearH L st s2) → (2 ≤ lvl c → s2.hp = st.hp) → PS.idle s2 o = true → Live s2 → ∃ s2', gD P H own callF ops s2 o = some (s2', c) ∧ Eff e o.dst s2 s2'

theorem gD_shape (hl : Live st) (h : gD P H own callF ops st o = some (s', c)) : ∃ L e, GS P H own callF ops st s' o c L e := by
  unfold gD at h
  split at h
  · rename_i hw
    unfold stepD at h
    split at h
    rotate_left
    · cases h
    rename_i hc
    have hgv : ∀ t ∈ guardL ops o, viewH (get st.fr t) = false := fun t ht => by
      rcases wanted_guard hw ht with ⟨q, hq⟩ | ⟨q, hq⟩ <;> rw [hq] <;> rfl
    obtain ⟨e, h1, h2, h3⟩ := stepD1_shape hl hc.1 (fun t ht hx => by
      rcases looks_cases ht with h4 | h4
      · rcases hx _ with h5 | h5
        · exact (h5 rfl).elim
        · exact (h5 h4).elim
      · exact hgv t h4) h
    refine ⟨o.looksAt ops, e, hc.1, fun t ht => ht, fun t ht hu => ?_, h1, h2, fun s2 hb hn hh hhp hi hl2 => ?_⟩
    · have := List.all_eq_true.1 hc.2 t ht
      rw [hu] at this; cases this
    · obtain ⟨s2', h4, h5⟩ := h3 s2 hb hn hh hhp hi hl2
      refine ⟨s2', ?_, h5⟩
      unfold gD stepD
      rw [wanted_near fun t ht => (hn t (guard_looks ht)).1, hw]
      simp only
      rw [if_pos ⟨hi, by rw [known_same hn]; exact hc.2⟩]
      exact h4
  · rename_i hw
    split at h
    · rename_i hi
      cases h
      refine ⟨guardL ops o, _, hi, fun t ht => guard_looks ht, fun t ht hu => ?_, eff_pure hl hi _, ⟨rfl, fun _ => rfl, fun _ => rfl, fun _ => rfl, fun _ => ⟨?_, fun t ht => ?_⟩, fun s hs => ⟨fun hh => ?_, fun t ht => ?_, ?_, fun hd => ?_⟩⟩, fun s2 hb hn hh hhp hi2 hl2 => ⟨_, ?_, eff_pure hl2 hi2 _⟩⟩
      · rcases wanted_guard hw ht with ⟨q, hq⟩ | ⟨q, hq⟩ <;> rw [hq] at hu <;> cases hu
      · exact viewH_kdst rfl
      · rcases wanted_guard hw ht with ⟨q, hq⟩ | ⟨q, hq⟩ <;> rw [hq] <;> rfl
      · have hs : s ∉ o.looksAt ops ++ o.dst.toList := by simpa using hs
        exact hs (List.mem_append_left _ (guard_looks hh))
      · rcases wanted_guard hw ht with ⟨q, hq⟩ | ⟨q, hq⟩ <;> rw [hq] <;> rfl
      · exact rootS_kdst rfl
      · have hs : s ∉ o.looksAt ops ++ o.dst.toList := by simpa using hs
        exact hs (List.mem_append_right _ (by simp [hd]))
      · unfold gD
        rw [wanted_near fun t ht => (hn t ht).1, hw]
        simp only [hi2, if_true]
    · cases h
  · cases h

/-- States that are the same. -/
structure Same (st s2 : St) : Prop where
  get : ∀ u, PS.get s2.fr u = PS.get st.fr u
  hp : s2.hp = st.hp
  base : s2.base = st.base
  dirty : s2.dirty = st.dirty
theorem Same.refl (st : St) : Same st st := ⟨fun _ => rfl, rfl, rfl, rfl⟩
theorem Same.symm (h : Same st s2) : Same s2 st := ⟨fun u => (h.get u).symm, h.hp.symm, h.base.symm, h.dirty.symm⟩
theorem Same.trans {s3 : St} (h : Same st s2) (h' : Same s2 s3) : Same st s3 := ⟨fun u => (h'.get u).trans (h.get u), h'.hp.trans h.hp, h'.base.trans h.base, h'.dirty.trans h.dirty⟩
theorem Same.live (h : Same st s2) (hl : Live st) : Live s2 := fun t t' pre hr => by
  rw [h.get] at hr ⊢; exact hl t t' pre hr
theorem Same.idle (h : Same st s2) (hi : idle st o = true) : PS.idle s2 o = true := by
  unfold PS.idle at hi ⊢
  split
  · rename_i d hd; rw [hd] at hi; rw [h.get]; exact hi
  · rfl

theorem gD_congr (hl : Live st) (h : gD P H own callF ops st o = some (s', c)) (hs : Same st s2) : ∃ s2', gD P H own callF ops s2 o = some (s2', c) ∧ Same s' s2' := by
  obtain ⟨L, e, G⟩ := gD_shape hl h
  obtain ⟨s2', h1, h2⟩ := G.loc s2 hs.base (fun t _ => ⟨hs.get t, fun q _ _ => hs.get q⟩) (fun _ _ _ i _ _ => by rw [hs.hp]) (fun _ => hs.hp) (hs.idle G.idle) (hs.live hl)
  refine ⟨s2', h1, fun u => ?_, ?_, ?_, ?_⟩
  · rw [h2.get, G.eff.get, hs.get]
  · rw [h2.hp, G.eff.hp, hs.hp]
  · rw [h2.base, G.eff.base, hs.base]
  · rw [h2.dirty, G.eff.dirty, hs.dirty]

theorem hits_rooty {k : Wk} {v : PV} (h : rooty v = true) : hits k v = false := by
  cases k <;> cases v <;> first | rfl | cases h
theorem K_rooty {e : Ef} {k : Wk} (hK : ∀ v, e.K v = v ∨ (e.K v = .undef ∧ hits k v = true)) (v : PV) : rooty (e.K v) = rooty v := by
  rcases hK v with h | ⟨h, hh⟩
  · rw [h]
  · rw [h]
    cases hr : rooty v with
    | false => rfl
    | true => rw [hits_rooty hr] at hh; cases hh

/-- What a heavy step leaves as it was, where the pure step looks. -/
structure Calm (e : Ef) (k : Wk) (L : List Nat) (dst : Option Nat) (st : St) : Prop where
  at' : ∀ t ∈ L, hits k (get st.fr t) = false → e.at t (get st.fr t) = get st.fr t

theorem at_calm {e : Ef} {k : Wk} {L : List Nat} {dst : Option Nat} (hf : Facts e (.heavy k) L dst st) (u : Nat) (v : PV) (hk : hits k v = false) (hu : ∀ s, k = .slot s → u ≠ s) : e.at u v = v := by
  obtain ⟨hK, hW⟩ := hf
  have hKv : e.K v = v := by
    rcases hK v with h | ⟨_, h⟩
    · exact h
    · rw [hk] at h; cases h
  unfold Ef.at
  cases k with
  | none => rw [hW]; exact hKv
  | heap => rw [hW]; exact hKv
  | slot s =>
    obtain ⟨⟨c, hw⟩, _⟩ := hW
    rw [hw]
    simp only
    rw [if_neg (hu s rfl)]; exact hKv
theorem at_cases {e : Ef} {k : Wk} {L : List Nat} {dst : Option Nat} (hf : Facts e (.heavy k) L dst st) (u : Nat) (v : PV) (hu : ∀ s, k = .slot s → u ≠ s) : e.at u v = v ∨ e.at u v = .undef := by
  obtain ⟨hK, hW⟩ := hf
  have hKv : e.K v = v ∨ e.K v = .undef := (hK v).imp id And.left
  unfold Ef.at
  cases k with
  | none => rw [hW]; exact hKv
  | heap => rw [hW]; exact hKv
  | slot s =>
    obtain ⟨⟨c, hw⟩, _⟩ := hW
    rw [hw]
    simp only
    rw [if_neg (hu s rfl)]; exact hKv
theorem at_pure {e : Ef} {n : Nat} {F L : List Nat} {dst : Option Nat} (hf : Facts e (.pure n F) L dst st) (u : Nat) (v : PV) : e.at u v = v := by
  obtain ⟨hW, hK, _⟩ := hf
  unfold Ef.at
  rw [hW]; exact hK v
theorem at_rooty {e : Ef} {k : Wk} {L : List Nat} {dst : Option Nat} (hf : Facts e (.heavy k) L dst st) (u : Nat) (v : PV) (hu : ∀ s, k = .slot s → u ≠ s) : rooty (e.at u v) = rooty v := by
  obtain ⟨hK, hW⟩ := hf
  unfold Ef.at
  cases k with
  | none => rw [hW]; exact K_rooty hK v
  | heap => rw [hW]; exact K_rooty hK v
  | slot s =>
    obtain ⟨⟨c, hw⟩, _⟩ := hW
    rw [hw]
    simp only
    rw [if_neg (hu s rfl)]; exact K_rooty hK v

theorem not_hits_of_clash {n : Nat} {F L : List Nat} {k : Wk} {e : Ef} {dst : Option Nat} (hc : clash (.pure n F) (.heavy k) = false) (hf : Facts e (.pure n F) L dst st) :
    (∀ t ∈ L, hits k (get st.fr t) = false) ∧ hits k e.v = false ∧ (∀ s, k = .slot s → s ∉ L ∧ dst ≠ some s ∧ ∀ t ∈ L, (rootS (get st.fr t)).contains s = false) := by
  obtain ⟨_, _, _, _, hn, hF⟩ := hf
  cases k with
  | none => exact ⟨fun _ _ => rfl, rfl, fun s e => by cases e⟩
  | heap =>
    have h0 : n = 0 := by simpa [clash] using hc
    exact ⟨fun t ht => (hn h0).2 t ht, (hn h0).1, fun s e => by cases e⟩
  | slot s =>
    have hs : F.contains s = false := hc
    obtain ⟨h1, h2, h3, h4⟩ := hF s hs
    exact ⟨fun t ht => h2 t ht, h3, fun q e => by cases e; exact ⟨h1, h4, h2⟩⟩
end
end Go.PS
end

section
/-
  Regions that ask for their order: two steps change places, part 2.
-/
namespace Go.PS
section
variable {P : Program} {st s2 st1 s1 s' : St} {H : Hint} {own : FuncId → Option Nat} {callF : CallF} {ops : Array Oper} {o x y : Oper} {c cx cy : Cl}

def RefLt (st : St) : Prop := ∀ t i pre, refOf (get st.fr t) = some (.heap i, pre) → i < st.hp.length
def Clean (st s' : St) (c : Cl) : Prop := c = .heavy .none → ∀ i, i < st.hp.length → s'.hp[i]? = st.hp[i]?

theorem idle_get {d : Nat} (hi : idle st o = true) (hd : o.dst = some d) : rooty (get st.fr d) = false := by
  unfold idle at hi; rw [hd] at hi; simpa using hi
theorem idle_of (h : ∀ d, o.dst = some d → rooty (get st.fr d) = false) : idle st o = true := by
  unfold idle
  split
  · rename_i d hd; simp [h d hd]
  · rfl

theorem swap (hl : Live st) (hl1 : Live s1) (hrl : RefLt st) (hy : gD P H own callF ops st y = some (s1, cy)) (hx : gD P H own callF ops s1 x = some (s2, cx)) (hap : Oper.apart ops y x = true) (hcl : clash cy cx = false)
    (hcy : Clean st s1 cy) (hokx : ∀ sx c, gD P H own callF ops st x = some (sx, c) → Live sx ∧ Clean st sx c) :
    ∃ sx s2', gD P H own callF ops st x = some (sx, cx) ∧ gD P H own callF ops sx y = some (s2', cy) ∧ Same s2 s2' := by
  obtain ⟨a1, a2, a3⟩ := Oper.apart_spec hap
  obtain ⟨Ly, ey, Gy⟩ := gD_shape hl hy
  obtain ⟨Lx, ex, Gx⟩ := gD_shape hl1 hx
  -- the slots of the one that the other one looks at
  have dyL : ∀ t ∈ Lx, y.dst ≠ some t := fun t ht hd => a1 t hd (Gx.sub t ht)
  have dxL : ∀ t ∈ Ly, x.dst ≠ some t := fun t ht hd => a3 t hd (Gy.sub t ht)
  have dxy : ∀ d, y.dst = some d → x.dst ≠ some d := a2
  have g1 : ∀ u, y.dst ≠ some u → get s1.fr u = ey.at u (get st.fr u) := fun u hu => by rw [Gy.eff.get, if_neg hu]
  -- y leaves alone what x looks at
  have hA : ∀ t ∈ Lx, get s1.fr t = get st.fr t := fun t ht => by
    rw [g1 t (dyL t ht)]
    cases cy with
    | pure n F => exact at_pure Gy.facts t _
    | heavy k =>
      cases cx with
      | heavy k' => cases hcl
      | pure n F =>
        have hcl' : clash (.pure n F) (.heavy k) = false := by simpa [clash] using hcl
        obtain ⟨_, _, hs⟩ := not_hits_of_clash hcl' Gx.facts
        rcases at_cases Gy.facts t (get st.fr t) (fun s e h => (hs s e).1 (h ▸ ht)) with h | h
        · exact h
        · have := Gx.known t ht
          rw [g1 t (dyL t ht), h] at this
          exact (this rfl).elim
  have rootA : ∀ q, rooty (get st.fr q) = true → (∀ s, cy = .heavy (.slot s) → q ≠ s) → get s1.fr q = get st.fr q := fun q hq hs => by
    have hd : y.dst ≠ some q := fun hd => by rw [idle_get Gy.idle hd] at hq; cases hq
    rw [g1 q hd]
    cases cy with
    | pure n F => exact at_pure Gy.facts q _
    | heavy k => exact at_calm Gy.facts q _ (hits_rooty hq) fun s e => hs s (by rw [e])
  have nearA : Near Lx s1 st := fun t ht => ⟨(hA t ht).symm, fun q pre hr => by
    rw [hA t ht] at hr
    refine (rootA q (rooty_of_rootOk (hl t q pre hr)) fun s e => ?_).symm
    subst e
    cases cx with
    | heavy k' => cases hcl
    | pure n F =>
      have hcl' : clash (.pure n F) (.heavy (.slot s)) = false := by simpa [clash] using hcl
      obtain ⟨_, _, hs⟩ := not_hits_of_clash hcl' Gx.facts
      have := (hs s rfl).2.2 t ht
      rw [hA t ht] at this
      unfold rootS at this
      rw [hr] at this
      intro e2; subst e2; simp at this⟩
  have hpA : ∀ (hk : ∀ k, cy = .heavy k → ∃ s, k = .slot s), s1.hp = st.hp := fun hk => by
    rw [Gy.eff.hp]
    cases cy with
    | pure n F => exact Gy.facts.2.2.1 _
    | heavy k =>
      obtain ⟨s, rfl⟩ := hk k rfl
      exact Gy.facts.2.2.1 _
  have lvlA : ∀ k, cy = .heavy k → (k = .none → lvl cx ≤ 1) ∧ (k = .heap → lvl cx = 0) := fun k e => by
    subst e
    cases cx with
    | heavy k' => cases hcl
    | pure n F =>
      constructor
      · rintro rfl; have : ¬ 2 ≤ n := by simpa [clash] using hcl
        simp only [lvl]; omega
      · rintro rfl; have : ¬ 1 ≤ n := by simpa [clash] using hcl
        simp only [lvl]; omega
  have nearHA : 1 ≤ lvl cx → NearH Lx s1 st := fun h1 t ht i pre hr => by
    rw [hA t ht] at hr
    have hlt := hrl t i pre hr
    cases hcy' : cy with
    | pure n F => rw [hpA fun k e => by rw [hcy'] at e; cases e]
    | heavy k =>
      cases k with
      | none => exact (hcy (by rw [hcy']) i hlt).symm
      | heap => have := (lvlA _ hcy').2 rfl; omega
      | slot s => rw [hpA fun k e => ⟨s, by rw [hcy'] at e; cases e; rfl⟩]
  have hpA2 : 2 ≤ lvl cx → st.hp = s1.hp := fun h2 => by
    cases hcy' : cy with
    | pure n F => rw [hpA fun k e => by rw [hcy'] at e; cases e]
    | heavy k =>
      cases k with
      | none => have := (lvlA _ hcy').1 rfl; omega
      | heap => have := (lvlA _ hcy').2 rfl; omega
      | slot s => rw [hpA fun k e => ⟨s, by rw [hcy'] at e; cases e; rfl⟩]
  have idleA : idle st x = true := idle_of fun d hd => by
    have h1 := idle_get Gx.idle hd
    have hne : y.dst ≠ some d := fun e => dxy d e hd
    rw [g1 d hne] at h1
    cases hcy' : cy with
    | pure n F => have hf := Gy.facts; rw [hcy'] at hf; rwa [at_pure hf] at h1
    | heavy k =>
      have hf := Gy.facts; rw [hcy'] at hf
      rwa [at_rooty hf d _ fun s e => ?_] at h1
      cases hcx' : cx with
      | heavy k' => rw [hcy', hcx'] at hcl; cases hcl
      | pure n F =>
        rw [hcy', hcx', e] at hcl
        have hcl' : clash (.pure n F) (.heavy (.slot s)) = false := by simpa [clash] using hcl
        have hfx := Gx.facts; rw [hcx'] at hfx
        obtain ⟨_, _, hs⟩ := not_hits_of_clash hcl' hfx
        intro e2; subst e2
        exact (hs d rfl).2.1 hd
  obtain ⟨sx, hsx, Ex⟩ := Gx.loc st Gy.eff.base.symm nearA nearHA hpA2 idleA hl
  obtain ⟨hlx, hcx⟩ := hokx sx cx hsx
  have g2 : ∀ u, x.dst ≠ some u → get sx.fr u = ex.at u (get st.fr u) := fun u hu => by rw [Ex.get, if_neg hu]
  -- x leaves alone what y looks at
  have calmB : ∀ u, hits (match cx with | .heavy k => k | _ => .none) (get st.fr u) = false → (∀ s, cx = .heavy (.slot s) → u ≠ s) → ex.at u (get st.fr u) = get st.fr u := fun u hh hs => by
    cases cx with
    | pure n F => exact at_pure Gx.facts u _
    | heavy k => exact at_calm Gx.facts u _ hh fun s e => hs s (by rw [e])
  have factsY : ∀ k, cx = .heavy k → (∀ t ∈ Ly, hits k (get st.fr t) = false) ∧ hits k ey.v = false ∧ (∀ s, k = .slot s → s ∉ Ly ∧ y.dst ≠ some s ∧ ∀ t ∈ Ly, (rootS (get st.fr t)).contains s = false) := fun k e => by
    subst e
    cases cy with
    | heavy k' => cases hcl
    | pure n F => exact not_hits_of_clash hcl Gy.facts
  have hB : ∀ t ∈ Ly, get sx.fr t = get st.fr t := fun t ht => by
    rw [g2 t (dxL t ht)]
    refine calmB t ?_ fun s e => ?_
    · cases hcx' : cx with
      | pure n F => rfl
      | heavy k => exact (factsY k hcx').1 t ht
    · intro e2; subst e2
      exact ((factsY _ e).2.2 t rfl).1 ht
  have nearB : Near Ly st sx := fun t ht => ⟨hB t ht, fun q pre hr => by
    have hq := rooty_of_rootOk (hl t q pre hr)
    have hd : x.dst ≠ some q := fun hd => by rw [idle_get idleA hd] at hq; cases hq
    rw [g2 q hd]
    refine calmB q (hits_rooty hq) fun s e => ?_
    have := ((factsY _ e).2.2 s rfl).2.2 t ht
    unfold rootS at this
    rw [hr] at this
    intro e2; subst e2; simp at this⟩
  have hpB : ∀ (hk : ∀ k, cx = .heavy k → ∃ s, k = .slot s), sx.hp = st.hp := fun hk => by
    rw [Ex.hp]
    cases cx with
    | pure n F => exact Gx.facts.2.2.1 _
    | heavy k =>
      obtain ⟨s, rfl⟩ := hk k rfl
      exact Gx.facts.2.2.1 _
  have lvlB : ∀ k, cx = .heavy k → (k = .none → lvl cy ≤ 1) ∧ (k = .heap → lvl cy = 0) := fun k e => by
    subst e
    cases cy with
    | heavy k' => cases hcl
    | pure n F =>
      constructor
      · rintro rfl; have : ¬ 2 ≤ n := by simpa [clash] using hcl
        simp only [lvl]; omega
      · rintro rfl; have : ¬ 1 ≤ n := by simpa [clash] using hcl
        simp only [lvl]; omega
  have nearHB : 1 ≤ lvl cy → NearH Ly st sx := fun h1 t ht i pre hr => by
    have hlt := hrl t i pre hr
    cases hcx' : cx with
    | pure n F => rw [hpB fun k e => by rw [hcx'] at e; cases e]
    | heavy k =>
      cases k with
      | none => exact hcx (by rw [hcx']) i hlt
      | heap => have := (lvlB _ hcx').2 rfl; omega
      | slot s => rw [hpB fun k e => ⟨s, by rw [hcx'] at e; cases e; rfl⟩]
  have hpB2 : 2 ≤ lvl cy → sx.hp = st.hp := fun h2 => by
    cases hcx' : cx with
    | pure n F => rw [hpB fun k e => by rw [hcx'] at e; cases e]
    | heavy k =>
      cases k with
      | none => have := (lvlB _ hcx').1 rfl; omega
      | heap => have := (lvlB _ hcx').2 rfl; omega
      | slot s => rw [hpB fun k e => ⟨s, by rw [hcx'] at e; cases e; rfl⟩]
  have idleB : idle sx y = true := idle_of fun d hd => by
    have h1 := idle_get Gy.idle hd
    rw [g2 d (dxy d hd)]
    cases hcx' : cx with
    | pure n F => have hf := Gx.facts; rw [hcx'] at hf; rwa [at_pure hf]
    | heavy k =>
      have hf := Gx.facts; rw [hcx'] at hf
      rw [at_rooty hf d _ fun s e => ?_]
      · exact h1
      · intro e2; subst e2; subst e
        exact ((factsY _ hcx').2.2 d rfl).2.1 hd
  obtain ⟨s2', hs2, Ey⟩ := Gy.loc sx Ex.base nearB nearHB hpB2 idleB hlx
  refine ⟨sx, s2', hsx, hs2, ⟨fun u => ?_, ?_, ?_, ?_⟩⟩
  · rw [Ey.get, Gx.eff.get]
    by_cases hdx : x.dst = some u
    · have hdy : y.dst ≠ some u := fun e => dxy u e hdx
      rw [if_pos hdx, if_neg hdy, Ex.get, if_pos hdx]
      cases hcy' : cy with
      | pure n F => have hf := Gy.facts; rw [hcy'] at hf; exact at_pure hf u _
      | heavy k =>
        have hf := Gy.facts; rw [hcy'] at hf
        cases hcx' : cx with
        | heavy k' => rw [hcy', hcx'] at hcl; cases hcl
        | pure n F =>
          have hfx := Gx.facts; rw [hcx'] at hfx
          have hcl' : clash (.pure n F) (.heavy k) = false := by rw [hcy', hcx'] at hcl; simpa [clash] using hcl
          obtain ⟨_, hv, hs⟩ := not_hits_of_clash hcl' hfx
          exact at_calm hf u _ hv fun s e e2 => (hs s e).2.1 (e2 ▸ hdx)
    · rw [if_neg hdx, Gy.eff.get]
      by_cases hdy : y.dst = some u
      · rw [if_pos hdy, if_pos hdy]
        cases hcx' : cx with
        | pure n F => have hf := Gx.facts; rw [hcx'] at hf; exact (at_pure hf u _).symm
        | heavy k =>
          have hf := Gx.facts; rw [hcx'] at hf
          obtain ⟨_, hv, hs⟩ := factsY k hcx'
          exact (at_calm hf u _ hv fun s e e2 => (hs s e).2.1 (e2 ▸ hdy)).symm
      · rw [if_neg hdy, if_neg hdy, Ex.get, if_neg hdx]
        cases hcy' : cy with
        | pure n F => have hf := Gy.facts; rw [hcy'] at hf; rw [at_pure hf, at_pure hf]
        | heavy k =>
          cases hcx' : cx with
          | heavy k' => rw [hcy', hcx'] at hcl; cases hcl
          | pure n F => have hfx := Gx.facts; rw [hcx'] at hfx; rw [at_pure hfx, at_pure hfx]
  · rw [Ey.hp, Ex.hp, Gx.eff.hp, Gy.eff.hp]
    cases hcy' : cy with
    | pure n F => have hf := Gy.facts; rw [hcy'] at hf; rw [hf.2.2.1, hf.2.2.1]
    | heavy k =>
      cases hcx' : cx with
      | heavy k' => rw [hcy', hcx'] at hcl; cases hcl
      | pure n F => have hfx := Gx.facts; rw [hcx'] at hfx; rw [hfx.2.2.1, hfx.2.2.1]
  · rw [Ey.base, Ex.base, Gx.eff.base, Gy.eff.base]
  · rw [Ey.dirty, Ex.dirty, Gx.eff.dirty, Gy.eff.dirty]
    cases hcy' : cy with
    | pure n F => have hf := Gy.facts; rw [hcy'] at hf; rw [hf.2.2.2.1, hf.2.2.2.1]
    | heavy k =>
      cases hcx' : cx with
      | heavy k' => rw [hcy', hcx'] at hcl; cases hcl
      | pure n F => have hfx := Gx.facts; rw [hcx'] at hfx; rw [hfx.2.2.2.1, hfx.2.2.2.1]
end
end Go.PS
end

section
/-
  Regions that ask for their order: states that stand for the model's.
-/
namespace Go.PS
section
variable {P : Program} {st s2 st1 s1 s' : St} {H : Hint} {own : FuncId → Option Nat} {callF : CallF} {ops : Array Oper} {o x y : Oper} {c cx cy : Cl} {nt : Nat} {w : World} {g : G}

/-- A state that stands for a state of the model. -/
def Ok (nt : Nat) (st : St) : Prop := ∃ (g : G) (w : World) (a : Act), Rel g w a.tmps st.fr st.hp ∧ st.base ≤ st.hp.length ∧ a.tmps.size = nt
theorem Ok.live (h : Ok nt st) : Live st := by obtain ⟨g, w, a, R, _⟩ := h; exact R.live
theorem Ok.refLt (h : Ok nt st) : RefLt st := by obtain ⟨g, w, a, R, _⟩ := h; exact fun t i pre hr => R.ref_lt hr
theorem Ok.same (h : Ok nt st) (hs : Same st s2) : Ok nt s2 := by
  obtain ⟨g, w, a, R, hb, hn⟩ := h
  refine ⟨g, w, a, ?_, by rw [hs.base, hs.hp]; exact hb, hn⟩
  rw [hs.hp]
  exact R.congr hs.get

theorem put_size (a : Act) (dst : Option Nat) (v : Value) : (a.put dst v).tmps.size = a.tmps.size := by cases dst <;> simp [Act.put]

/-- What an operation brings about is there. -/
theorem Runs.exists {a : Act} {K : Value → World → Prop} (h : Runs P a o w K) : ∃ v w', K v w' := by
  unfold Runs at h
  split at h
  · exact ⟨_, _, h⟩
  · exact ⟨_, _, h⟩
  · obtain ⟨e, w', fr, ⟨v, _, hv⟩, _⟩ := h []
    exact ⟨v, w', hv⟩
  · exact h.elim

theorem Ok.step (Tb : Tabs P) (hcall : CallSound P callF) (h : Ok nt st) (hd : ∀ d, o.dst = some d → d < nt) (hs : gS P H own callF ops st o = some s') : Ok nt s' := by
  obtain ⟨g, w, a, R, hb, hn⟩ := h
  unfold gS at hs
  split at hs
  · obtain ⟨v, w', g', R', S'⟩ := Runs.exists (stepOp_sound Tb R hb hcall (fun d e => by rw [hn]; exact hd d e) hs)
    exact ⟨g', w', _, R', S'.baseOk hb, (put_size a o.dst v).trans hn⟩
  · cases hs
    have hV : V g w st.hp.length Go.undef (.raw (.tuple #[])) := .raw _ rfl
    have R1 := R.putFlat (dst := o.dst) (fun d e => by rw [hn]; exact hd d e) (fun t => hV.slot t) hV.lv
    obtain ⟨h1, h2, h3⟩ := setSlot_rest st o.dst (.raw (.tuple #[]))
    exact ⟨g, w, _, R1, by rw [h1, h2]; exact hb, (put_size a o.dst _).trans hn⟩
  · cases hs
theorem gD_gS (h : gD P H own callF ops st o = some (s', c)) : gS P H own callF ops st o = some s' := by
  unfold gD at h
  unfold gS
  split at h
  · rename_i hw; exact stepD_stepOp h
  · rename_i hw
    split at h
    · cases h; rfl
    · cases h
  · cases h

/-- A heavy step that turns nobody's memory is a call. -/
theorem heavy_call (h : gD P H own callF ops st o = some (s', .heavy .none)) : ∃ cl fo f cap, o.op = .call cl ∧ cl.callee = .value fo ∧ opv st.fr fo = .fn f cap ∧ dCall own callF ops st o f cap cl.args.toList = some (s', .heavy .none) := by
  have noA : dA P ops st o ≠ some (s', .heavy .none) := fun h => by
    unfold dA at h; split at h <;> cases h
  unfold gD at h
  split at h
  · unfold stepD at h
    split at h
    rotate_left
    · cases h
    unfold stepD1 at h
    cases ho : o.op with
    | store T a x =>
      rw [ho] at h; simp only at h
      unfold dStore at h
      split at h
      · split at h
        · split at h <;> cases h
        · cases h
      · cases h
    | assign x =>
      rw [ho] at h; simp only at h
      unfold dAssign at h
      split at h
      · split at h
        · split at h <;> cases h
        · cases h
      · cases h
    | alloc T =>
      rw [ho] at h; simp only at h
      unfold dAlloc at h
      split at h
      · split at h <;> cases h
      · cases h
    | build T parts =>
      rw [ho] at h; simp only at h
      unfold dBuild at h
      split at h
      · split at h
        · split at h <;> cases h
        · cases h
      · cases h
    | buildSlice T n parts =>
      rw [ho] at h; simp only at h
      split at h
      · unfold dSlice1 at h
        split at h
        · split at h
          · split at h
            · split at h
              · split at h <;> cases h
              · cases h
            · cases h
          · cases h
        · cases h
      unfold dSlice at h
      split at h
      · split at h
        · split at h
          · split at h
            · split at h <;> cases h
            · cases h
          · cases h
        · cases h
      · cases h
    | load T a =>
      rw [ho] at h; simp only at h
      unfold dLoad at h
      split at h
      · cases h
      · exact (noA h).elim
    | call cl =>
      rw [ho] at h; simp only at h
      split at h
      · rename_i f hcal
        split at h
        · rename_i fid cap hf
          exact ⟨cl, f, fid, cap, rfl, hcal, hf, h⟩
        · cases h
      · split at h
        · unfold dAppend at h
          split at h
          · split at h
            · split at h <;> cases h
            · cases h
          · cases h
        · cases h
      · cases h
      · exact (noA h).elim
      · cases h
    | box T x => rw [ho] at h; cases h
    | makeFunc f a b => rw [ho] at h; cases h
    | makeSlice T a b =>
      rw [ho] at h; simp only at h
      unfold dMake at h
      split at h
      · exact (noA h).elim
      · cases h
    | _ => rw [ho] at h; exact (noA h).elim
  · split at h <;> cases h
  · cases h

theorem Ok.clean (hcall : CallSound P callF) (h : Ok nt st) (hs : gD P H own callF ops st o = some (s', c)) : Clean st s' c := by
  intro hc i hi
  subst hc
  obtain ⟨cl, fo, f, cap, ho, hcal, hf, hd⟩ := heavy_call hs
  obtain ⟨g, w, a, R, hb, hn⟩ := h
  unfold dCall at hd
  split at hd
  · rename_i hcnd
    split at hd
    · cases hd
    · rename_i st1 vs ht
      split at hd
      · cases hd
      · rename_i r hp' d hcf
        split at hd
        · cases hd
        · split at hd
          · rename_i hall
            have := takeL_ok hall ht
            subst this
            obtain ⟨g1, R1, S1, hlen, hV, e1, o1⟩ := takeL_sound rfl _ R ht
            obtain ⟨⟨tf, hsl⟩, _⟩ := opv_sound R a rfl fo
            rw [hf] at hsl
            obtain ⟨cv, hfv, hcs, hcv⟩ := hsl.fn_inv
            cases d with
            | true => cases hd
            | false =>
              cases hd
              let us : Array Value := cl.args.map a.eval ++ cv
              have hus : us.size = (vs ++ cap).length := by simp [us, hcs]; simpa using hlen.symm
              have hl : vs.length = cl.args.size := by simpa using hlen
              have hArgs : ArgsV g1.hide w st1.hp.length us (vs ++ cap) := by
                have key : ∀ (j : Nat) (u : Value) (y : PV), us[j]? = some u → (vs ++ cap)[j]? = some y → V g1.hide w st1.hp.length u y := by
                  intro j u y hu hy
                  simp only [us, Array.getElem?_append, Array.size_map] at hu
                  rw [List.getElem?_append] at hy
                  by_cases hj : j < cl.args.size
                  · rw [if_pos hj] at hu
                    rw [if_pos (by omega)] at hy
                    simp only [Array.getElem?_map, Option.map_eq_some_iff] at hu
                    obtain ⟨x, hx, rfl⟩ := hu
                    exact (hV j x y (by simpa using hx) hy).hide
                  · rw [if_neg hj] at hu
                    rw [if_neg (by omega), hl] at hy
                    exact ((hcv _ u y hu hy).mono S1.x.e0).hide
                exact ⟨0, fun j u y _ h1 h2 => key j u y h1 h2, fun u y h1 h2 => .of (key 0 u y h1 h2)⟩
              obtain ⟨_, hcalls⟩ := hcall f (vs ++ cap) st1.hp r hp' false hcf g1.hide w us R1.hide hus hArgs
              obtain ⟨e, w', fr, ⟨v, g', _, _, x, _⟩, _⟩ := hcalls []
              rw [(setSlot_rest _ _ _).1]
              exact (x.clean rfl i hi).1
          · cases hd
  · cases hd

/-- Two steps change places, where the state stands for one of the model's. -/
theorem Ok.swap (Tb : Tabs P) (hcall : CallSound P callF) (h : Ok nt st) (hdy : ∀ d, y.dst = some d → d < nt) (hdx : ∀ d, x.dst = some d → d < nt)
    (hy : gD P H own callF ops st y = some (s1, cy)) (hx : gD P H own callF ops s1 x = some (s2, cx)) (hap : Oper.apart ops y x = true) (hcl : clash cy cx = false) :
    ∃ sx s2', gD P H own callF ops st x = some (sx, cx) ∧ gD P H own callF ops sx y = some (s2', cy) ∧ Same s2 s2' :=
  PS.swap h.live (h.step Tb hcall hdy (gD_gS hy)).live h.refLt hy hx hap hcl (h.clean hcall hy) fun sx c hsx => ⟨(h.step Tb hcall hdx (gD_gS hsx)).live, h.clean hcall hsx⟩
end
end Go.PS
end

section
/-
  Regions that ask for their order: whatever the order, the answer is that of the text.
-/
namespace Go.PS
section
variable {P : Program} {st s2 st1 s1 s' sm : St} {H : Hint} {own : FuncId → Option Nat} {callF : CallF} {ops : Array Oper} {o x y : Oper} {c cx cy : Cl} {nt : Nat} {w : World} {g : G} {cls : Nat → Cl} {free : List Nat}

inductive Ev (P : Program) (H : Hint) (own : FuncId → Option Nat) (callF : CallF) (ops : Array Oper) (cls : Nat → Cl) : List Nat → St → St → Prop
  | nil {a b : St} (h : Same a b) : Ev P H own callF ops cls [] a b
  | cons {i : Nat} {l : List Nat} {a b d : St} {q : Oper} (ho : ops[i]? = some q) (h : gD P H own callF ops a q = some (b, cls i)) (hl : Ev P H own callF ops cls l b d) : Ev P H own callF ops cls (i :: l) a d
inductive Text (P : Program) (H : Hint) (own : FuncId → Option Nat) (callF : CallF) (ops : Array Oper) (cls : Nat → Cl) (free : List Nat) : List Nat → St → St → Prop
  | nil {a : St} : Text P H own callF ops cls free [] a a
  | free {i : Nat} {l : List Nat} {a b d : St} {q : Oper} (hf : free.contains i = true) (ho : ops[i]? = some q) (h : gD P H own callF ops a q = some (b, cls i)) (hl : Text P H own callF ops cls free l b d) : Text P H own callF ops cls free (i :: l) a d
  | lone {i : Nat} {l : List Nat} {a b d : St} {q : Oper} (hf : free.contains i = false) (ho : ops[i]? = some q) (h : gS P H own callF ops a q = some b) (hl : Text P H own callF ops cls free l b d) : Text P H own callF ops cls free (i :: l) a d

def Dst (ops : Array Oper) (nt : Nat) : Prop := ∀ (i : Nat) (o : Oper), ops[i]? = some o → ∀ d, o.dst = some d → d < nt

theorem Ev.congr (Tb : Tabs P) (hcall : CallSound P callF) (hd : Dst ops nt) {l : List Nat} (h : Ev P H own callF ops cls l st sm) : ∀ {s2}, Ok nt st → Same st s2 → Ev P H own callF ops cls l s2 sm := by
  induction h with
  | nil h => intro s2 _ hs; exact .nil (hs.symm.trans h)
  | cons ho h hl ih =>
    intro s2 hok hs
    obtain ⟨s2', h1, h2⟩ := gD_congr hok.live h hs
    exact .cons ho h1 (ih (hok.step Tb hcall (hd _ _ ho) (gD_gS h)) h2)

theorem bubble (Tb : Tabs P) (hcall : CallSound P callF) (hd : Dst ops nt) {i : Nat} {l2 : List Nat} : ∀ {l1 : List Nat} {st : St}, Ok nt st → Ev P H own callF ops cls (l1 ++ i :: l2) st sm →
    (∀ y ∈ l1, ∀ oy ox, ops[y]? = some oy → ops[i]? = some ox → Oper.apart ops oy ox = true ∧ clash (cls y) (cls i) = false) →
    ∃ o si, ops[i]? = some o ∧ gD P H own callF ops st o = some (si, cls i) ∧ Ev P H own callF ops cls (l1 ++ l2) si sm
  | [], st, hok, h, _ => by
    cases h with
    | cons ho h hl => exact ⟨_, _, ho, h, hl⟩
  | y :: l1, st, hok, h, hp => by
    cases h with
    | @cons _ _ _ sy _ oy hoy h hl =>
      have hok1 := hok.step Tb hcall (hd _ _ hoy) (gD_gS h)
      obtain ⟨ox, si, hox, hgx, hev⟩ := bubble Tb hcall hd hok1 hl fun z hz => hp z (by simp [hz])
      obtain ⟨hap, hcl⟩ := hp y (by simp) oy ox hoy hox
      obtain ⟨sx, s2', h1, h2, h3⟩ := hok.swap Tb hcall (hd _ _ hoy) (hd _ _ hox) h hgx hap hcl
      exact ⟨ox, sx, hox, h1, .cons hoy h2 (hev.congr Tb hcall hd (hok1.step Tb hcall (hd _ _ hox) (gD_gS hgx)) h3)⟩

def NoFree (free : List Nat) (rest : List Nat) : Prop := ∀ f r, rest = f :: r → free.contains f = false
theorem Text.split {l : List Nat} (h : Text P H own callF ops cls free l st s') : ∃ seg rest sm, l = seg ++ rest ∧ (∀ i ∈ seg, free.contains i = true) ∧ NoFree free rest ∧ Ev P H own callF ops cls seg st sm ∧ Text P H own callF ops cls free rest sm s' := by
  induction h with
  | nil => exact ⟨[], [], _, rfl, (fun i h => by cases h), (fun f r e => by cases e), .nil (Same.refl _), .nil⟩
  | @free i l st s1 s' o hf ho h hl ih =>
    obtain ⟨seg, rest, sm, e, h1, h2, h3, h4⟩ := ih
    refine ⟨i :: seg, rest, sm, by rw [e]; rfl, fun j hj => ?_, h2, .cons ho h h3, h4⟩
    rcases List.mem_cons.1 hj with rfl | hj
    · exact hf
    · exact h1 j hj
  | @lone i l st s1 s' o hf ho h hl ih =>
    refine ⟨[], i :: l, _, rfl, (fun j h => by cases h), (fun f r e => by cases e; exact hf), .nil (Same.refl _), .lone hf ho h hl⟩

theorem evalD_text : ∀ (rest : List Oper) (i : Nat) (cls0 : List (Nat × Cl)) {st s' : St} {cls' : List (Nat × Cl)}, (∀ k, ops[i + k]? = rest[k]?) → evalD P H own callF ops free i rest cls0 st = some (s', cls') →
    Text P H own callF ops (clOf cls') free (List.range' i rest.length) st s' ∧ ∀ j, j < i → clOf cls' j = clOf cls0 j
  | [], i, cls0, st, s', cls', _, h => by cases h; exact ⟨.nil, fun _ _ => rfl⟩
  | o :: rest, i, cls0, st, s', cls', hr, h => by
    have ho : ops[i]? = some o := by simpa using hr 0
    have hr' : ∀ k, ops[i + 1 + k]? = rest[k]? := fun k => by
      have := hr (k + 1)
      rw [List.getElem?_cons_succ] at this
      rw [← this]; congr 1; omega
    rw [List.length_cons, List.range'_succ]
    unfold evalD at h
    split at h
    · rename_i hf
      split at h
      · rename_i s1 c hg
        obtain ⟨h1, h2⟩ := evalD_text rest (i + 1) _ hr' h
        have hc : clOf cls' i = c := by rw [h2 i (by omega)]; simp [clOf]
        refine ⟨.free hf ho (by rw [hc]; exact hg) h1, fun j hj => ?_⟩
        rw [h2 j (by omega)]
        unfold clOf
        rw [List.find?_cons]
        have : ((i : Nat) == j) = false := by simp; omega
        simp only [this]
      · cases h
    · rename_i hf
      split at h
      · rename_i s1 hg
        obtain ⟨h1, h2⟩ := evalD_text rest (i + 1) _ hr' h
        exact ⟨.lone (by simpa using hf) ho hg h1, fun j hj => h2 j (by omega)⟩
      · cases h

/-! ### What is before an operation -/
theorem testBit_mask (acc : List Nat) : ∀ (ds : List Nat) (m q : Nat), (ds.foldl (fun m p => m ||| 2 ^ p ||| acc.getD p 0) m).testBit q = true → m.testBit q = true ∨ ∃ p ∈ ds, q = p ∨ (acc.getD p 0).testBit q = true
  | [], m, q, h => .inl h
  | d :: ds, m, q, h => by
    rw [List.foldl_cons] at h
    rcases testBit_mask acc ds _ q h with h1 | ⟨p, hp, h1⟩
    · rw [Nat.testBit_or, Nat.testBit_or] at h1
      simp only [Bool.or_eq_true] at h1
      rcases h1 with (h1 | h1) | h1
      · exact .inl h1
      · refine .inr ⟨d, by simp, .inl ?_⟩
        rw [Nat.testBit_two_pow] at h1
        have h1 : d = q := by simpa using h1
        exact h1.symm
      · exact .inr ⟨d, by simp, .inr h1⟩
    · exact .inr ⟨p, by simp [hp], h1⟩

theorem masks_spec {full : List Oper} {L : Nat → Prop} (hcl : ∀ z oz, full[z]? = some oz → L z → ∀ p ∈ directs oz, L p) : ∀ (rest pre : List Oper) (acc : List Nat), pre ++ rest = full → acc.length = pre.length →
    (∀ i oi, pre[i]? = some oi → (∀ p ∈ directs oi, L p) → ∀ q, (acc.getD i 0).testBit q = true → L q) →
    ∀ i oi, full[i]? = some oi → (∀ p ∈ directs oi, L p) → ∀ q, ((rest.foldl (fun acc o => acc ++ [maskOf acc o]) acc).getD i 0).testBit q = true → L q
  | [], pre, acc, he, hlen, hg => by
    rw [List.append_nil] at he
    subst he
    exact hg
  | o :: rest, pre, acc, he, hlen, hg => by
    rw [List.foldl_cons]
    refine masks_spec hcl rest (pre ++ [o]) _ (by rw [List.append_assoc]; exact he) (by simp [hlen]) fun i oi hi hdir q hq => ?_
    rw [List.getElem?_append] at hi
    split at hi
    · rename_i hlt
      rw [List.getD_eq_getElem?_getD, List.getElem?_append_left (by omega), ← List.getD_eq_getElem?_getD] at hq
      exact hg i oi hi hdir q hq
    · rename_i hge
      have hi0 : i = pre.length := by
        have := (List.getElem?_eq_some_iff.1 hi).1
        simp at this; omega
      subst hi0
      simp at hi
      subst hi
      rw [List.getD_eq_getElem?_getD, ← hlen, List.getElem?_append_right (Nat.le_refl _), Nat.sub_self] at hq
      have hq : (maskOf acc o).testBit q = true := by simpa using hq
      rcases testBit_mask acc _ _ _ hq with h1 | ⟨p, hp, h1⟩
      · simp at h1
      · rcases h1 with rfl | h1
        · exact hdir _ hp
        · by_cases hlt : p < pre.length
          · have hpp : pre[p]? = some pre[p] := List.getElem?_eq_getElem hlt
            refine hg p _ hpp (fun r hr => hcl p pre[p] ?_ (hdir p hp) r hr) q h1
            rw [← he, List.getElem?_append_left hlt]; exact hpp
          · rw [List.getD_eq_getElem?_getD, List.getElem?_eq_none (by omega)] at h1
            simp at h1

theorem heavy_kind {k : Wk} (h : gD P H own callF ops st o = some (s', .heavy k)) : heavyKind o = true := by
  have noA : dA P ops st o ≠ some (s', .heavy k) := fun h => by
    unfold dA at h; split at h <;> cases h
  unfold gD at h
  split at h
  · unfold stepD at h
    split at h
    rotate_left
    · cases h
    unfold stepD1 at h
    unfold heavyKind
    cases ho : o.op with
    | store T a x => rfl
    | assign x =>
      rw [ho] at h; simp only at h
      unfold dAssign at h
      split at h
      · split at h
        · split at h <;> cases h
        · cases h
      · cases h
    | alloc T =>
      rw [ho] at h; simp only at h
      unfold dAlloc at h
      split at h
      · split at h <;> cases h
      · cases h
    | build T parts =>
      rw [ho] at h; simp only at h
      unfold dBuild at h
      split at h
      · split at h
        · split at h <;> cases h
        · cases h
      · cases h
    | buildSlice T n parts =>
      rw [ho] at h; simp only at h ⊢
      split at h
      · unfold dSlice1 at h
        split at h
        · split at h
          · split at h
            · split at h
              · rename_i hc; simp [hc.2.2]
              · cases h
            · cases h
          · cases h
        · cases h
      unfold dSlice at h
      split at h
      · split at h
        · split at h
          · split at h
            · split at h <;> cases h
            · cases h
          · cases h
        · cases h
      · cases h
    | load T a =>
      rw [ho] at h; simp only at h
      unfold dLoad at h
      split at h
      · cases h
      · exact (noA h).elim
    | call cl =>
      rw [ho] at h; simp only at h ⊢
      split at h
      · rename_i f hcal; simp only [hcal]
      · rename_i hcal; simp only [hcal]
      · cases h
      · exact (noA h).elim
      · cases h
    | box T x => rw [ho] at h; cases h
    | makeFunc f a b => rw [ho] at h; cases h
    | makeSlice T a b =>
      rw [ho] at h; simp only at h
      unfold dMake at h
      split at h
      · exact (noA h).elim
      · cases h
    | _ => rw [ho] at h; exact (noA h).elim
  · split at h <;> cases h
  · cases h
end
end Go.PS
end

section
/-
  Regions that ask for their order: the theorem.
-/
namespace Go.PS
section
variable {P : Program} {st s2 st1 s1 s' sm st' : St} {H : Hint} {own : FuncId → Option Nat} {callF : CallF} {ops : Array Oper} {o x y : Oper} {c cx cy : Cl} {nt : Nat} {w : World} {g : G} {cls : Nat → Cl} {free : List Nat} {Q : Exit → Act → World → Prop}

theorem mem_ready {listed : Array Bool} {i : Nat} (h : i ∈ Region.ready .any ops listed) : i < ops.size ∧ listed.getD i true = false ∧ ∃ o, ops[i]? = some o ∧ ∀ p ∈ directs o, listed.getD p false = true := by
  unfold Region.ready at h
  simp only [List.mem_filter, List.mem_range, Bool.and_eq_true, Bool.not_eq_true'] at h
  obtain ⟨hi, hl, ha⟩ := h
  have ho : ops[i]? = some ops[i] := Array.getElem?_eq_getElem hi
  refine ⟨hi, hl, ops[i], ho, fun p hp => ?_⟩
  rw [ho] at ha
  simp only [Option.map_some, Option.getD_some] at ha
  unfold directs at hp
  simp only [List.mem_map, List.mem_filter, Array.mem_toList_iff] at hp
  obtain ⟨e, ⟨he, hb⟩, rfl⟩ := hp
  have := Array.all_eq_true_iff_forall_mem.1 ha e he
  rw [hb] at this
  simpa using this
theorem ready_of {listed : Array Bool} {i : Nat} {o : Oper} (hi : i < ops.size) (hl : listed.getD i true = false) (ho : ops[i]? = some o) (hd : ∀ p ∈ directs o, listed.getD p false = true) : i ∈ Region.ready .any ops listed := by
  unfold Region.ready
  simp only [List.mem_filter, List.mem_range, Bool.and_eq_true, Bool.not_eq_true']
  refine ⟨hi, hl, ?_⟩
  rw [ho]
  simp only [Option.map_some, Option.getD_some]
  refine Array.all_eq_true_iff_forall_mem.2 fun e he => ?_
  cases hb : Region.binds .any e with
  | false => rfl
  | true =>
    have := hd e.on (by unfold directs; simp only [List.mem_map, List.mem_filter, Array.mem_toList_iff]; exact ⟨e, ⟨he, hb⟩, rfl⟩)
    simp [this]

theorem wpOp_gS (Tb : Tabs P) (hcall : CallSound P callF) {i : Nat} {a : Act} {K : Act → World → Prop} (R : Rel g w a.tmps st.fr st.hp) (hb : st.base ≤ st.hp.length) (ho : ops[i]? = some o) (hd : ∀ d, o.dst = some d → d < a.tmps.size) (hs : gS P H own callF ops st o = some s1)
    (hK : ∀ a' w' g', Rel g' w' a'.tmps s1.fr s1.hp → StepR st s1 g w g' w' → a'.tmps.size = a.tmps.size → a'.defers = a.defers → K a' w') : wpOp P ops Q i K a w := by
  have hsz : ∀ v, (a.put o.dst v).tmps.size = a.tmps.size := fun v => put_size a o.dst v
  have hrest : ∀ v, (a.put o.dst v).defers = a.defers := fun v => by cases o.dst <;> rfl
  unfold wpOp
  rw [ho]
  simp only
  unfold gS at hs
  split at hs
  · rename_i hw
    rw [wanted_sound R hw]
    simp only [if_true]
    exact .inl ((stepOp_sound Tb R hb hcall hd hs).wp fun v w1 ⟨g1, R1, S1⟩ => hK _ _ g1 R1 S1 (hsz v) (hrest v))
  · rename_i hw
    cases hs
    rw [wanted_sound R hw]
    simp only [Bool.false_eq_true, if_false]
    have hV : V g w st.hp.length Go.undef (.raw (.tuple #[])) := .raw _ rfl
    have R1 := R.putFlat hd (fun t => hV.slot t) hV.lv
    exact hK _ _ g R1 ((StepR.refl _ _ _).setSlot _ _) (hsz _) (hrest _)
  · cases hs

/-- What is checked of a region, once. -/
structure Chk (ops : Array Oper) (free : List Nat) (cls : Nat → Cl) : Prop where
  before : ∀ j oj, ops[j]? = some oj → ∀ p ∈ directs oj, p < j
  pair : ∀ i j oi oj, i < j → ops[i]? = some oi → ops[j]? = some oj → (((masks ops.toList).getD j 0).testBit i = true) ∨ (free.contains i = true ∧ free.contains j = true ∧ Oper.apart ops oi oj = true ∧ ((heavyKind oi = false ∧ heavyKind oj = false) ∨ clash (cls i) (cls j) = false))

theorem chk_spec {pairs : List (Nat × Nat)} (h : drawChk ops free pairs = true) (hp : pairs.all (fun p => !clash (cls p.1) (cls p.2)) = true) : Chk ops free cls := by
  unfold drawChk at h
  simp only [List.all_eq_true, List.mem_range] at h
  have hj : ∀ j oj, ops[j]? = some oj → (∀ p ∈ directs oj, p < j) ∧ ∀ i, i < j → pairChk ops free pairs (masks ops.toList) i j oj = true := fun j oj ho => by
    have hlt : j < ops.size := (Array.getElem?_eq_some_iff.1 ho).1
    have := h j hlt
    rw [ho] at this
    simp only [Bool.and_eq_true, List.all_eq_true, decide_eq_true_eq, List.mem_range] at this
    exact this
  refine ⟨fun j oj ho => (hj j oj ho).1, fun i j oi oj hij hi ho => ?_⟩
  have := (hj j oj ho).2 i hij
  unfold pairChk at this
  simp only [Bool.or_eq_true] at this
  rcases this with h1 | h1
  · exact .inl h1
  · rw [hi] at h1
    simp only [Bool.and_eq_true, Bool.or_eq_true, Bool.not_eq_true'] at h1
    obtain ⟨⟨⟨h2, h3⟩, h4⟩, h5⟩ := h1
    refine .inr ⟨h2, h3, h4, ?_⟩
    rcases h5 with h5 | h5
    · exact .inl h5
    · have h6 : (i, j) ∈ pairs := by simpa using h5
      have := List.all_eq_true.1 hp _ h6
      exact .inr (by simpa using this)

theorem ev_class {l : List Nat} (h : Ev P H own callF ops cls l st sm) : ∀ i ∈ l, ∀ o, ops[i]? = some o → heavyKind o = false → ∃ n F, cls i = .pure n F := by
  induction h with
  | nil h => intro i hi; cases hi
  | @cons i l a b d q ho h hl ih =>
    intro j hj o hoj hk
    rcases List.mem_cons.1 hj with rfl | hj
    · rw [ho] at hoj; cases hoj
      cases hc : cls j with
      | pure n F => exact ⟨n, F, rfl⟩
      | heavy k =>
        rw [hc] at h
        rw [heavy_kind h] at hk; cases hk
    · exact ih j hj o hoj hk

theorem After.ofSame {a : Act} (R : Rel g w a.tmps st.fr st.hp) (hs : Same st s2) : After st s2 g a w a w := by
  refine ⟨⟨g, by rw [hs.hp]; exact R.congr hs.get, ⟨hs.base, fun h => by rw [hs.dirty]; exact h, by rw [hs.hp]; exact X.refl _ _ _ _ _⟩⟩, rfl, rfl⟩

theorem draw_main (Tb : Tabs P) (hcall : CallSound P callF) (hd : Dst ops nt) (hc : Chk ops free cls) : ∀ (k : Nat) (seg rest : List Nat) (listed : Array Bool) (st sm st' : St) (a : Act) (w : World) (g : G), seg.length + rest.length = k →
    (seg ++ rest).Pairwise (· < ·) → listed.size = ops.size → (∀ i, i < ops.size → (listed.getD i true = false ↔ i ∈ seg ++ rest)) → (∀ i ∈ seg ++ rest, i < ops.size) →
    (∀ z oz, ops[z]? = some oz → listed.getD z false = true → ∀ p ∈ directs oz, listed.getD p false = true) → (∀ i ∈ seg, free.contains i = true) → NoFree free rest →
    Rel g w a.tmps st.fr st.hp → st.base ≤ st.hp.length → a.tmps.size = nt → Ev P H own callF ops cls seg st sm → Text P H own callF ops cls free rest sm st' →
    (∀ a' w', After st st' g a w a' w' → Q .normal a' w') → wpAny P .any ops Q k listed a w
  | 0, seg, rest, listed, st, sm, st', a, w, g, hk, hpw, hsz, hun, hlt, hcl, hseg, hnf, R, hb, hn, hev, htx, hQ => by
    have h1 : seg = [] := List.eq_nil_of_length_eq_zero (by omega)
    have h2 : rest = [] := List.eq_nil_of_length_eq_zero (by omega)
    subst h1 h2
    cases hev with
    | nil hs =>
      cases htx with
      | nil =>
        refine ⟨?_, hQ a w (After.ofSame R hs)⟩
        cases hr : Region.ready .any ops listed with
        | nil => rfl
        | cons i l =>
          obtain ⟨h3, h4, _⟩ := mem_ready (i := i) (by rw [hr]; simp)
          have := (hun i h3).1 h4
          simp at this
  | k + 1, seg, rest, listed, st, sm, st', a, w, g, hk, hpw, hsz, hun, hlt, hcl, hseg, hnf, R, hb, hn, hev, htx, hQ => by
    have hok : Ok nt st := ⟨g, w, a, R, hb, hn⟩
    have lf : ∀ p, p < ops.size → (listed.getD p false = true ↔ p ∉ seg ++ rest) := fun p hp => by
      have h1 := hun p hp
      have e : listed.getD p true = listed.getD p false := by
        rw [Array.getD_eq_getD_getElem?, Array.getD_eq_getD_getElem?, Array.getElem?_eq_getElem (by omega)]; rfl
      rw [e] at h1
      rw [← h1]
      cases listed.getD p false <;> simp
    have getE : ∀ i, i < ops.size → ops[i]? = some ops[i]! := fun i hi => by rw [Array.getElem?_eq_getElem hi, getElem!_pos ops i hi]
    -- who is ready has all that come before it behind it
    have anc : ∀ i oi, ops[i]? = some oi → (∀ p ∈ directs oi, listed.getD p false = true) → ∀ q, ((masks ops.toList).getD i 0).testBit q = true → listed.getD q false = true := fun i oi ho hdir q hq =>
      masks_spec (full := ops.toList) (L := fun p => listed.getD p false = true) (fun z oz hz hL => hcl z oz (by simpa using hz) hL) ops.toList [] [] (by simp) rfl (fun i oi hi => by simp at hi) i oi (by simpa using ho) hdir q hq
    refine ⟨fun hnil => ?_, fun i hi => ?_⟩
    · -- something is ready
      exfalso
      have hne : seg ++ rest ≠ [] := fun e => by
        have h0 : (seg ++ rest).length = 0 := by rw [e]; rfl
        rw [List.length_append] at h0; omega
      cases hm : seg ++ rest with
      | nil => exact hne hm
      | cons m l =>
        have hmem : m ∈ seg ++ rest := by rw [hm]; simp
        have hms := hlt m hmem
        have hmo := getE m hms
        rw [hm] at hpw
        have hmin : ∀ p, p < m → p ∉ seg ++ rest := fun p hp hpm => by
          rw [hm] at hpm
          rcases List.mem_cons.1 hpm with rfl | hpl
          · omega
          · have := (List.pairwise_cons.1 hpw).1 p hpl; omega
        have : m ∈ Region.ready .any ops listed := ready_of hms ((hun m hms).2 hmem) hmo fun p hp => by
          have hpm := hc.before m _ hmo p hp
          exact (lf p (by omega)).2 (hmin p hpm)
        rw [hnil] at this; cases this
    · obtain ⟨his, hil, oi, hoi, hdir⟩ := mem_ready hi
      have himem := (hun i his).1 hil
      -- the one that comes before and is not listed is not waited for
      have notBefore : ∀ s, s ∈ seg ++ rest → s < i → ∀ os, ops[s]? = some os → free.contains s = true ∧ free.contains i = true ∧ Oper.apart ops os oi = true ∧ ((heavyKind os = false ∧ heavyKind oi = false) ∨ clash (cls s) (cls i) = false) := fun s hs hsi os hos => by
        rcases hc.pair s i os oi hsi hos hoi with h1 | h1
        · exact ((lf s (hlt s hs)).1 (anc i oi hoi hdir s h1) hs).elim
        · exact h1
      -- what follows, when i is listed
      have next : ∀ (seg' rest' : List Nat) (s1 sm' : St), (∀ j, j ∈ seg' ++ rest' ↔ j ∈ seg ++ rest ∧ j ≠ i) → seg'.length + rest'.length = k → (seg' ++ rest').Pairwise (· < ·) → (∀ j ∈ seg', free.contains j = true) → NoFree free rest' →
          gS P H own callF ops st oi = some s1 → Ev P H own callF ops cls seg' s1 sm' → Text P H own callF ops cls free rest' sm' st' → wpOp P ops Q i (wpAny P .any ops Q k (listed.setIfInBounds i true)) a w := by
        intro seg' rest' s1 sm' hmem hlen hpw' hseg' hnf' hg hev' htx'
        refine wpOp_gS Tb hcall R hb hoi (fun d e => by rw [hn]; exact hd i oi hoi d e) hg fun a' w' g' R' S' h1 h2 => ?_
        have gd : ∀ (j : Nat) (b : Bool), j < ops.size → (listed.setIfInBounds i true).getD j b = if i = j then true else listed.getD j b := fun j b hj => by
          rw [Array.getD_eq_getD_getElem?, Array.getElem?_setIfInBounds]
          by_cases e : i = j
          · subst e; rw [if_pos rfl, if_pos (by omega), if_pos rfl]; rfl
          · rw [if_neg e, if_neg e, ← Array.getD_eq_getD_getElem?]
        refine draw_main Tb hcall hd hc k seg' rest' _ s1 sm' st' a' w' g' hlen hpw' (by simp [hsz]) (fun j hj => ?_) (fun j hj => hlt j ((hmem j).1 hj).1) (fun z oz hz hL p hp => ?_) hseg' hnf' R' (S'.baseOk hb) (h1.trans hn) hev' htx' fun a2 w2 ⟨⟨g2, R2, S2⟩, h3, h4⟩ => hQ a2 w2 ⟨⟨g2, R2, S'.trans S2⟩, h3.trans h1, h4.trans h2⟩
        · rw [gd j true hj, hmem j]
          by_cases e : i = j
          · subst e; simp
          · rw [if_neg e, hun j hj]
            exact ⟨fun h => ⟨h, fun e2 => e e2.symm⟩, fun h => h.1⟩
        · have hzs : z < ops.size := (Array.getElem?_eq_some_iff.1 hz).1
          have hpz := hc.before z oz hz p hp
          rw [gd p false (by omega)]
          split
          · rfl
          · rw [gd z false hzs] at hL
            split at hL
            · rename_i e; subst e
              rw [hoi] at hz; cases hz
              exact hdir p hp
            · exact hcl z oz hz hL p hp
      cases seg with
      | nil =>
        -- the next one stands alone
        cases rest with
        | nil => simp at himem
        | cons f r =>
          have hff : free.contains f = false := hnf f r rfl
          have hfm : f ∈ [] ++ f :: r := by simp
          have hie : i = f := by
            rcases List.mem_cons.1 (by simpa using himem) with h | h
            · exact h
            · exfalso
              have hfi : f < i := by
                simp only [List.nil_append] at hpw
                exact (List.pairwise_cons.1 hpw).1 i h
              have := (notBefore f hfm hfi _ (getE f (hlt f hfm))).1
              rw [hff] at this; cases this
          subst hie
          cases hev with
          | nil hs =>
            cases htx with
            | free hf _ _ _ => rw [hff] at hf; cases hf
            | @lone _ _ _ s1 _ q hf ho hg hl =>
              rw [hoi] at ho; cases ho
              obtain ⟨seg', rest', sm', he, h1, h2, h3, h4⟩ := hl.split
              -- from the state of the text
              have R' : Rel g w a.tmps sm.fr sm.hp := by rw [hs.hp]; exact R.congr hs.get
              refine wpOp_gS Tb hcall R' (by rw [hs.base, hs.hp]; exact hb) hoi (fun d e => by rw [hn]; exact hd _ _ hoi d e) hg fun a' w' g' R2 S2 h5 h6 => ?_
              have gd : ∀ (j : Nat) (b : Bool), j < ops.size → (listed.setIfInBounds i true).getD j b = if i = j then true else listed.getD j b := fun j b hj => by
                rw [Array.getD_eq_getD_getElem?, Array.getElem?_setIfInBounds]
                by_cases e : i = j
                · subst e; rw [if_pos rfl, if_pos (by omega), if_pos rfl]; rfl
                · rw [if_neg e, if_neg e, ← Array.getD_eq_getD_getElem?]
              simp only [List.nil_append] at hpw hun hlt lf
              have hnd := List.pairwise_cons.1 hpw
              have S0 : StepR st sm g w g w := ⟨hs.base, fun h => by rw [hs.dirty]; exact h, by rw [hs.hp]; exact X.refl _ _ _ _ _⟩
              refine draw_main Tb hcall hd hc k seg' rest' _ s1 sm' st' a' w' g' (by rw [← List.length_append, ← he]; simpa using hk) (by rw [← he]; exact hnd.2) (by simp [hsz]) (fun j hj => ?_) (fun j hj => hlt j (by rw [← he] at hj; simp [hj])) (fun z oz hz hL p hp => ?_) h1 h2 R2 (S2.baseOk (by rw [hs.base, hs.hp]; exact hb)) (h5.trans hn) h3 h4
                fun a2 w2 ⟨⟨g2, R3, S3⟩, h7, h8⟩ => hQ a2 w2 ⟨⟨g2, R3, (S0.trans S2).trans S3⟩, h7.trans h5, h8.trans h6⟩
              · rw [gd j true hj, ← he]
                by_cases e : i = j
                · subst e
                  simp only [if_true]
                  constructor
                  · intro h; cases h
                  · intro h; have := hnd.1 i h; omega
                · rw [if_neg e, hun j hj]
                  simp [Ne.symm e]
              · have hzs : z < ops.size := (Array.getElem?_eq_some_iff.1 hz).1
                have hpz := hc.before z oz hz p hp
                rw [gd p false (by omega)]
                split
                · rfl
                · rw [gd z false hzs] at hL
                  split at hL
                  · rename_i e; subst e
                    rw [hoi] at hz; cases hz
                    exact hdir p hp
                  · exact hcl z oz hz hL p hp
      | cons s0 seg0 =>
        have hiseg : i ∈ s0 :: seg0 := by
          rcases List.mem_append.1 himem with h | h
          · exact h
          · exfalso
            cases rest with
            | nil => cases h
            | cons f r =>
              have hff : free.contains f = false := hnf f r rfl
              have hfm : f ∈ (s0 :: seg0) ++ f :: r := by simp
              rcases List.mem_cons.1 h with rfl | hr
              · have hs0 : s0 < i := (List.pairwise_append.1 hpw).2.2 s0 (by simp) i (by simp)
                have := (notBefore s0 (by simp) hs0 _ (getE s0 (hlt s0 (by simp)))).2.1
                rw [hff] at this; cases this
              · have hfi : f < i := (List.pairwise_cons.1 (List.pairwise_append.1 hpw).2.1).1 i hr
                have := (notBefore f hfm hfi _ (getE f (hlt f hfm))).1
                rw [hff] at this; cases this
        obtain ⟨l1, l2, hsplit⟩ := List.append_of_mem hiseg
        rw [hsplit] at hev hpw hk hseg next notBefore
        have hlt1 : ∀ y ∈ l1, y < i := fun y hy => by
          have h1 := (List.pairwise_append.1 (List.pairwise_append.1 hpw).1).2.2
          exact h1 y hy i (by simp)
        obtain ⟨o', si, ho', hgi, hev'⟩ := bubble Tb hcall hd hok hev fun y hy oy ox hoy hox => by
          rw [hoi] at hox; cases hox
          obtain ⟨_, _, h3, h4⟩ := notBefore y (by simp [hy]) (hlt1 y hy) oy hoy
          refine ⟨h3, ?_⟩
          rcases h4 with ⟨h5, h6⟩ | h4
          · obtain ⟨n, F, e1⟩ := ev_class hev y (by simp [hy]) oy hoy h5
            obtain ⟨n', F', e2⟩ := ev_class hev i (by simp) oi hoi h6
            rw [e1, e2]; rfl
          · exact h4
        rw [hoi] at ho'; cases ho'
        have hpw2 : ((l1 ++ l2) ++ rest).Pairwise (· < ·) := by
          refine hpw.sublist ?_
          exact (List.Sublist.append (List.Sublist.append (List.Sublist.refl _) (List.sublist_cons_self _ _)) (List.Sublist.refl _))
        refine next (l1 ++ l2) rest si sm (fun j => ?_) (by simp at hk ⊢; omega) hpw2 (fun j hj => hseg j (by rcases List.mem_append.1 hj with h | h <;> simp [h])) hnf (gD_gS hgi) hev' htx
        constructor
        · intro hj
          refine ⟨by simp only [List.mem_append, List.mem_cons] at hj ⊢; rcases hj with (h | h) | h <;> simp [h], fun e => ?_⟩
          subst e
          have hnd := hpw.imp (fun {a b} (h : a < b) => Nat.ne_of_lt h)
          have hnd : ((l1 ++ j :: l2) ++ rest).Nodup := hnd
          rw [List.append_assoc, List.nodup_append] at hnd
          have h1 := hnd.2.2
          rcases List.mem_append.1 hj with h | h
          · rcases List.mem_append.1 h with h | h
            · exact h1 j h j (by simp) rfl
            · have := hnd.2.1
              rw [List.cons_append, List.nodup_cons] at this
              exact this.1 (by simp [h])
          · have := hnd.2.1
            rw [List.cons_append, List.nodup_cons] at this
            exact this.1 (by simp [h])
        · rintro ⟨hj, hne⟩
          simp only [List.mem_append, List.mem_cons] at hj ⊢
          rcases hj with (h | h | h) | h
          · exact .inl (.inl h)
          · exact (hne h).elim
          · exact .inl (.inr h)
          · exact .inr h

/-- A region whose order is open is what its text says. -/
theorem drawOK (Tb : Tabs P) (hm : P.follows .mixedOrders = true) (hcall : CallSound P callF) (nt : Nat) : DrawOK P H own callF nt := by
  intro id ops st st' a w g Q hwf hchk hn R hb h hQ
  unfold evalDraw at h
  split at h
  · rename_i st1 cls' hev
    split at h
    · rename_i hp
      cases h
      have hc : Chk ops (H.free id) (clOf cls') := chk_spec hchk hp
      have hd : Dst ops nt := fun i o ho d hod => wfOps_spec hwf o (by simpa using Array.mem_of_getElem? ho) d hod
      obtain ⟨htx, _⟩ := evalD_text ops.toList 0 [] (fun k => by simp) hev
      obtain ⟨seg, rest, sm, he, h1, h2, h3, h4⟩ := htx.split
      have hlr : seg ++ rest = List.range ops.size := by rw [← he, List.range_eq_range']; simp
      have R1 : Rel g w.drew a.tmps st.fr st.hp := R.grow (Grow.drew w)
      have X1 : X st.base false g w st.hp g w.drew st.hp := X.grow R (Grow.drew w)
      refine wp_region_any hm ?_
      have hlen : seg.length + rest.length = ops.size := by rw [← List.length_append, hlr, List.length_range]
      rw [← hlen]
      refine draw_main Tb hcall hd hc _ seg rest _ st sm st' a w.drew g rfl (by rw [hlr]; exact List.pairwise_lt_range) (by simp [hlen]) (fun i hi => ?_) (fun i hi => by rw [hlr] at hi; simpa using hi) (fun z oz hz hL p hp => ?_) h1 h2 R1 hb hn h3 h4
        fun a' w' ⟨⟨g2, R2, S2⟩, h5, h6⟩ => hQ a' w' ⟨⟨g2, R2, ⟨S2.base, S2.mono, (X1.trans S2.x).weaken (by simp)⟩⟩, h5, h6⟩
      · rw [hlr]
        constructor
        · intro _; simpa using hi
        · intro _
          rw [Array.getD_eq_getD_getElem?, Array.getElem?_replicate, if_pos (by omega)]; rfl
      · rw [Array.getD_eq_getD_getElem?, Array.getElem?_replicate] at hL
        split at hL <;> cases hL
    · cases h
  · cases h
end
end Go.PS
end

section
/-
  Functions.
-/
namespace Go.PS
section
variable {g g' g1 g2 : G} {w w' w1 w2 : World} {hn hn' : Nat} {tm : Array Value} {fr fr' : Fr} {hp hp' hp1 hp2 : Heap} {P : Program} {t : Nat}

theorem get_args : ∀ (args : List PV) (k t : Nat), get ((args.zipIdx k).map fun (v, i) => (i, v)) t = if k ≤ t then (args[t - k]?).getD .undef else .undef
  | [], k, t => by simp [get]
  | v :: args, k, t => by
    simp only [List.zipIdx_cons, List.map_cons, get_cons]
    rw [get_args args (k + 1) t]
    by_cases h : k = t
    · subst h; simp
    · rw [if_neg h]
      by_cases h1 : k + 1 ≤ t
      · rw [if_pos h1, if_pos (by omega), show t - k = (t - (k + 1)) + 1 by omega, List.getElem?_cons_succ]
      · rw [if_neg h1, if_neg (by omega)]

/-- The frame at a function's start. -/
theorem Rel.start (R : Rel g w #[] [] hp) {us : Array Value} {args : List PV} (hs : us.size = args.length) (hV : ∀ (j : Nat) (u : Value) (y : PV), us[j]? = some u → args[j]? = some y → V g w hp.length u y) (n : Nat) :
    Rel g w (us ++ Array.replicate n Go.undef) (args.zipIdx.map fun (v, i) => (i, v)) hp := by
  have hget : ∀ t, get (args.zipIdx.map fun (v, i) => (i, v)) t = (args[t]?).getD .undef := fun t => by rw [get_args]; simp
  have hVt : ∀ t, V g w hp.length ((us ++ Array.replicate n Go.undef).getD t Go.undef) ((args[t]?).getD .undef) := fun t => by
    cases ha : args[t]? with
    | none => exact .undef _
    | some y =>
      have hlt : t < us.size := by rw [hs]; exact lt_of_some ha
      have hu : us[t]? = some us[t] := Array.getElem?_eq_getElem hlt
      have e : (us ++ Array.replicate n Go.undef).getD t Go.undef = us[t] := by
        rw [Array.getD_eq_getD_getElem?, Array.getElem?_append_left hlt, hu]; rfl
      rw [e]
      exact hV t _ y hu ha
  refine ⟨fun t => by rw [hget]; exact (hVt t).slot t, R.heap, R.immCell, R.ownLt, fun t t' pre h => ?_, fun t h => ?_⟩
  · rw [hget] at h; exact ((hVt t).refOf t' pre h).elim
  · rw [hget] at h
    cases ha : args[t]? with
    | none => rw [ha] at h; exact (h rfl).elim
    | some y => have := lt_of_some ha; simp; omega

theorem Rel.finish (R : Rel g w tm fr hp) : Rel g w #[] [] hp :=
  ⟨fun t => .of (.undef _), R.heap, R.immCell, R.ownLt, fun t t' pre h => (by cases h), fun t h => (h rfl).elim⟩

/-- What is asked of a program's functions. -/
structure WF (P : Program) (H : FuncId → Hint) : Prop where
  name : ∀ (f : Nat) (fn : Func), P.funcs[f]? = some fn → fn.name ≠ "runtime.NumGoroutine"
  code : ∀ (f : Nat) (fn : Func) (body : Code), P.funcs[f]? = some fn → fn.body = some body → wfCode (H f) fn.ntmps body = true
  mixed : P.follows .mixedOrders = true

/-- The known functions of the library are what is said of them. -/
def PrimSound (P : Program) (H : FuncId → Hint) : Prop :=
  ∀ f k, (H f).prim = some k → CallSound P fun f' args hp => if f' = f then primCall k args hp else none

def resSem (tm : Array Value) : ResultVar → Sem Value
  | .tmp t => pure (tm.getD t Go.undef)
  | .cell a t => do loadVar t (← asAddr (tm.getD a Go.undef))
def resVal (P : Program) (w : World) (tm : Array Value) (x : ResultVar) : Value :=
  match (resSem tm x).run P w with
  | .ok v _ => v
  | _ => Go.undef
theorem resVal_of {x : ResultVar} {u : Value} (h : (resSem tm x).run P w = .ok u w) : resVal P w tm x = u := by unfold resVal; rw [h]
def resV (vs : Array Value) : Value := if h : vs.size = 1 then vs[0] else .tuple vs

theorem results_run {fn : Func} (h : ∀ x ∈ fn.results.toList, (resSem tm x).run P w = .ok (resVal P w tm x) w) :
    (results fn tm).run P w = .ok (resV (fn.results.toList.map (resVal P w tm)).toArray) w := by
  have hm := run_mapM_array (P := P) (w := w) (f := resSem tm) (h := resVal P w tm) fn.results (fun x hx => h x (Array.mem_def.1 hx))
  have e : (fn.results.toList.map (resVal P w tm)).toArray = fn.results.map (resVal P w tm) := by rw [← Array.toList_map, Array.toArray_toList]
  rw [e]
  have hr : results fn tm = (do let vs ← fn.results.mapM (resSem tm); pure (if h : vs.size = 1 then vs[0] else .tuple vs)) := by
    unfold results
    have : (fun (x : ResultVar) => (match x with | .tmp t => pure (tm.getD t Go.undef) | .cell a t => do loadVar t (← asAddr (tm.getD a Go.undef)) : Sem Value)) = resSem tm := by
      funext x
      cases x <;> rfl
    rw [← this]
    rfl
  rw [hr, Sem.run_bind, hm]
  rfl

theorem drop_rel {st : St} (R : Rel g w tm st.fr st.hp) (a : Nat) : Rel g w tm (drop a st.fr) st.hp ∧ StepR st { st with fr := drop a st.fr } g w g w := ⟨R.drop a, StepR.drop st a⟩

theorem run_loadVar1 {T : TypeId} {d : TypeDesc} (hT : P.underlying T = some d) (ha : isAggT P T = false) (b : Nat) (v : Value) (h : w.cell? ⟨b, 0, none⟩ = some v) : (loadVar T ⟨b, 0, none⟩).run P w = .ok v w := by
  simp [loadVar, run_isAggT hT, ha, h, go_sem]
theorem takeRes_sound (Tb : Tabs P) {st st' : St} (R : Rel g w tm st.fr st.hp) {x : ResultVar} {y : PV} (h : takeRes P st x = some (st', y)) :
    (resSem tm x).run P w = .ok (resVal P w tm x) w ∧ ∃ g', Rel g' w tm st'.fr st'.hp ∧ StepR st st' g w g' w ∧ V g' w st'.hp.length (resVal P w tm x) y ∧ st'.hp.length = st.hp.length := by
  cases x with
  | tmp t =>
    have hv : (resSem tm (.tmp t)).run P w = .ok (tm.getD t Go.undef) w := by simp [resSem]
    rw [resVal_of hv]
    obtain ⟨g', R', S', V', e, _⟩ := takeOut_sound (a := { tmps := tm, defers := [] }) rfl R (x := .tmp t) h
    exact ⟨hv, g', R', S', V', e⟩
  | cell a T =>
    simp only [takeRes] at h
    split at h
    · rename_i cs hg
      split at h
      · rename_i hc
        obtain ⟨hlen, hst, hinfo⟩ := hc
        obtain ⟨d, hd'⟩ := Option.isSome_iff_exists.1 hinfo
        obtain ⟨i, hi⟩ := info_of_underlying hd'
        have hs := R.slots a
        rw [hg] at hs
        generalize hv : tm.getD a Go.undef = v at hs
        cases hs with
        | of hs => cases hs with | of hs => cases hs
        | @box b cs hO =>
          obtain ⟨R1, S1⟩ := drop_rel R a
          have hd : get (drop a st.fr) a = .undef := by rw [get_drop, if_pos rfl]
          let f : Nat → Value := fun j => (w.cell? ⟨b, j, none⟩).getD Go.undef
          have hf : ∀ j, j < cs.length → w.cell? ⟨b, j, none⟩ = some (f j) := fun j hj => by
            obtain ⟨u, h1, _⟩ := hO.cells j _ (List.getElem?_eq_getElem hj)
            simp only [f, h1, Option.getD_some]
          let vs : Array Value := ((List.range (sizeT P T)).map f).toArray
          have hvs : vs.size = cs.length := by simp [vs, hlen]
          have hL : ∀ (j : Nat) (v : Value) (y : PV), vs[j]? = some v → cs[j]? = some y → L g w st.hp.length (.slot a) (some j) v y := fun j v y h1 h2 => by
            obtain ⟨u, h3, h4⟩ := hO.cells j y h2
            have hj := lt_of_some h2
            have : v = f j := by
              simp only [vs, List.getElem?_toArray, List.getElem?_map, Option.map_eq_some_iff] at h1
              obtain ⟨q, h5, rfl⟩ := h1
              rw [List.getElem?_range (by omega)] at h5
              cases h5; rfl
            rw [hf j hj] at h3
            cases h3
            rw [this]; exact h4
          obtain ⟨g2, R2, X2, hV, _⟩ := R1.freezeAgg (base := st.base) (d := st.dirty) hd (fun t' pre => refOf_drop) hvs hL hst cs.length (Nat.le_refl _)
          have S2 : StepR st { st with fr := drop a st.fr } g w g2 w := S1.trans (StepR.ofX (st := { st with fr := drop a st.fr }) rfl rfl X2 id)
          have haddr : (asAddr (tm.getD a Go.undef)).run P w = .ok ⟨b, 0, none⟩ w := by rw [hv]; simp [asAddr]
          split at h
          · rename_i hagg
            cases h
            have hrun : (resSem tm (.cell a T)).run P w = .ok (.agg vs) w := by
              have hl := run_loadCells (P := P) w ⟨b, 0, none⟩ (sizeT P T) f (fun j hj => by rw [addr_add, Nat.zero_add]; exact hf j (by omega))
              simp only [resSem, Sem.run_bind, haddr, Result.andThen_ok]
              simp [loadVar, run_isAggT hd', hagg, run_sizeT hi, hl, vs]
            refine ⟨by rw [resVal_of hrun]; exact hrun, g2, R2, S2, ?_, rfl⟩
            rw [resVal_of hrun]
            refine .agg _ _ (by simpa using hvs) fun j u z h1 h2 => ?_
            simp only [List.getElem?_map, Option.map_eq_some_iff] at h2
            obtain ⟨z', h3, rfl⟩ := h2
            exact hV j u z' (lt_of_some h3) h1 h3
          · rename_i hagg
            split at h
            · rename_i c
              cases h
              have h1 : sizeT P T = 1 := by simpa using hlen.symm
              have hrun : (resSem tm (.cell a T)).run P w = .ok (f 0) w := by
                simp only [resSem, Sem.run_bind, haddr, Result.andThen_ok]
                exact run_loadVar1 hd' (by simpa using hagg) b (f 0) (hf 0 (by simp))
              refine ⟨by rw [resVal_of hrun]; exact hrun, g2, R2, S2, ?_, rfl⟩
              rw [resVal_of hrun]
              exact hV 0 (f 0) _ (by simp) (by simp [vs, h1]) rfl
            · cases h
      · cases h
    · cases h

theorem takeMany_sound (Tb : Tabs P) : ∀ (xs : List ResultVar) {st st' : St} {ys : List PV} {g : G}, Rel g w tm st.fr st.hp → takeMany P st xs = some (st', ys) →
    (∀ x ∈ xs, (resSem tm x).run P w = .ok (resVal P w tm x) w) ∧ ∃ g', Rel g' w tm st'.fr st'.hp ∧ StepR st st' g w g' w ∧ ys.length = xs.length ∧ (∀ (j : Nat) (x : ResultVar) (y : PV), xs[j]? = some x → ys[j]? = some y → V g' w st'.hp.length (resVal P w tm x) y)
  | [], st, st', ys, g, R, h => by cases h; exact ⟨(fun x hx => by cases hx), g, R, StepR.refl _ _ _, rfl, fun j x y hx => by simp at hx⟩
  | x :: xs, st, st', ys, g, R, h => by
    unfold takeMany at h
    split at h
    · cases h
    · rename_i st1 v h1
      split at h
      · cases h
      · rename_i st2 vs h2
        cases h
        obtain ⟨r1, g1, R1, S1, V1, e1⟩ := takeRes_sound Tb R h1
        obtain ⟨r2, g2, R2, S2, hlen, V2⟩ := takeMany_sound Tb xs R1 h2
        refine ⟨fun z hz => ?_, g2, R2, S1.trans S2, by simp [hlen], fun j z y hz hy => ?_⟩
        · rcases List.mem_cons.1 hz with rfl | hz
          · exact r1
          · exact r2 z hz
        · cases j with
          | zero => simp at hz hy; subst hz; subst hy; exact V1.mono S2.x.e0
          | succ j => exact V2 j z y (by simpa using hz) (by simpa using hy)

theorem takeRs_sound (Tb : Tabs P) {st st' : St} (R : Rel g w tm st.fr st.hp) {xs : List ResultVar} {r : PV} (h : takeRs P st xs = some (st', r)) :
    (∀ x ∈ xs, (resSem tm x).run P w = .ok (resVal P w tm x) w) ∧ ∃ g', Rel g' w tm st'.fr st'.hp ∧ StepR st st' g w g' w ∧ ResV g' w st'.hp.length (resV (xs.map (resVal P w tm)).toArray) r := by
  have one : ∀ (u : Value), resV #[u] = u := fun u => rfl
  unfold takeRs at h
  split at h
  · rename_i t
    have hv : (resSem tm (.tmp t)).run P w = .ok (tm.getD t Go.undef) w := by simp [resSem]
    have hall : ∀ x ∈ [ResultVar.tmp t], (resSem tm x).run P w = .ok (resVal P w tm x) w := fun x hx => by
      have : x = .tmp t := by simpa using hx
      subst this; rw [resVal_of hv]; exact hv
    refine ⟨hall, ?_⟩
    simp only [List.map_cons, List.map_nil]
    rw [one, resVal_of hv]
    split at h
    · rename_i tg n cs hg
      cases h
      have hs := R.slots t
      rw [hg] at hs
      obtain ⟨g2, R2, X2, hres, _⟩ := (R.drop t).release (base := st.base) (d := st.dirty) (free_drop st.fr st.hp t none) (fun _ i e => by cases e) hs.sl_inv
      exact ⟨g2, R2, (StepR.drop st t).trans (StepR.ofX (st := { st with fr := drop t st.fr }) rfl rfl X2 id), hres⟩
    · obtain ⟨g', R', S', V', e, _⟩ := takeOut_sound (a := { tmps := tm, defers := [] }) rfl R (x := .tmp t) h
      exact ⟨g', R', S', .of V'⟩
  · rename_i x _
    obtain ⟨r1, g1, R1, S1, V1, e1⟩ := takeRes_sound Tb R h
    refine ⟨fun z hz => ?_, g1, R1, S1, ?_⟩
    · have : z = x := by simpa using hz
      subst this; exact r1
    · simp only [List.map_cons, List.map_nil]
      rw [one]; exact .of V1
  · rename_i hx1 hx2
    split at h
    · rename_i st1 vs hm
      cases h
      obtain ⟨r1, g1, R1, S1, hlen, V1⟩ := takeMany_sound Tb xs R hm
      refine ⟨r1, g1, R1, S1, ?_⟩
      have hne : ((xs.map (resVal P w tm)).toArray).size ≠ 1 := by
        intro e
        simp at e
        match xs, e with
        | [x], _ => exact hx2 x rfl
      unfold resV
      rw [dif_neg hne]
      refine .tup (by simpa using hlen.symm) fun j u y h1 h2 => ?_
      simp only [List.getElem?_toArray, List.getElem?_map, Option.map_eq_some_iff] at h1
      obtain ⟨x, h3, rfl⟩ := h1
      exact V1 j x y h3 h2
    · cases h

/-- The frame at a function's start: one of the arguments may own what it has. -/
theorem Rel.startArgs {base : Nat} {d : Bool} (R : Rel g w #[] [] hp) {us : Array Value} {args : List PV} (hs : us.size = args.length) (hA : ArgsV g w hp.length us args) (n : Nat) :
    ∃ g', Rel g' w (us ++ Array.replicate n Go.undef) (args.zipIdx.map fun (v, i) => (i, v)) hp ∧ X base d g w hp g' w hp := by
  obtain ⟨k, hV, hk⟩ := hA
  have hget : ∀ t, get (args.zipIdx.map fun (v, i) => (i, v)) t = (args[t]?).getD .undef := fun t => by rw [get_args]; simp
  let args0 := args.set k .undef
  have hget0 : ∀ t, get (args0.zipIdx.map fun (v, i) => (i, v)) t = (args0[t]?).getD .undef := fun t => by rw [get_args]; simp
  have R0 := R.start (us := us) (args := args0) (by simpa [args0] using hs) (fun j u y h1 h2 => by
    simp only [args0] at h2
    rw [List.getElem?_set] at h2
    split at h2
    · split at h2
      · cases h2; exact .undef _
      · cases h2
    · rename_i hne; exact hV j u y (Ne.symm hne) h1 h2) n
  by_cases hlt : k < args.length
  · have hu : us[k]? = some us[k] := Array.getElem?_eq_getElem (by omega)
    have ha : args[k]? = some args[k] := List.getElem?_eq_getElem hlt
    have hres := hk _ _ hu ha
    obtain ⟨g', R', X'⟩ := R0.land (base := base) (dd := d) (d := k) (by simp; omega) hres
    refine ⟨g', ?_, X'⟩
    have htm : (us ++ Array.replicate n Go.undef).setIfInBounds k us[k] = us ++ Array.replicate n Go.undef := by
      apply Array.ext
      · simp
      · intro i h1 h2
        rw [Array.getElem_setIfInBounds]
        · split
          · rename_i e; subst e
            rw [Array.getElem_append_left (by omega)]
          · rfl
    rw [htm] at R'
    refine R'.congr fun t => ?_
    rw [hget]
    by_cases h : k = t
    · subst h
      rw [get_setFr_same, ha, Option.getD_some]
      have key : ∀ {v : Value} {y : PV}, ResV g w hp.length v y → (Kill.slot k).on y = y := fun {v y} hr => by
        cases hr with
        | of h => cases h <;> rfl
        | _ => rfl
      exact (key hres).symm
    · rw [R0.get_setFr _ h, hget0]
      have e : args0[t]? = args[t]? := by simp only [args0]; rw [List.getElem?_set, if_neg h]
      rw [e]
      cases ht : args[t]? with
      | none => rfl
      | some y =>
        have hyu : t < us.size := by rw [hs]; exact lt_of_some ht
        have := hV t us[t] y (Ne.symm h) (Array.getElem?_eq_getElem hyu) ht
        rcases on_cases (.slot k) y with h1 | ⟨_, r, pre, h1, h2⟩
        · exact h1.symm
        · simp [Kill.hits] at h2; subst h2; exact (this.refOf k pre h1).elim
  · refine ⟨g, ?_, X.refl _ _ _ _ _⟩
    have : args0 = args := by simp only [args0]; rw [List.set_eq_of_length_le (by omega)]
    rw [this] at R0
    exact R0

theorem evalCall_sound (Tb : Tabs P) (H : FuncId → Hint) (W : WF P H) (hprim : PrimSound P H) : ∀ n, CallSound P (evalCall P H n)
  | 0 => fun f args hp r hp' d h => by cases h
  | n + 1 => fun f args hp r hp' d h g w us R hs hA => by
    have ih := evalCall_sound Tb H W hprim n
    unfold evalCall at h
    split at h
    · rename_i k hk
      exact hprim f k hk f args hp r hp' d (by simpa using h) g w us R hs hA
    · split at h
      · cases h
      · rename_i fn hfn
        split at h
        · rename_i body hbody
          split at h
          · cases h
          · rename_i hle
            have hcf : (callFunc f us).run P w = .ok (.enter f us) w := by
              have hnm := W.name f fn hfn
              simp [callFunc, hfn, hnm, hbody, run_program]
            refine ⟨hcf, calls_of_wp hfn hbody ?_⟩
            let st0 : St := { fr := args.zipIdx.map (fun (v, i) => (i, v)), hp := hp, base := hp.length, dirty := false }
            obtain ⟨g0, R0, X0⟩ := R.startArgs (base := hp.length) (d := false) hs hA (fn.ntmps - us.size)
            have fin : ∀ (e : Ex) (st1 : St), (e = .normal ∨ e = .ret) → evalCode P (H f) (fun f => (H f).own) (evalCall P H n) n body none st0 = some (e, st1) →
                (match takeRs P st1 fn.results.toList with | some (st, v) => some (v, st.hp, st.dirty) | none => none) = some (r, hp', d) →
                body.wp P (bodyPost P fn fun e w' => ∃ v g', e = .returned v ∧ Rel g' w' #[] [] hp' ∧ X hp.length d g w hp g' w' hp' ∧ ResV g' w' hp'.length v r) { tmps := us ++ Array.replicate (fn.ntmps - us.size) Go.undef, defers := [] } w := by
              intro e st1 he h1 h2
              refine evalCode_sound Tb ih (drawOK Tb W.mixed ih fn.ntmps) n body (st := st0) (W.code f fn body hfn hbody) (by simp; omega) R0 (Nat.le_refl _) h1 fun a' w' ⟨⟨g1, R1, S1⟩, hsz, hdf⟩ => ?_
              split at h2
              · rename_i st2 v ht
                cases h2
                obtain ⟨hall, g2, R2, S2, hres⟩ := takeRs_sound Tb R1 ht
                have S := S1.trans S2
                have hpost : a'.defers = [] ∧ ∃ v, (results fn a'.tmps).run P w' = .ok v w' ∧ ∃ v' g', Ending.returned v = .returned v' ∧ Rel g' w' #[] [] st2.hp ∧ X hp.length st2.dirty g w hp g' w' st2.hp ∧ ResV g' w' st2.hp.length v' r := by
                  refine ⟨hdf, _, results_run hall, _, g2, rfl, R2.finish, ?_, hres⟩
                  exact (X0.trans S.x).weaken (by simp)
                rcases he with rfl | rfl <;> exact hpost
              · cases h2
            split at h
            · rename_i st1 h1; exact fin _ st1 (.inl rfl) h1 h
            · rename_i st1 h1; exact fin _ st1 (.inr rfl) h1 h
            · cases h
        · cases h
end
end Go.PS
end
