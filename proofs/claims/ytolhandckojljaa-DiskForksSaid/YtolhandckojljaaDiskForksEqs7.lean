/-
  What functions of this program compute, as equations about the evaluator. No condition but those stated.
-/
import Derived.Test.YtolhandckojljaaDiskForksEqs6
set_option linter.all false
section
namespace Go.Proofs.Ytolhandckojljaa
open Go Go.PS
/-- The device after a fork was made of it. -/
def Dv.old (d : Dv) : Dv := { d with w3 := true, w4 := true }
/-- What a load of the device shows. -/
def Dv.shown (d : Dv) : List PV := .sl .sh d.parts.length (d.parts.flatMap Pt.cells) :: (d.sec ++ [jobP d.job, .int .i64 d.from_, .sl .sh d.nlog d.log])
/-- The fork. -/
def Dv.fork (d : Dv) (j : Option Nat) : Dv := { d with job := j, a3 := 3, w3 := false, a4 := 4, w4 := false, ok4 := .inl rfl }
theorem shareAt_none {st : St} {i o : Nat} {cs : List PV} (hi : st.hp[i]? = some cs) (h : ∀ tg n ys, cs[o]? ≠ some (.sl tg n ys)) : shareAt st (.heap i) (some o) = none := by
  unfold shareAt navS nav
  simp only [rootPV, hi]
  cases ho : cs[o]? with
  | none => rfl
  | some y => cases y <;> first | rfl | exact (h _ _ _ ho).elim
theorem shareAt_mu {st : St} {i o : Nat} {cs : List PV} (hi : st.hp[i]? = some cs) {s n : Nat} {ys : List PV} (h : cs[o]? = some (.sl (.mu s) n ys)) :
    shareAt st (.heap i) (some o) = some ({ st with hp := st.hp.set i (cs.set o (.sl (.ow s) n ys)), dirty := st.dirty || decide (i < st.base) }, .sl .sh n ys) := by
  unfold shareAt navS nav
  simp only [rootPV, hi, h]
  unfold PS.put
  simp only [rootPV, hi, putRoot, PV.withKids, PV.kids]
set_option maxRecDepth 1000000 in
theorem share_dev {st : St} {i : Nat} {d : Dv} (hi : st.hp[i]? = some d.cells) {S : List UInt8} (hd : d.sec = ofBytes S) (hS : S.length = 8192) (h3 : d.w3 = false) (h4 : d.w4 = false) :
    shareRange st (.heap i) 0 8196 = { st with hp := st.hp.set i d.old.cells, dirty := st.dirty || decide (i < st.base) } := by
  have hlt : i < st.hp.length := (List.getElem?_eq_some_iff.1 hi).1
  have hs : d.sec.length = 8192 := by rw [hd, ob_len]; exact hS
  obtain ⟨C, hC⟩ : ∃ C, C = d.cells.set 0 (.sl (.ow d.a3) d.parts.length (d.parts.flatMap Pt.cells)) := ⟨_, rfl⟩
  have hset : ∀ c, (st.hp.set i c)[i]? = some c := fun c => List.getElem?_set_self hlt
  have hcell : ∀ o, 0 < o → o < 8195 → ∀ tg n ys, C[o]? ≠ some (.sl tg n ys) := fun o h0 h1 tg n ys => by
    rw [hC, List.getElem?_set_ne (by omega)]
    unfold Dv.cells
    obtain ⟨o', rfl⟩ : ∃ o', o = o' + 1 := ⟨o - 1, by omega⟩
    rw [List.getElem?_cons_succ]
    by_cases hlo : o' < 8192
    · rw [List.getElem?_append_left (by omega), hd]
      unfold ofBytes
      rw [List.getElem?_map]
      cases S[o']? <;> simp
    · rw [List.getElem?_append_right (by omega), hs]
      have : o' = 8192 ∨ o' = 8193 := by omega
      rcases this with rfl | rfl
      · cases d.job <;> simp [jobP]
      · simp
  have key : ∀ k, k < 8195 → shareRange st (.heap i) 0 (k + 1) = { st with hp := st.hp.set i C, dirty := st.dirty || decide (i < st.base) } := by
    intro k
    induction k with
    | zero =>
      intro _
      have g0 := d.g0
      rw [h3] at g0
      simp only [shareRange, Nat.add_zero]
      rw [shareAt_mu hi g0, hC]
    | succ k ih =>
      intro hk
      rw [shareRange, ih (by omega)]
      rw [shareAt_none (cs := C) (hset _) (by rw [Nat.zero_add]; exact hcell (k + 1) (by omega) (by omega))]
  have gl := d.gl hs
  rw [h4] at gl
  have gl' : C[0 + 8195]? = some (.sl (.mu d.a4) d.nlog d.log) := by rw [hC, List.getElem?_set_ne (by omega)]; exact gl
  rw [shareRange, key 8194 (by omega)]
  rw [shareAt_mu (cs := C) (hset _) gl']
  have hfin : C.set (0 + 8195) (.sl (.ow d.a4) d.nlog d.log) = d.old.cells := by
    rw [hC]
    unfold Dv.cells Dv.old
    simp only [List.set_cons_zero, Nat.zero_add, List.set_cons_succ]
    rw [List.set_append_right _ _ (by omega), hs]; rfl
  simp only [hfin, List.set_set, Bool.or_assoc, Bool.or_self]
theorem old_shown {d : Dv} {S : List UInt8} (hd : d.sec = ofBytes S) : shareCells d.old.cells = d.shown := by
  have h1 := ob_share S
  unfold shareCells at h1 ⊢
  unfold Dv.cells Dv.old Dv.shown
  simp only [List.map_cons, List.map_append, hd, h1, tg, List.map_nil, shr]
  cases d.job <;> rfl
section
variable (d : Dv)
theorem Dv.slen : d.sec.length = 8192 → d.shown.length = 8196 := fun h => by simp [Dv.shown, h]
theorem Dv.slast {S : List UInt8} (hd : d.sec = ofBytes S) : d.shown.all lasting = true := by
  unfold Dv.shown
  rw [List.all_cons, List.all_append, hd]
  have h : (ofBytes S).all lasting = true := by simp [ofBytes, lasting]
  rw [h]
  cases d.job <;> simp [jobP, lasting]
theorem Dv.sstor {S : List UInt8} (hd : d.sec = ofBytes S) : d.shown.all storable = true := by
  unfold Dv.shown
  rw [List.all_cons, List.all_append, hd, ob_all]
  cases d.job <;> simp [jobP, storable]
theorem Dv.sset (j : Option Nat) : d.sec.length = 8192 → ((d.shown.set 0 (.sl (.mu 3) d.parts.length (d.parts.flatMap Pt.cells))).set 8195 (.sl (.mu 4) d.nlog d.log)) = (d.fork d.job).cells := fun h => by
  unfold Dv.shown Dv.fork Dv.cells
  simp only [List.set_cons_zero, List.set_cons_succ]
  rw [List.set_append_right _ _ (by omega), h]; rfl
theorem Dv.fset (j : Option Nat) : d.sec.length = 8192 → (d.fork d.job).cells.set 8193 (jobP j) = (d.fork j).cells := fun h => (d.fork d.job).sj j h
end
theorem splice_all {z cs : List PV} (h : cs.length = z.length) : splice z 0 cs = cs := by
  rw [splice_eq _ _ _ (by omega)]; simp; omega
end Go.Proofs.Ytolhandckojljaa
end

section
namespace Go.Proofs.Ytolhandckojljaa
open Go Go.PS
/-- A fork, and what it leaves. -/
theorem f25 (n i : Nat) (d : Dv) (S : List UInt8) (hp : Heap) (hi : hp[i]? = some d.cells) (hd : d.sec = ofBytes S) (hS : S.length = 8192) (hl : d.parts.length ≤ 1000) (hlog : d.log.length = d.nlog * 4) (hn : d.nlog ≤ 1000) (hL : Lg d.log) (h3 : d.w3 = false) (h4 : d.w4 = false)
    (j : Jb) (hj : ∀ jx, d.job = some jx → jx ≠ i ∧ hp[jx]? = some j.cells) :
    ∃ dd, evalCall Try.prog hints (n + 3) 25 [.ptr (.heap i) none 0] hp = some (.ptr (.heap hp.length) none 0, (match d.job with | none => hp.set i d.old.cells ++ [(d.fork none).cells] | some _ => hp.set i d.old.cells ++ [(d.fork (some (hp.length + 1))).cells] ++ [j.cells]), dd) := by
  have hlt : i < hp.length := (List.getElem?_eq_some_iff.1 hi).1
  have hs : d.sec.length = 8192 := by rw [hd, ob_len]; exact hS
  have hso : d.old.sec.length = 8192 := hs
  obtain ⟨l1, l2, l3⟩ := hL
  have pc := flat_len Pt.len d.parts
  have pa : (d.parts.flatMap Pt.cells).all storable = true := by
    rw [List.all_flatMap]; simp [Pt.cells, storable]
  have po : (d.parts.flatMap Pt.cells).map outCell = d.parts.flatMap Pt.cells := by
    rw [List.map_flatMap]; rfl
  have pp : (d.parts.flatMap Pt.cells).all plain1 = true := by
    rw [List.all_flatMap]; simp [Pt.cells, plain1]
  have e46 := fun hp => f46 (n + 1) d.parts.length _ hp (by omega) pc pa po
  have hset : ∀ (H : Heap) c, i < H.length → (H.set i c)[i]? = some c := fun H c h => List.getElem?_set_self h
  have e23 := fun (H : Heap) (hH : H[i]? = some d.old.cells) => f23 n i d.old H hH hs (by show d.nlog ≤ _; omega) hlog l1 l2 l3
  have hsr := fun (fr : Fr) (b : Nat) (dt : Bool) => share_dev (st := { fr := fr, hp := hp, base := b, dirty := dt }) hi hd hS h3 h4
  have hsh := old_shown (d := d) hd
  have sl := d.slen hs
  have sa := d.slast hd
  have ss := d.sstor hd
  have sset := d.sset d.job hs
  have g0 := d.old.g0
  have gj := d.old.gj hso
  have len := d.old.len hso
  have len0 := d.len hs
  have hmu : d.cells.any isMu = true := by
    unfold Dv.cells; rw [h3]; rfl
  have spl : splice z97 0 d.shown = d.shown := splice_all (by rw [sl]; exact zl97.symm)
  have t0 : List.take 8196 d.cells = d.cells := List.take_of_length_le (by omega)
  have t1 : List.take 8196 d.old.cells = d.old.cells := List.take_of_length_le (by omega)
  have hlt2 : ∀ c : List PV, ((hp.set i d.old.cells ++ [c])[i]? : Option (List PV)) = some d.old.cells := fun c => by
    rw [List.getElem?_append_left (by simpa using hlt)]; exact hset hp _ hlt
  have hlast : ∀ c : List PV, ((hp.set i d.old.cells ++ [c])[hp.length]? : Option (List PV)) = some c := fun c => by
    rw [List.getElem?_append_right (by simp)]; simp
  have hsl : ∀ c c' : List PV, ((hp.set i d.old.cells ++ [c]).set hp.length c' : Heap) = hp.set i d.old.cells ++ [c'] := fun c c' => by
    rw [List.set_append_right _ _ (by simp)]; simp
  rw [show d.old.parts = d.parts from rfl, show d.old.w3 = true from rfl, show d.old.a3 = d.a3 from rfl] at g0
  rw [show d.old.job = d.job from rfl] at gj
  rw [show d.old.nlog = d.nlog from rfl, show d.old.log = d.log from rfl] at e23
  have fset := fun j => d.fset j hs
  rw [evalCall_at _ _ _ hh25 rfl Try.func25 rfl (Nat.le_of_ble_eq_true rfl) rfl]
  cases hjb : d.job with
  | none =>
    rw [hjb] at gj sset
    simp only [jobP] at gj
    refine ⟨true, ?_⟩
    simp only
    generalize (d.fork none).cells = CF at *
    generalize hC0 : d.cells = C0 at *
    generalize hC1 : d.old.cells = C1 at *
    generalize hC2 : d.shown = C2 at *
    generalize d.parts.flatMap Pt.cells = X at *
    clear hC0 hC1 hC2 fset
    unfold shareCells at hsh
    simp [-shareRange, -List.any_eq_true, -List.all_eq_true, -getElem?_pos, List.getElem?_cons_zero, hi, t0, t1, hmu, hsr, hset, hlt, len, hsh, sl, sa, ss, spl, tg, g0, gj, hlt2, hlast, hsl, e46, e23, pp, l3, sset]
  | some jx =>
    obtain ⟨jne, hjx⟩ := hj jx hjb
    have jlt : jx < hp.length := (List.getElem?_eq_some_iff.1 hjx).1
    have hjx2 : ∀ c : List PV, ((hp.set i d.old.cells ++ [c])[jx]? : Option (List PV)) = some j.cells := fun c => by
      rw [List.getElem?_append_left (by simpa using jlt), List.getElem?_set_ne (Ne.symm jne)]; exact hjx
    have hpush : ∀ c c' : List PV, ((hp.set i d.old.cells ++ [c, c'])[hp.length]? : Option (List PV)) = some c := fun c c' => by
      rw [List.getElem?_append_right (by simp)]; simp
    have hpush2 : ∀ c c' : List PV, ((hp.set i d.old.cells ++ [c, c'])[hp.length + 1]? : Option (List PV)) = some c' := fun c c' => by
      rw [List.getElem?_append_right (by simp)]; simp
    have hset2 : ∀ c c' c2 : List PV, ((hp.set i d.old.cells ++ [c, c']).set hp.length c2 : Heap) = hp.set i d.old.cells ++ [c2, c'] := fun c c' c2 => by
      rw [List.set_append_right _ _ (by simp)]; simp
    have hset3 : ∀ c c' c2 : List PV, ((hp.set i d.old.cells ++ [c, c']).set (hp.length + 1) c2 : Heap) = hp.set i d.old.cells ++ [c, c2] := fun c c' c2 => by
      rw [List.set_append_right _ _ (by simp)]; simp
    have hjc : j.cells.length = 5 := rfl
    have fset := fset (some (hp.length + 1))
    simp only [jobP] at fset
    have flen : (d.fork d.job).cells.length = 8196 := (d.fork d.job).len hs
    rw [hjb] at gj sset fset flen
    simp only [jobP] at gj
    refine ⟨true, ?_⟩
    generalize (d.fork (some (hp.length + 1))).cells = CG at *
    generalize (d.fork (some jx)).cells = CF at *
    generalize hC0 : d.cells = C0 at *
    generalize hC1 : d.old.cells = C1 at *
    generalize hC2 : d.shown = C2 at *
    generalize d.parts.flatMap Pt.cells = X at *
    clear hC0 hC1 hC2
    unfold shareCells at hsh
    obtain ⟨jo, js, jn, jw, jd⟩ := j
    simp only [Jb.cells] at *
    simp [-shareRange, -List.any_eq_true, -List.all_eq_true, -getElem?_pos, List.getElem?_cons_zero, hi, t0, t1, hmu, hsr, hset, hlt, len, hsh, sl, sa, ss, spl, tg, g0, gj, hlt2, hlast, hsl, e46, e23, pp, l3, sset, hjx2, hpush, hpush2, hset2, hset3, fset, flen]
end Go.Proofs.Ytolhandckojljaa
end

section
namespace Go.Proofs.Ytolhandckojljaa
open Go Go.PS
theorem Both.keep {l : List Pt} {hp hp' : Heap} {i k : Nat} {d : Dv} {x : Rx} {S : List UInt8} {BS : List (List UInt8)} {b : Nat} (h : Both l hp i k d x S BS b) (h1 : hp'[i]? = hp[i]?) (h2 : hp'[k]? = hp[k]?) (h3 : ∀ jx, d.job = some jx → hp'[jx]? = hp[jx]?) : Both l hp' i k d x S BS b := by
  obtain ⟨b1, b2, b3, b4, b5, b6, b7, b8, b9, b10, b11, b12, b13, b14, b15, b16⟩ := h
  exact ⟨by rw [h1]; exact b1, by rw [h2]; exact b2, b3, b4, b5, b6, b7, b8, b9, b10, b11, fun jx hj => ⟨(b12 jx hj).1, (b12 jx hj).2.1, by rw [h3 jx hj]; exact (b12 jx hj).2.2.1, (b12 jx hj).2.2.2⟩, b13, b14, b15, b16⟩
/-- The document's disk, copied. -/
def Rx.copy (x : Rx) : Rx := { x with a1 := 1 }
/-- The fork's job. -/
def Dv.nj (d : Dv) (L : Nat) : Option Nat := d.job.map fun _ => L + 1
/-- The heap behind a fork. -/
def forkH (hp : Heap) (i : Nat) (d : Dv) (j : Jb) : Heap := match d.job with
  | none => hp.set i d.old.cells ++ [(d.fork none).cells]
  | some _ => hp.set i d.old.cells ++ [(d.fork (some (hp.length + 1))).cells] ++ [j.cells]
theorem forkH_len (hp : Heap) (i : Nat) (d : Dv) (j : Jb) : hp.length < (forkH hp i d j).length := by
  unfold forkH; split <;> simp
theorem forkH_get (hp : Heap) (i : Nat) (d : Dv) (j : Jb) : (forkH hp i d j)[hp.length]? = some (d.fork (d.nj hp.length)).cells := by
  unfold forkH Dv.nj
  split
  · rename_i h; rw [h, List.getElem?_append_right (by simp)]; simp
  · rename_i h; rw [h, List.append_assoc, List.getElem?_append_right (by simp)]; simp
theorem forkH_job (hp : Heap) (i : Nat) (d : Dv) (j : Jb) (jx : Nat) (h : d.nj hp.length = some jx) : jx = hp.length + 1 ∧ (forkH hp i d j)[jx]? = some j.cells := by
  unfold Dv.nj at h
  unfold forkH
  split
  · rename_i h'; rw [h'] at h; cases h
  · rename_i h'
    rw [h'] at h; simp only [Option.map_some, Option.some.injEq] at h
    refine ⟨h.symm, ?_⟩
    rw [← h, List.getElem?_append_right (by simp)]; simp
theorem forkH_old (hp : Heap) (i : Nat) (d : Dv) (j : Jb) (q : Nat) (h : q < hp.length) (hq : q ≠ i) : (forkH hp i d j)[q]? = hp[q]? := by
  unfold forkH
  split
  · rw [List.getElem?_append_left (by simpa using h), List.getElem?_set_ne (Ne.symm hq)]
  · rw [List.append_assoc, List.getElem?_append_left (by simpa using h), List.getElem?_set_ne (Ne.symm hq)]
theorem forkH_i (hp : Heap) (i : Nat) (d : Dv) (j : Jb) (h : i < hp.length) : (forkH hp i d j)[i]? = some d.old.cells := by
  unfold forkH
  split
  · rw [List.getElem?_append_left (by simpa using h)]; exact List.getElem?_set_self h
  · rw [List.append_assoc, List.getElem?_append_left (by simpa using h)]; exact List.getElem?_set_self h
theorem fork_old {l : List Pt} {hp : Heap} {i k : Nat} {d : Dv} {x : Rx} {S : List UInt8} {BS : List (List UInt8)} {b : Nat} (h : Both l hp i k d x S BS b) : Both l (forkH hp i d x.job) i k d.old x S BS b := by
  obtain ⟨b1, b2, b3, b4, b5, b6, b7, b8, b9, b10, b11, b12, b13, b14, b15, b16⟩ := h
  have hi : i < hp.length := (List.getElem?_eq_some_iff.1 b1).1
  have hk : k < hp.length := (List.getElem?_eq_some_iff.1 b2).1
  refine ⟨forkH_i _ _ _ _ hi, by rw [forkH_old _ _ _ _ _ hk (Ne.symm b3)]; exact b2, b3, b4, b5, b6, b7, b8, b9, b10, b11, fun jx hj => ?_, b13, b14, b15, b16⟩
  obtain ⟨q1, q2, q3, q4⟩ := b12 jx hj
  exact ⟨q1, q2, by rw [forkH_old _ _ _ _ _ (List.getElem?_eq_some_iff.1 q3).1 q1]; exact q3, q4⟩
theorem fork_new {l : List Pt} {hp : Heap} {i k : Nat} {d : Dv} {x : Rx} {S : List UInt8} {BS : List (List UInt8)} {b : Nat} (h : Both l hp i k d x S BS b) :
    Both l (forkH hp i d x.job ++ [x.copy.cells]) hp.length (forkH hp i d x.job).length (d.fork (d.nj hp.length)) x.copy S BS b := by
  obtain ⟨b1, b2, b3, b4, b5, b6, b7, b8, b9, b10, b11, b12, b13, b14, b15, b16⟩ := h
  have hl := forkH_len hp i d x.job
  refine ⟨by rw [List.getElem?_append_left hl]; exact forkH_get _ _ _ _, by simp, by omega, b4, b5, b6, b7, b8, b9, b10, ?_, fun jx hj => ?_, b13, b14, b15, b16⟩
  · show (d.nj hp.length).isSome = x.busy
    rw [← b11]; unfold Dv.nj; cases d.job <;> rfl
  · have hj' : d.nj hp.length = some jx := hj
    obtain ⟨q1, q2⟩ := forkH_job hp i d x.job jx hj'
    have q3 := (List.getElem?_eq_some_iff.1 q2).1
    refine ⟨by omega, by omega, by rw [List.getElem?_append_left q3]; exact q2, ?_⟩
    cases hdj : d.job with
    | none => unfold Dv.nj at hj'; rw [hdj] at hj'; cases hj'
    | some z => exact (b12 z hdj).2.2.2
end Go.Proofs.Ytolhandckojljaa
end

section
namespace Go.Proofs.Ytolhandckojljaa
open Go Go.PS
set_option maxHeartbeats 4000000 in
theorem f7 (n : Nat) (l : List Pt) (ys zs : List Deed) (hn : 3000 < n) : ∃ hp d, evalCall Try.prog hints (n + 8) 7 [.sl .sh l.length (l.flatMap Pt.cells), .sl .sh ys.length (ys.flatMap Deed.cells), .sl .sh zs.length (zs.flatMap Deed.cells)] [] = some (.bool true, hp, d) := by
  apply of_map
  obtain ⟨m, hm⟩ : ∃ m, m = l.take 8 := ⟨_, rfl⟩
  have ml : m.length ≤ 8 := by rw [hm, List.length_take]; omega
  have e14 := f14 (n + 6) l [] (by omega)
  rw [← hm] at e14
  obtain ⟨H1, r, e15, h1, h2⟩ := f15 (n + 1) m [] (by omega) (by omega)
  have e16 := fun hp => f16 (n + 3) m hp (by omega) (by omega)
  have lY := flat_len Deed.len ys
  have rY := fun k h => flat_row Deed.len ys k h
  have gY := fun k h => flat_get Deed.len ys k h 6 (by omega)
  have lZ := flat_len Deed.len zs
  have rZ := fun k h => flat_row Deed.len zs k h
  have gZ := fun k h => flat_get Deed.len zs k h 6 (by omega)
  rw [evalCall_at _ _ _ hh7 rfl Try.func7 rfl (Nat.le_of_ble_eq_true rfl) rfl]
  by_cases hE : chkR [] m = 0
  · obtain ⟨rfl, i1, i2, -⟩ := h1 hE
    simp only [List.length_nil] at i1 i2 e15
    obtain ⟨o1, -, o3⟩ := chk_good hE
    have g : Good m := ⟨o1, ml, o3⟩
    have e18 := f18 (n + 6) m H1 (by omega) (by omega) o1
    have hb0 := both0 g H1 i1 i2
    rw [hE] at e16
    obtain ⟨K, hK⟩ : ∃ K, K = H1.length := ⟨_, rfl⟩
    rw [← hK] at e18 hb0
    generalize H1 ++ [(X0 m m).cells] = H2 at *
    generalize l.flatMap Pt.cells = XL at *
    generalize m.flatMap Pt.cells = XM at *
    generalize ys.flatMap Deed.cells = Y at *
    generalize zs.flatMap Deed.cells = Z at *
    simp [e14, e15, e16, e18]
    generalize hit : iter _ _ _ = R
    refine iter_elim hit (fun x : Nat × Heap × Bool => { fr := [(1, .sl .sh ys.length Y), (2, .sl .sh zs.length Z), (8, .ptr (.heap 0) none 0), (10, .ptr (.heap K) none 0), (11, .int .i64 x.1)], hp := x.2.1, base := 0, dirty := x.2.2 })
      (fun x => x.1 ≤ ys.length ∧ x.1 ≤ 20 ∧ ∃ d x' S BS, Both m x.2.1 0 K d x' S BS (2 * x.1) ∧ Lg d.log ∧ d.w3 = false ∧ d.w4 = false) (fun x => 20 - x.1)
      (fun x : Bool × Nat × Heap × Bool => if x.1 = true then (.exit 0, { fr := [(1, .sl .sh ys.length Y), (2, .sl .sh zs.length Z), (8, .ptr (.heap 0) none 0), (10, .ptr (.heap K) none 0), (11, .int .i64 x.2.1), (45, .bool false)], hp := x.2.2.1, base := 0, dirty := x.2.2.2 }) else (.ret, { fr := [(6, .bool true)], hp := x.2.2.1, base := 0, dirty := x.2.2.2 }))
      (fun x => x.1 = true → ∃ d x' S BS, Both m x.2.2.1 0 K d x' S BS 40 ∧ Lg d.log ∧ d.w3 = false ∧ d.w4 = false) (0, H2, false) ?_ ⟨by simp, by simp, _, _, _, _, hb0, ⟨rfl, rfl, rfl⟩, rfl, rfl⟩ (by simp only; omega) ?_ ?_
    · rfl
    · rintro ⟨k, H, dd⟩ ⟨k1, k2, d, x, S, BS, hb, q1, q2, q3⟩
      simp only at k1 k2 hb
      by_cases hk : k < ys.length
      · by_cases hk4 : k < 20
        · have r := rY k hk
          have gy := gY k hk
          have z : k * 7 + 7 ≤ ys.length * 7 := by omega
          have w := wrap_id (x := (k : Int) + 1) (by omega)
          have hk4' : (k : Int) < 20 := by omega
          generalize ys[k] = y at *
          by_cases hd : 100 < y.job.d.length
          · obtain ⟨H', e17, -⟩ := live17 n H (by omega)
            right
            refine ⟨(false, 0, H', true), ?_, by simp, by simp⟩
            have hd' : (100 : Int) < y.job.d.length := by omega
            obtain ⟨do_, tick, ⟨o, s, nn, w', dt⟩⟩ := y
            simp only [Deed.cells, List.getElem?_cons_zero, List.getElem?_cons_succ] at *
            simp [-getElem?_pos, List.getElem?_cons_zero, hk, hk4, hk4', lY, gy, e17, hd, hd']
          · obtain ⟨H', d', e19, hB⟩ := f19F (n + 1) 0 K m y H d x S BS (2 * k) hb g (by omega) (by omega)
            have hd' : ¬ (100 : Int) < y.job.d.length := by omega
            left
            cases d' with
            | true =>
              obtain ⟨⟨d2, x2, S2, BS2, hB, u1, u2, u3⟩, -⟩ := hB rfl
              refine ⟨(k + 1, H', true), ?_, ⟨by simp only; omega, by simp only; omega, d2, x2, S2, BS2, hB.le (by simp only; omega), u1 q1, by rw [u2]; exact q2, by rw [u3]; exact q3⟩, by simp only; omega⟩
              obtain ⟨do_, tick, ⟨o, s, nn, w', dt⟩⟩ := y
              simp only [Deed.cells, List.getElem?_cons_zero, List.getElem?_cons_succ] at *
              simp [-getElem?_pos, List.getElem?_cons_zero, hk, hk4, hk4', lY, gy, r, z, e19, hd, hd', w]
            | false =>
              refine ⟨(k + 1, H, dd), ?_, ⟨by simp only; omega, by simp only; omega, d, x, S, BS, hb.le (by simp only; omega), q1, q2, q3⟩, by simp only; omega⟩
              obtain ⟨do_, tick, ⟨o, s, nn, w', dt⟩⟩ := y
              simp only [Deed.cells, List.getElem?_cons_zero, List.getElem?_cons_succ] at *
              simp [-getElem?_pos, List.getElem?_cons_zero, hk, hk4, hk4', lY, gy, r, z, e19, hd, hd', w]
        · right
          have hk4' : ¬ (k : Int) < 20 := by omega
          refine ⟨(true, k, H, dd), ?_, by simp, fun _ => ⟨d, x, S, BS, hb.le (by omega), q1, q2, q3⟩⟩
          simp [hk, hk4, hk4']
      · right
        refine ⟨(true, k, H, dd), ?_, by simp, fun _ => ⟨d, x, S, BS, hb.le (by omega), q1, q2, q3⟩⟩
        simp [hk]
    · rintro ⟨b, k, H, dd⟩ rfl h
      cases b with
      | false => simp
      | true =>
        obtain ⟨d, x, S, BS, hb, q1, q2, q3⟩ := h rfl
        simp only at hb
        clear e14 e15 e16 e18 hb0 hit lY rY gY
        obtain ⟨dd1, e25⟩ := f25 (n + 4) 0 d S H hb.hd hb.ds hb.sl (by rw [hb.dp]; omega) hb.lg (Nat.le_trans hb.nl (by omega)) q1 q2 q3 x.job (fun jx hj => ⟨(hb.jj jx hj).1, (hb.jj jx hj).2.2.1⟩)
        change evalCall _ _ _ _ _ _ = some (.ptr (.heap H.length) none 0, forkH H 0 d x.job, dd1) at e25
        have hold := fork_old hb
        have hnew := fork_new hb
        obtain ⟨G, hG⟩ : ∃ G, G = forkH H 0 d x.job := ⟨_, rfl⟩
        rw [← hG] at e25 hold hnew
        have hx := hold.hx
        obtain ⟨F, hF⟩ : ∃ F, F = H.length := ⟨_, rfl⟩
        rw [← hF] at e25 hnew
        have hFG : F < G.length := by rw [hF, hG]; exact forkH_len _ _ _ _
        have hxb : x.bytes.length ≤ 8 := by rw [hold.xb, List.length_map, hold.bl]; exact ml
        have lB : (x.bytes.map bcell).length = x.bytes.length := List.length_map _
        have aB : (x.bytes.map bcell).all storable = true := by rw [List.all_map]; simp [bcell, storable]
        have oB : (x.bytes.map bcell).map outCell = x.bytes.map bcell := by rw [List.map_map]; rfl
        have mB : x.bytes.length * 24 ≤ 140737488355328 := by omega
        obtain ⟨G2, hG2⟩ : ∃ G2, G2 = G ++ [x.copy.cells] := ⟨_, rfl⟩
        have hG2' := hG2
        rw [← hG2] at hnew
        simp only [Rx.copy, Rx.cells] at hx hG2
        have hKF : K < F := by rw [hF]; exact (List.getElem?_eq_some_iff.1 hb.hx).1
        have hjF : ∀ jx, d.job = some jx → jx < F := fun jx hj => by rw [hF]; exact (List.getElem?_eq_some_iff.1 (hb.jj jx hj).2.2.1).1
        have hjb := hb.jb
        have frame0 : ∀ j, j < F → G2[j]? = G[j]? := fun j hj => by rw [hG2', List.getElem?_append_left (by omega)]
        generalize x.bytes.map bcell = XB at *
        generalize x.parts.flatMap Pt.cells = XP at *
        generalize x.parts.length = np at *
        generalize x.bytes.length = nb at *
        simp [-getElem?_pos, -List.all_eq_true, List.getElem?_cons_zero, e25, hx, lB, aB, oB, mB]
        rw [← hG2]
        generalize hit : iter _ _ _ = R
        refine iter_elim hit (fun x : Nat × Heap × Bool => { fr := [(2, .sl .sh zs.length Z), (8, .ptr (.heap 0) none 0), (10, .ptr (.heap K) none 0), (12, .ptr (.heap F) none 0), (13, .ptr (.heap G.length) none 0), (14, .int .i64 x.1)], hp := x.2.1, base := 0, dirty := x.2.2 })
          (fun x => x.1 ≤ zs.length ∧ x.1 ≤ 20 ∧ (∃ d x' S BS, Both m x.2.1 F G.length d x' S BS (40 + 2 * x.1)) ∧ ∀ j, j < F → x.2.1[j]? = G2[j]?) (fun x => 20 - x.1)
          (fun x : Bool × Nat × Heap × Bool => if x.1 = true then (.exit 2, { fr := [(2, .sl .sh zs.length Z), (8, .ptr (.heap 0) none 0), (10, .ptr (.heap K) none 0), (12, .ptr (.heap F) none 0), (13, .ptr (.heap G.length) none 0), (14, .int .i64 x.2.1), (99, .bool false)], hp := x.2.2.1, base := 0, dirty := x.2.2.2 }) else (.ret, { fr := [(6, .bool true)], hp := x.2.2.1, base := 0, dirty := x.2.2.2 }))
          (fun x => x.1 = true → (∃ d x' S BS, Both m x.2.2.1 F G.length d x' S BS 80) ∧ ∀ j, j < F → x.2.2.1[j]? = G2[j]?) (0, G2, dd || dd1) ?_ ⟨by simp, by simp, ⟨_, _, _, _, hnew⟩, fun _ _ => rfl⟩ (by simp only; omega) ?_ ?_
        · rfl
        · rintro ⟨k, H, dd⟩ ⟨k1, k2, ⟨d, x, S, BS, hb⟩, hfr⟩
          simp only at k1 k2 hb hfr
          by_cases hk : k < zs.length
          · by_cases hk4 : k < 20
            · have r := rZ k hk
              have gy := gZ k hk
              have z : k * 7 + 7 ≤ zs.length * 7 := by omega
              have w := wrap_id (x := (k : Int) + 1) (by omega)
              have hk4' : (k : Int) < 20 := by omega
              generalize zs[k] = y at *
              by_cases hd : 100 < y.job.d.length
              · obtain ⟨H', e17, -⟩ := live17 n H (by omega)
                right
                refine ⟨(false, 0, H', true), ?_, by simp, by simp⟩
                have hd' : (100 : Int) < y.job.d.length := by omega
                obtain ⟨do_, tick, ⟨o, s, nn, w', dt⟩⟩ := y
                simp only [Deed.cells, List.getElem?_cons_zero, List.getElem?_cons_succ] at *
                simp [-getElem?_pos, List.getElem?_cons_zero, hk, hk4, hk4', lZ, gy, e17, hd, hd']
              · obtain ⟨H', d', e19, hB⟩ := f19F (n + 1) F G.length m y H d x S BS (40 + 2 * k) hb g (by omega) (by omega)
                have hd' : ¬ (100 : Int) < y.job.d.length := by omega
                have hFH : F < H.length := (List.getElem?_eq_some_iff.1 hb.hd).1
                left
                cases d' with
                | true =>
                  obtain ⟨⟨d2, x2, S2, BS2, hB, -⟩, hfr2⟩ := hB rfl
                  refine ⟨(k + 1, H', true), ?_, ⟨by simp only; omega, by simp only; omega, ⟨d2, x2, S2, BS2, hB.le (by simp only; omega)⟩, fun j hj => by rw [hfr2 j (by omega) (by omega) (by omega)]; exact hfr j hj⟩, by simp only; omega⟩
                  obtain ⟨do_, tick, ⟨o, s, nn, w', dt⟩⟩ := y
                  simp only [Deed.cells, List.getElem?_cons_zero, List.getElem?_cons_succ] at *
                  simp [-getElem?_pos, List.getElem?_cons_zero, hk, hk4, hk4', lZ, gy, r, z, e19, hd, hd', w]
                | false =>
                  refine ⟨(k + 1, H, dd), ?_, ⟨by simp only; omega, by simp only; omega, ⟨d, x, S, BS, hb.le (by simp only; omega)⟩, hfr⟩, by simp only; omega⟩
                  obtain ⟨do_, tick, ⟨o, s, nn, w', dt⟩⟩ := y
                  simp only [Deed.cells, List.getElem?_cons_zero, List.getElem?_cons_succ] at *
                  simp [-getElem?_pos, List.getElem?_cons_zero, hk, hk4, hk4', lZ, gy, r, z, e19, hd, hd', w]
            · right
              have hk4' : ¬ (k : Int) < 20 := by omega
              refine ⟨(true, k, H, dd), ?_, by simp, fun _ => ⟨⟨d, x, S, BS, hb.le (by omega)⟩, hfr⟩⟩
              simp [hk, hk4, hk4']
          · right
            refine ⟨(true, k, H, dd), ?_, by simp, fun _ => ⟨⟨d, x, S, BS, hb.le (by omega)⟩, hfr⟩⟩
            simp [hk]
        · rintro ⟨b, k, H, dd⟩ rfl h
          cases b with
          | false => simp
          | true =>
            obtain ⟨⟨d2, y, S2, BS2, hb2⟩, hfr⟩ := h rfl
            simp only at hb2 hfr
            obtain ⟨H', e17, hx17⟩ := live17 n H (by omega)
            have hFH : F < H.length := (List.getElem?_eq_some_iff.1 hb2.hd).1
            have hold' : Both m H' 0 K d.old x S BS 40 := hold.keep (by rw [hx17 0 (by omega), hfr 0 (by omega), frame0 0 (by omega)]) (by rw [hx17 K (by omega), hfr K hKF, frame0 K hKF]) (fun jx hj => by have := hjF jx hj; rw [hx17 jx (by omega), hfr jx this, frame0 jx this])
            have hnew' : Both m H' F G.length d2 y S2 BS2 80 := hb2.ext hx17
            have e20 := f20 (n + 2) 0 K m H' _ _ _ _ _ hold' g (by omega)
            have e20b := f20 (n + 2) F G.length m H' _ _ _ _ _ hnew' g (by omega)
            have e24 := f24 (n + 6) 0 d.old H' hold'.hd (by rw [hold'.ds, ob_len]; exact hold'.sl)
            rw [hold'.jb] at e24
            have hxc := hold'.hx
            have hxb2 : x.cells[2]? = some (.bool x.busy) := rfl
            generalize x.cells = XC at *
            have e22 := fun hp => f22n (n + 6) 0 hp
            have e26 := fun hp => f26nil (n + 5) 1 0 hp
            have e27 := fun hp => f27nil (n + 5) Jb.zero hp
            have e21 := fun hp => f21nil (n + 6) Jb.zero hp
            have e24n := fun hp => f24nil (n + 6) hp
            have e23n := fun hp => f23n (n + 6) hp
            have e25n := fun hp => f25nil (n + 6) hp
            simp only [Jb.cells, Jb.zero] at e27 e21
            obtain ⟨H21, e21⟩ := e21 H'
            simp [-getElem?_pos, List.getElem?_cons_zero, e17, e20, e20b, e24, hxc, hxb2, e22, e26, e27, e21, e24n, e23n, e25n]
  · have h2 := h2 hE
    subst h2
    obtain ⟨H', e17, -⟩ := live17 n [] (by omega)
    have hE' : (chkR [] m != 0) = true := by simp [hE]
    generalize chkR [] m = E at *
    generalize l.flatMap Pt.cells = XL at *
    generalize m.flatMap Pt.cells = XM at *
    generalize ys.flatMap Deed.cells = Y at *
    generalize zs.flatMap Deed.cells = Z at *
    simp [e14, e15, e16, e17, hE, hE']
end Go.Proofs.Ytolhandckojljaa
end
