/-
  What functions of this program compute, as equations about the evaluator. No condition but those stated.
-/
import Derived.Test.YtolhandckojljaaDiskForksEqs5
set_option linter.all false
section
namespace Go.Proofs.Ytolhandckojljaa
open Go Go.PS
theorem f45 (n k : Nat) (cs : List PV) (hp : Heap) (hk : k ≤ 4194304) (hc : cs.length = k * 4) (ha : cs.all storable = true) (ho : cs.map outCell = cs) : evalCall Try.prog hints (n + 1) 45 [.sl .sh k cs] hp = some (.sl (.mu 4) k cs, hp, false) := by
  rw [evalCall, hh45]
  show primCall (1, 4) [.sl .sh k cs] hp = _
  simp only [primCall, ho]
  rw [if_pos ⟨hk, hc, ha⟩]
theorem f23n (n : Nat) (hp : Heap) : evalCall Try.prog hints (n + 1) 23 [.nilp] hp = some (.sl (.mu 4) 0 [], hp, false) := by
  rw [evalCall_at _ _ _ hh23 rfl Try.func23 rfl (Nat.le_of_ble_eq_true rfl) rfl]
  simp
theorem f23 (n i : Nat) (d : Dv) (hp : Heap) (hi : hp[i]? = some d.cells) (hs : d.sec.length = 8192) (hk : d.nlog ≤ 4194304) (hc : d.log.length = d.nlog * 4) (ha : d.log.all storable = true) (ho : d.log.map outCell = d.log) (hpl : d.log.all plain1 = true) :
    evalCall Try.prog hints (n + 2) 23 [.ptr (.heap i) none 0] hp = some (.sl (.mu 4) d.nlog d.log, hp, false) := by
  have e := fun hp => f45 n d.nlog d.log hp hk hc ha ho
  have gl := d.gl hs
  have len := d.len hs
  rw [evalCall_at _ _ _ hh23 rfl Try.func23 rfl (Nat.le_of_ble_eq_true rfl) rfl]
  generalize d.cells = C at *
  generalize d.a4 = g at *
  generalize d.w4 = gw at *
  generalize d.log = L at *
  cases gw <;> simp only [tg] at gl <;> simp [-getElem?_pos, -List.all_eq_true, List.getElem?_cons_zero, hi, gl, e, hpl]
def srow (tick : Int) (j : Jb) (k : Nat) : List PV := stored tick j.o (j.s + k) ((j.d.drop (16 * k)).take 16)
theorem logK_flat {d : Dv} (h : d.log = []) (tick : Int) (j : Jb) : ∀ m, logK d tick j m = (List.range m).flatMap (srow tick j)
  | 0 => h
  | m + 1 => by rw [logK, logK_flat h tick j m, List.range_succ, List.flatMap_append]; simp [srow]
theorem srow_len (tick : Int) (j : Jb) (k : Nat) : (srow tick j k).length = 4 := rfl
theorem stood73 : Try.prog.stoodInHeld 73 = false := by kernel_rfl
@[simp] theorem guard73 : Try.prog.eqGuardType Try.prog.depth 73 = false := by kernel_rfl
theorem eqi3 (d : Nat) (a b : Int) : eqT Try.prog (d + 1) 3 [.int .i64 a] [.int .i64 b] = some (a == b) := by simp only [eqT, Try.underlying3]; rfl
theorem eqs9 (d : Nat) (a b : List UInt8) : eqT Try.prog (d + 1) 9 [.str a] [.str b] = some (a == b) := by simp only [eqT, Try.underlying9]
theorem eqS (a b c : Int) (s : List UInt8) : eqT Try.prog 20 73 [.int .i64 a, .int .i64 b, .int .i64 c, .str s] [.int .i64 a, .int .i64 b, .int .i64 c, .str s] = some true := by
  show eqT Try.prog (18 + 1 + 1) 73 _ _ = _
  unfold eqT
  rw [Try.underlying73]
  simp only [stood73]
  simp [eqi3, eqs9, andL]
end Go.Proofs.Ytolhandckojljaa
end

section
namespace Go.Proofs.Ytolhandckojljaa
open Go Go.PS
/-- What is written down may be copied. -/
def Lg (L : List PV) : Prop := L.all storable = true ∧ L.map outCell = L ∧ L.all plain1 = true
theorem logK_Lg {d : Dv} (h : Lg d.log) (tick : Int) (j : Jb) : ∀ m, Lg (logK d tick j m)
  | 0 => h
  | m + 1 => by
    obtain ⟨h1, h2, h3⟩ := logK_Lg h tick j m
    refine ⟨?_, ?_, ?_⟩
    · rw [logK, List.all_append, h1]; simp [stored]
    · rw [logK, List.map_append, h2]; simp [stored]
    · rw [logK, List.all_append, h3]; simp [stored]
set_option maxHeartbeats 2000000 in
theorem f19sF (n i k : Nat) (l : List Pt) (y : Deed) (hp : Heap) (d : Dv) (x : Rx) (S : List UInt8) (BS : List (List UInt8)) (b : Nat) (hb : Both l hp i k d x S BS b) (g : Good l) (hn : 2000 < n) (h0 : y.do_ = 0) :
    ∃ hp' dd, evalCall Try.prog hints (n + 6) 19 [.ptr (.heap i) none 0, .ptr (.heap k) none 0, .agg y.cells] hp = some (.bool true, hp', dd) ∧ (dd = true → (∃ d' x' S' BS', Both l hp' i k d' x' S' BS' (b + 2) ∧ (Lg d.log → Lg d'.log) ∧ d'.w3 = d.w3 ∧ d'.w4 = d.w4) ∧ ∀ j, j < hp.length → j ≠ i → j ≠ k → hp'[j]? = hp[j]?) := by
  obtain ⟨b1, b2, b3, b4, b5, b6, b7, b8, b9, b10, b11, b12, b13, b14, b15, b16⟩ := hb
  have hi : i < hp.length := (List.getElem?_eq_some_iff.1 b1).1
  have hk : k < hp.length := (List.getElem?_eq_some_iff.1 b2).1
  have hs : d.sec.length = 8192 := by rw [b6, ob_len]; exact b7
  have gl : l.length ≤ 1000 := Nat.le_trans g.len (by omega)
  have e27 := f27 (n + 1) i y.job d hp b1 (by rw [b4]; exact gl) (by omega) (by rw [b4]; exact g.ok)
  have e41 := fun hp => f41 (n + 4) y.job hp
  have e40 := f40 (n + 3) k y.job x hp b2 (by rw [b5]; exact gl) (by omega) (by rw [b5]; exact g.ok)
  have e21 := f21 n i y.tick y.job d hp b1 hs (by rw [b4]; exact gl) (by omega) (by rw [b4]; exact g.ok)
  rw [b4] at e27
  rw [b5] at e40
  have hst1 : startS d.parts d.job.isSome y.tick y.job = startS l x.busy y.tick y.job := by rw [b4, b11]
  have hst2 : startS x.parts x.busy y.tick y.job = startS l x.busy y.tick y.job := by rw [b5]
  rw [hst1] at e21
  by_cases hE : startS l x.busy y.tick y.job = 0
  · rw [hE] at e21
    simp only [if_true, decide_true] at e21
    have hbusy : x.busy = false := by
      unfold startS at hE
      split at hE
      · cases hE
      split at hE
      · cases hE
      · rename_i h; simpa using h
    have hask : askS l y.job = 0 := by
      unfold startS at hE
      split at hE
      · cases hE
      split at hE
      · cases hE
      · exact hE
    have htick : 0 ≤ y.tick ∧ y.tick ≤ 2147483647 := by
      unfold startS at hE
      split at hE
      · cases hE
      · omega
    obtain ⟨d1, hd1⟩ : ∃ d1 : Dv, d1 = { d with job := some hp.length, from_ := y.tick } := ⟨_, rfl⟩
    rw [← hd1] at e21
    have k1 : ((hp ++ [y.job.cells]).set i d1.cells)[k]? = some x.cells := by rw [List.getElem?_set_ne b3, List.getElem?_append_left hk]; exact b2
    have e42 := f42 (n + 2) k y.tick y.job x _ k1 (by rw [b5]; exact gl) (by omega) (by rw [b5]; exact g.ok)
    rw [hst2, hE] at e42
    simp only [if_true, decide_true] at e42
    obtain ⟨x1, hx1⟩ : ∃ x1 : Rx, x1 = { x with busy := true, job := y.job, from_ := y.tick } := ⟨_, rfl⟩
    rw [← hx1] at e42
    obtain ⟨H, hH⟩ : ∃ H, H = ((hp ++ [y.job.cells]).set i d1.cells).set k x1.cells := ⟨_, rfl⟩
    rw [← hH] at e42
    have k2 : H[i]? = some d1.cells := by rw [hH, List.getElem?_set_ne (Ne.symm b3)]; exact List.getElem?_set_self (by simp; omega)
    have k3 : H[k]? = some x1.cells := by rw [hH]; exact List.getElem?_set_self (by simp; omega)
    have k4 : H[hp.length]? = some y.job.cells := by rw [hH, List.getElem?_set_ne (by omega), List.getElem?_set_ne (by omega)]; simp
    have e24 := f24 (n + 4) i d1 H k2 (by rw [hd1]; exact hs)
    have hj1 : d1.job.isSome = true := by rw [hd1]; rfl
    rw [hj1] at e24
    refine ⟨H, true, ?_, fun _ => ⟨⟨d1, x1, S, BS, ?_, (fun h => by rw [hd1]; exact h), by rw [hd1], by rw [hd1]⟩, fun j hj h1 h2 => by rw [hH, List.getElem?_set_ne (Ne.symm h2), List.getElem?_set_ne (Ne.symm h1), List.getElem?_append_left hj]⟩⟩
    · have hxb : x1.cells[2]? = some (.bool true) := by rw [hx1]; rfl
      rw [evalCall_at _ _ _ hh19 rfl Try.func19 rfl (Nat.le_of_ble_eq_true rfl) rfl]
      rw [hask] at e27 e40
      have e42' := e42
      clear e42
      generalize x1.cells = C1 at *
      generalize hH2 : (hp ++ [y.job.cells]).set i d1.cells = H0 at *
      clear hH hH2 k1 k2 k4 hd1 hx1
      obtain ⟨do_, tick, ⟨o, s, nn, w, dd⟩⟩ := y
      simp only [Jb.cells, Deed.cells] at *
      subst h0
      simp [-getElem?_pos, List.getElem?_cons_zero, e27, e41, e40, e21, e42', e24, k3, hxb]
    · refine ⟨k2, k3, b3, by rw [hd1]; exact b4, by rw [hx1]; exact b5, by rw [hd1]; exact b6, b7, by rw [hx1]; exact b8, b9, b10, by rw [hd1, hx1]; rfl, fun jx hj => ?_, by rw [hd1, hx1], by rw [hd1]; exact htick, by rw [hd1]; exact b15, by rw [hd1]; simp only; omega⟩
      rw [hd1] at hj
      cases hj
      rw [hx1]
      exact ⟨by omega, by omega, k4, hask⟩
  · rw [if_neg hE, decide_eq_false hE] at e21
    have e42 := f42 (n + 2) k y.tick y.job x hp b2 (by rw [b5]; exact gl) (by omega) (by rw [b5]; exact g.ok)
    rw [hst2, if_neg hE, decide_eq_false hE] at e42
    have e24 := f24 (n + 4) i d hp b1 hs
    rw [b11] at e24
    have hxb : x.cells[2]? = some (.bool x.busy) := rfl
    refine ⟨hp, false, ?_, fun h => by cases h⟩
    rw [evalCall_at _ _ _ hh19 rfl Try.func19 rfl (Nat.le_of_ble_eq_true rfl) rfl]
    clear b12 hst1 hst2 hE
    generalize askS l y.job = a at *
    generalize startS l x.busy y.tick y.job = E at *
    generalize x.cells = C1 at *
    generalize x.busy = bz at *
    obtain ⟨do_, tick, ⟨o, s, nn, w, dd⟩⟩ := y
    simp only [Jb.cells, Deed.cells] at *
    subst h0
    simp [-getElem?_pos, List.getElem?_cons_zero, e27, e41, e40, e21, e42, e24, b2, hxb]
/-- What both Ends answer, and leave. -/
theorem endsF (n i k : Nat) (l : List Pt) (tick : Int) (hp : Heap) (d : Dv) (x : Rx) (S : List UInt8) (BS : List (List UInt8)) (b : Nat) (hb : Both l hp i k d x S BS b) (g : Good l) (hn : 2000 < n) (hbb : b ≤ 900) :
    ∃ s e d' x' S' BS' dd, evalCall Try.prog hints (n + 5) 22 [.ptr (.heap i) none 0, .int .i64 tick] hp = some (.tup [.str s, .int .i64 e], if dd = true then hp.set i d'.cells else hp, dd) ∧
      (∀ H : Heap, H[k]? = some x.cells → evalCall Try.prog hints (n + 5) 43 [.ptr (.heap k) none 0, .int .i64 tick] H = some (.tup [.str s, .int .i64 e], if dd = true then H.set k x'.cells else H, dd)) ∧
      (dd = false → d' = d ∧ x' = x) ∧ Both l ((hp.set i d'.cells).set k x'.cells) i k d' x' S' BS' (b + 2) ∧ (Lg d.log → Lg d'.log) ∧ d'.w3 = d.w3 ∧ d'.w4 = d.w4 := by
  have hbo := hb
  obtain ⟨b1, b2, b3, b4, b5, b6, b7, b8, b9, b10, b11, b12, b13, b14, b15, b16⟩ := hb
  have hi : i < hp.length := (List.getElem?_eq_some_iff.1 b1).1
  have hk : k < hp.length := (List.getElem?_eq_some_iff.1 b2).1
  have hs : d.sec.length = 8192 := by rw [b6, ob_len]; exact b7
  have gl : l.length ≤ 1000 := Nat.le_trans g.len (by omega)
  have same : (hp.set i d.cells).set k x.cells = hp := by
    apply List.ext_getElem?
    intro q
    by_cases h1 : q = k
    · subst h1; rw [List.getElem?_set_self (by simpa using hk), b2]
    · rw [List.getElem?_set_ne (Ne.symm h1)]
      by_cases h2 : q = i
      · subst h2; rw [List.getElem?_set_self hi, b1]
      · rw [List.getElem?_set_ne (Ne.symm h2)]
  have g1 : ∀ (d' : Dv) (x' : Rx), ((hp.set i d'.cells).set k x'.cells)[i]? = some d'.cells := fun d' x' => by
    rw [List.getElem?_set_ne (Ne.symm b3)]; exact List.getElem?_set_self hi
  have g2 : ∀ (d' : Dv) (x' : Rx), ((hp.set i d'.cells).set k x'.cells)[k]? = some x'.cells := fun d' x' => List.getElem?_set_self (by simpa using hk)
  cases hj : d.job with
  | none =>
    have hbz : x.busy = false := by rw [← b11, hj]; rfl
    refine ⟨[], 9, d, x, S, BS, false, by simpa using f22e (n + 4) i tick d hp b1 hs hj, fun H hH => by simpa using f43e (n + 4) k tick x H hH hbz, fun _ => ⟨rfl, rfl⟩, ?_, id, rfl, rfl⟩
    rw [same]
    exact ⟨b1, b2, b3, b4, b5, b6, b7, b8, b9, b10, b11, b12, b13, b14, b15, by omega⟩
  | some jx =>
    have hbz : x.busy = true := by rw [← b11, hj]; rfl
    obtain ⟨j1, j2, j3, j4⟩ := b12 jx hj
    by_cases ht : tick < d.from_ + 3
    · refine ⟨[], 13, d, x, S, BS, false, by simpa using f22t (n + 4) i jx tick d hp b1 hs hj ht b14, fun H hH => by simpa using f43t (n + 4) k tick x H hH hbz (by omega) (by omega), fun _ => ⟨rfl, rfl⟩, ?_, id, rfl, rfl⟩
      rw [same]
      exact ⟨b1, b2, b3, b4, b5, b6, b7, b8, b9, b10, b11, b12, b13, b14, b15, by omega⟩
    · obtain ⟨m, a, hm⟩ := may_of j4 g.ok
      obtain ⟨q, q1, q2⟩ := find_idx hm.e
      have hB := b10 q _ q2
      have fo := g.ok _ (List.mem_of_getElem? q2)
      obtain ⟨m1, m2, m3, m4, m5, m6⟩ := hm
      have hm : May l x.job m a := ⟨m1, m2, m3, m4, m5, m6⟩
      generalize (find l x.job.o).1 = p at *
      unfold okP at fo; simp only [decide_eq_true_eq] at fo
      obtain ⟨s, hs'⟩ : ∃ s : Nat, x.job.s = s := ⟨x.job.s.toNat, by omega⟩
      obtain ⟨F, hF⟩ : ∃ F : Nat, p.f = F := ⟨p.f.toNat, by omega⟩
      obtain ⟨C, hC⟩ : ∃ C : Nat, p.c = C := ⟨p.c.toNat, by omega⟩
      rw [hF, hC] at hB
      simp only [Int.toNat_natCast] at hB
      have hl8 : ((S.drop (16 * F)).take (16 * C)).length = 16 * C := by rw [List.length_take, List.length_drop]; omega
      have aF : a = F + s := by omega
      have hBx : x.bytes[q]? = some (ofBytes ((S.drop (16 * F)).take (16 * C))) := by rw [b8, List.getElem?_map, hB]; rfl
      cases hw : x.job.w with
      | false =>
        have hsz : x.job.n = 16 * m := by rw [← m2]; unfold Jb.size; rw [hw]; simp
        have e22 := f22r (n + 1) i jx tick x.job d S hp b1 b6 b7 (by rw [b4]; exact gl) (by omega) (by rw [b4]; exact g.ok) hj j3 m a (by rw [b4]; exact hm) hw (by omega) b14 (Ne.symm j1)
        have e43 := fun H hH => f43r (n + 3) k q tick x _ H hH hbz (by omega) (by omega) (by rw [b5]; exact gl) (by omega) (by rw [b5]; exact q1) hBx hw s m hs' hsz (by rw [hl8]; omega) (by rw [hl8]; omega)
        rw [decide_eq_true hi] at e22
        have eo : outK S a m = (((S.drop (16 * F)).take (16 * C)).drop (16 * s)).take (16 * m) := by
          rw [outK_eq b7 m (by omega), dtdt (by omega), aF, show 16 * (F + s) = 16 * F + 16 * s by omega]
        refine ⟨_, 0, { d with job := none }, { x with busy := false }, S, BS, true, by simpa using e22, fun H hH => ?_, (fun h => by cases h), ?_, id, rfl, rfl⟩
        · rw [eo]
          have hkH : k < H.length := (List.getElem?_eq_some_iff.1 hH).1
          have := e43 H hH
          rw [decide_eq_true hkH] at this
          simpa using this
        · exact ⟨g1 _ _, g2 _ _, b3, b4, b5, b6, b7, b8, b9, b10, rfl, (fun jx hj => by cases hj), b13, b14, b15, by simp only; omega⟩
      | true =>
        have hsz : (x.job.d.length : Int) = 16 * m := by rw [← m2]; unfold Jb.size; rw [hw]; simp
        have hdl : x.job.d.length = 16 * m := by omega
        have e22 := f22w (n + 1) i jx tick x.job d S hp b1 b6 b7 (by rw [b4]; exact gl) (by omega) (by rw [b4]; exact g.ok) hj j3 m a (by rw [b4]; exact hm) hw (by omega) b14 b15 (by omega)
        have e43 := fun H hH => f43w (n + 3) k q tick x _ H hH hbz (by omega) (by omega) (by rw [b5]; exact gl) (by omega) (by rw [b5]; exact q1) hBx hw s hs' (by rw [hl8]; omega) (by rw [hl8]; omega)
        rw [decide_eq_true hi] at e22
        have eS : secK S a x.job.d m = put S (16 * a) x.job.d := by
          rw [secK_eq b7 m (by omega) (by omega), ← hdl, List.take_length]
        refine ⟨[], 0, DK d S a tick x.job m, { x with busy := false, bytes := x.bytes.set q (ofBytes (put ((S.drop (16 * F)).take (16 * C)) (16 * s) x.job.d)) }, secK S a x.job.d m, BS.set q (put ((S.drop (16 * F)).take (16 * C)) (16 * s) x.job.d), true, by simpa using e22, fun H hH => ?_, (fun h => by cases h), ?_, (fun h => logK_Lg h _ _ m), rfl, rfl⟩
        · have hkH : k < H.length := (List.getElem?_eq_some_iff.1 hH).1
          have := e43 H hH
          rw [decide_eq_true hkH] at this
          simpa using this
        · refine ⟨g1 _ _, g2 _ _, b3, b4, b5, rfl, secK_len b7 (by omega), ?_, by rw [List.length_set]; exact b9, fun q' p' h' => ?_, rfl, (fun jx hj => by cases hj), b13, b14, logK_len b15 m, ?_⟩
          · simp only; rw [b8, List.map_set]
          · have hq : q < BS.length := (List.getElem?_eq_some_iff.1 hB).1
            have fo' := g.ok _ (List.mem_of_getElem? h')
            unfold okP at fo'; simp only [decide_eq_true_eq] at fo'
            rw [eS]
            by_cases e : q' = q
            · subst e
              rw [q2] at h'
              cases h'
              rw [List.getElem?_set_self hq, hF, hC]
              simp only [Int.toNat_natCast]
              rw [show 16 * a = 16 * F + 16 * s by omega, put_in (by omega) (by omega)]
            · rw [List.getElem?_set_ne (Ne.symm e), b10 q' p' h']
              refine congrArg some ?_
              by_cases hc' : p'.c = 0
              · rw [hc']; simp
              · have ap := apart_of g h' q2 e (by omega) (by omega)
                rw [put_out (by omega) (by omega)]
          · show d.nlog + m ≤ b + 2
            omega
set_option maxHeartbeats 2000000 in
theorem f19eF (n i k : Nat) (l : List Pt) (y : Deed) (hp : Heap) (d : Dv) (x : Rx) (S : List UInt8) (BS : List (List UInt8)) (b : Nat) (hb : Both l hp i k d x S BS b) (g : Good l) (hn : 2000 < n) (hbb : b ≤ 900) (h0 : y.do_ ≠ 0) :
    ∃ hp' dd, evalCall Try.prog hints (n + 6) 19 [.ptr (.heap i) none 0, .ptr (.heap k) none 0, .agg y.cells] hp = some (.bool true, hp', dd) ∧ (dd = true → (∃ d' x' S' BS', Both l hp' i k d' x' S' BS' (b + 2) ∧ (Lg d.log → Lg d'.log) ∧ d'.w3 = d.w3 ∧ d'.w4 = d.w4) ∧ ∀ j, j < hp.length → j ≠ i → j ≠ k → hp'[j]? = hp[j]?) := by
  have hbo := hb
  obtain ⟨s, e, d', x', S', BS', dd, e22, e43, hdd, hB, hL⟩ := endsF n i k l y.tick hp d x S BS b hb g hn hbb
  obtain ⟨b1, b2, b3, b4, b5, b6, b7, b8, b9, b10, b11, b12, b13, b14, b15, b16⟩ := hb
  have hi : i < hp.length := (List.getElem?_eq_some_iff.1 b1).1
  have hk : k < hp.length := (List.getElem?_eq_some_iff.1 b2).1
  have hs : d.sec.length = 8192 := by rw [b6, ob_len]; exact b7
  have gl : l.length ≤ 1000 := Nat.le_trans g.len (by omega)
  have e27 := f27 (n + 1) i y.job d hp b1 (by rw [b4]; exact gl) (by omega) (by rw [b4]; exact g.ok)
  have e41 := fun hp => f41 (n + 4) y.job hp
  have e40 := f40 (n + 3) k y.job x hp b2 (by rw [b5]; exact gl) (by omega) (by rw [b5]; exact g.ok)
  rw [b4] at e27
  rw [b5] at e40
  have h0' : (y.do_ == 0) = false := by simp [h0]
  cases dd with
  | false =>
    obtain ⟨rfl, rfl⟩ := hdd rfl
    simp only [Bool.false_eq_true, if_false] at e22
    have e43 := e43 hp b2
    simp only [Bool.false_eq_true, if_false] at e43
    have e24 := f24 (n + 4) i d' hp b1 hs
    rw [b11] at e24
    have hxb : x'.cells[2]? = some (.bool x'.busy) := rfl
    refine ⟨hp, false, ?_, fun h => by cases h⟩
    rw [evalCall_at _ _ _ hh19 rfl Try.func19 rfl (Nat.le_of_ble_eq_true rfl) rfl]
    clear hB hbo b12
    generalize askS l y.job = a at *
    generalize x'.cells = C1 at *
    generalize x'.busy = bz at *
    obtain ⟨do_, tick, ⟨o, js, nn, w, dd⟩⟩ := y
    simp only [Jb.cells, Deed.cells] at *
    simp [-getElem?_pos, List.getElem?_cons_zero, e27, e41, e40, e22, e43, e24, b2, hxb, h0, h0']
  | true =>
    simp only [if_true] at e22
    have k1 : (hp.set i d'.cells)[k]? = some x.cells := by rw [List.getElem?_set_ne b3]; exact b2
    have e43' := e43 _ k1
    clear e43
    simp only [if_true] at e43'
    have hB' := hB
    obtain ⟨c1, c2, -, -, -, c6, c7, -, -, -, c11, -, -, -, -, -⟩ := hB
    have e24 := f24 (n + 4) i d' _ c1 (by rw [c6, ob_len]; exact c7)
    rw [c11] at e24
    have hxb : x'.cells[2]? = some (.bool x'.busy) := rfl
    refine ⟨(hp.set i d'.cells).set k x'.cells, true, ?_, fun _ => ⟨⟨d', x', S', BS', hB', hL⟩, fun j hj h1 h2 => by rw [List.getElem?_set_ne (Ne.symm h2), List.getElem?_set_ne (Ne.symm h1)]⟩⟩
    rw [evalCall_at _ _ _ hh19 rfl Try.func19 rfl (Nat.le_of_ble_eq_true rfl) rfl]
    clear hB' hbo b12 c11
    generalize hH2 : (hp.set i d'.cells).set k x'.cells = H2 at *
    clear hH2 hdd
    generalize askS l y.job = a at *
    generalize hH1 : hp.set i d'.cells = H1 at *
    generalize x'.cells = C1 at *
    generalize x'.busy = bz at *
    obtain ⟨do_, tick, ⟨o, js, nn, w, dd⟩⟩ := y
    simp only [Jb.cells, Deed.cells] at *
    simp [-getElem?_pos, List.getElem?_cons_zero, e27, e41, e40, e22, e43', e24, c2, hxb, h0, h0']
theorem f19F (n i k : Nat) (l : List Pt) (y : Deed) (hp : Heap) (d : Dv) (x : Rx) (S : List UInt8) (BS : List (List UInt8)) (b : Nat) (hb : Both l hp i k d x S BS b) (g : Good l) (hn : 2000 < n) (hbb : b ≤ 900) :
    ∃ hp' dd, evalCall Try.prog hints (n + 6) 19 [.ptr (.heap i) none 0, .ptr (.heap k) none 0, .agg y.cells] hp = some (.bool true, hp', dd) ∧ (dd = true → (∃ d' x' S' BS', Both l hp' i k d' x' S' BS' (b + 2) ∧ (Lg d.log → Lg d'.log) ∧ d'.w3 = d.w3 ∧ d'.w4 = d.w4) ∧ ∀ j, j < hp.length → j ≠ i → j ≠ k → hp'[j]? = hp[j]?) := by
  by_cases h0 : y.do_ = 0
  · exact f19sF n i k l y hp d x S BS b hb g hn h0
  · exact f19eF n i k l y hp d x S BS b hb g hn hbb h0
end Go.Proofs.Ytolhandckojljaa
end

section
namespace Go.Proofs.Ytolhandckojljaa
open Go Go.PS
theorem f46 (n k : Nat) (cs : List PV) (hp : Heap) (hk : k ≤ 4194304) (hc : cs.length = k * 3) (ha : cs.all storable = true) (ho : cs.map outCell = cs) : evalCall Try.prog hints (n + 1) 46 [.sl .sh k cs] hp = some (.sl (.mu 3) k cs, hp, false) := by
  rw [evalCall, hh46]
  show primCall (1, 3) [.sl .sh k cs] hp = _
  simp only [primCall, ho]
  rw [if_pos ⟨hk, hc, ha⟩]
theorem f25nil (n : Nat) (hp : Heap) : evalCall Try.prog hints (n + 1) 25 [.nilp] hp = some (.nilp, hp, false) := by
  rw [evalCall_at _ _ _ hh25 rfl Try.func25 rfl (Nat.le_of_ble_eq_true rfl) rfl]
  simp
theorem f21nil (n : Nat) (j : Jb) (hp : Heap) : ∃ H, evalCall Try.prog hints (n + 1) 21 [.nilp, .int .i64 0, .agg j.cells] hp = some (.int .i64 1, H, false) := by
  rw [evalCall_at _ _ _ hh21 rfl Try.func21 rfl (Nat.le_of_ble_eq_true rfl) rfl]
  obtain ⟨o, s, nn, w, dd⟩ := j
  simp only [Jb.cells]
  exact ⟨_, by simp; rfl⟩
theorem f26nil (n : Nat) (o k : Int) (hp : Heap) : evalCall Try.prog hints (n + 2) 26 [.nilp, .int .i64 o, .int .i64 k] hp = some (.tup [.str [], .int .i64 1], hp, false) := by
  have e := f36nil n o hp
  simp only [Pt.zero, Pt.cells] at e
  rw [evalCall_at _ _ _ hh26 rfl Try.func26 rfl (Nat.le_of_ble_eq_true rfl) rfl]
  simp [e]
theorem f27nil (n : Nat) (j : Jb) (hp : Heap) : evalCall Try.prog hints (n + 2) 27 [.nilp, .agg j.cells] hp = some (.int .i64 1, hp, false) := by
  have e := f36nil n j.o hp
  have e44 := fun hp => f44 n j hp
  simp only [Pt.zero, Pt.cells] at e
  rw [evalCall_at _ _ _ hh27 rfl Try.func27 rfl (Nat.le_of_ble_eq_true rfl) rfl]
  generalize j.size = z at *
  obtain ⟨o, s, nn, w, dd⟩ := j
  simp only [Jb.cells] at *
  simp [e, e44]
end Go.Proofs.Ytolhandckojljaa
end
