/-
  What functions of this program compute, as equations about the evaluator. No condition but those stated.
-/
import Derived.Test.YtolhandckojljaaDiskForksEqs4
set_option linter.all false
section
namespace Go.Proofs.Ytolhandckojljaa
open Go Go.PS
/-- What both Ends answer, and leave. -/
theorem ends (n i k : Nat) (l : List Pt) (tick : Int) (hp : Heap) (d : Dv) (x : Rx) (S : List UInt8) (BS : List (List UInt8)) (b : Nat) (hb : Both l hp i k d x S BS b) (g : Good l) (hn : 2000 < n) (hbb : b ≤ 900) :
    ∃ s e d' x' S' BS' dd, evalCall Try.prog hints (n + 5) 22 [.ptr (.heap i) none 0, .int .i64 tick] hp = some (.tup [.str s, .int .i64 e], if dd = true then hp.set i d'.cells else hp, dd) ∧
      (∀ H : Heap, H[k]? = some x.cells → evalCall Try.prog hints (n + 5) 43 [.ptr (.heap k) none 0, .int .i64 tick] H = some (.tup [.str s, .int .i64 e], if dd = true then H.set k x'.cells else H, dd)) ∧
      (dd = false → d' = d ∧ x' = x) ∧ Both l ((hp.set i d'.cells).set k x'.cells) i k d' x' S' BS' (b + 2) := by
  have hbo := hb
  obtain ⟨b1, b2, b3, b4, b5, b6, b7, b8, b9, b10, b11, b12, b13, b14, b15, b16⟩ := hb
  have hi : i < hp.length := (List.getElem?_eq_some_iff.1 b1).1
  have hk : k < hp.length := (List.getElem?_eq_some_iff.1 b2).1
  have hs : d.sec.length = 8192 := by rw [b6, ob_len]; exact b7
  have gl : l.length ≤ 1000 := Nat.le_trans g.len (by omega)
  have same : (hp.set i d.cells).set k x.cells = hp := by
    apply List.ext_getElem?
    intro q
    by_cases h1 : q = k
    · subst h1; rw [List.getElem?_set_self (by simpa using hk), b2]
    · rw [List.getElem?_set_ne (Ne.symm h1)]
      by_cases h2 : q = i
      · subst h2; rw [List.getElem?_set_self hi, b1]
      · rw [List.getElem?_set_ne (Ne.symm h2)]
  have g1 : ∀ (d' : Dv) (x' : Rx), ((hp.set i d'.cells).set k x'.cells)[i]? = some d'.cells := fun d' x' => by
    rw [List.getElem?_set_ne (Ne.symm b3)]; exact List.getElem?_set_self hi
  have g2 : ∀ (d' : Dv) (x' : Rx), ((hp.set i d'.cells).set k x'.cells)[k]? = some x'.cells := fun d' x' => List.getElem?_set_self (by simpa using hk)
  cases hj : d.job with
  | none =>
    have hbz : x.busy = false := by rw [← b11, hj]; rfl
    refine ⟨[], 9, d, x, S, BS, false, by simpa using f22e (n + 4) i tick d hp b1 hs hj, fun H hH => by simpa using f43e (n + 4) k tick x H hH hbz, fun _ => ⟨rfl, rfl⟩, ?_⟩
    rw [same]
    exact ⟨b1, b2, b3, b4, b5, b6, b7, b8, b9, b10, b11, b12, b13, b14, b15, by omega⟩
  | some jx =>
    have hbz : x.busy = true := by rw [← b11, hj]; rfl
    obtain ⟨j1, j2, j3, j4⟩ := b12 jx hj
    by_cases ht : tick < d.from_ + 3
    · refine ⟨[], 13, d, x, S, BS, false, by simpa using f22t (n + 4) i jx tick d hp b1 hs hj ht b14, fun H hH => by simpa using f43t (n + 4) k tick x H hH hbz (by omega) (by omega), fun _ => ⟨rfl, rfl⟩, ?_⟩
      rw [same]
      exact ⟨b1, b2, b3, b4, b5, b6, b7, b8, b9, b10, b11, b12, b13, b14, b15, by omega⟩
    · obtain ⟨m, a, hm⟩ := may_of j4 g.ok
      obtain ⟨q, q1, q2⟩ := find_idx hm.e
      have hB := b10 q _ q2
      have fo := g.ok _ (List.mem_of_getElem? q2)
      obtain ⟨m1, m2, m3, m4, m5, m6⟩ := hm
      have hm : May l x.job m a := ⟨m1, m2, m3, m4, m5, m6⟩
      generalize (find l x.job.o).1 = p at *
      unfold okP at fo; simp only [decide_eq_true_eq] at fo
      obtain ⟨s, hs'⟩ : ∃ s : Nat, x.job.s = s := ⟨x.job.s.toNat, by omega⟩
      obtain ⟨F, hF⟩ : ∃ F : Nat, p.f = F := ⟨p.f.toNat, by omega⟩
      obtain ⟨C, hC⟩ : ∃ C : Nat, p.c = C := ⟨p.c.toNat, by omega⟩
      rw [hF, hC] at hB
      simp only [Int.toNat_natCast] at hB
      have hl8 : ((S.drop (16 * F)).take (16 * C)).length = 16 * C := by rw [List.length_take, List.length_drop]; omega
      have aF : a = F + s := by omega
      have hBx : x.bytes[q]? = some (ofBytes ((S.drop (16 * F)).take (16 * C))) := by rw [b8, List.getElem?_map, hB]; rfl
      cases hw : x.job.w with
      | false =>
        have hsz : x.job.n = 16 * m := by rw [← m2]; unfold Jb.size; rw [hw]; simp
        have e22 := f22r (n + 1) i jx tick x.job d S hp b1 b6 b7 (by rw [b4]; exact gl) (by omega) (by rw [b4]; exact g.ok) hj j3 m a (by rw [b4]; exact hm) hw (by omega) b14 (Ne.symm j1)
        have e43 := fun H hH => f43r (n + 3) k q tick x _ H hH hbz (by omega) (by omega) (by rw [b5]; exact gl) (by omega) (by rw [b5]; exact q1) hBx hw s m hs' hsz (by rw [hl8]; omega) (by rw [hl8]; omega)
        rw [decide_eq_true hi] at e22
        have eo : outK S a m = (((S.drop (16 * F)).take (16 * C)).drop (16 * s)).take (16 * m) := by
          rw [outK_eq b7 m (by omega), dtdt (by omega), aF, show 16 * (F + s) = 16 * F + 16 * s by omega]
        refine ⟨_, 0, { d with job := none }, { x with busy := false }, S, BS, true, by simpa using e22, fun H hH => ?_, (fun h => by cases h), ?_⟩
        · rw [eo]
          have hkH : k < H.length := (List.getElem?_eq_some_iff.1 hH).1
          have := e43 H hH
          rw [decide_eq_true hkH] at this
          simpa using this
        · exact ⟨g1 _ _, g2 _ _, b3, b4, b5, b6, b7, b8, b9, b10, rfl, (fun jx hj => by cases hj), b13, b14, b15, by simp only; omega⟩
      | true =>
        have hsz : (x.job.d.length : Int) = 16 * m := by rw [← m2]; unfold Jb.size; rw [hw]; simp
        have hdl : x.job.d.length = 16 * m := by omega
        have e22 := f22w (n + 1) i jx tick x.job d S hp b1 b6 b7 (by rw [b4]; exact gl) (by omega) (by rw [b4]; exact g.ok) hj j3 m a (by rw [b4]; exact hm) hw (by omega) b14 b15 (by omega)
        have e43 := fun H hH => f43w (n + 3) k q tick x _ H hH hbz (by omega) (by omega) (by rw [b5]; exact gl) (by omega) (by rw [b5]; exact q1) hBx hw s hs' (by rw [hl8]; omega) (by rw [hl8]; omega)
        rw [decide_eq_true hi] at e22
        have eS : secK S a x.job.d m = put S (16 * a) x.job.d := by
          rw [secK_eq b7 m (by omega) (by omega), ← hdl, List.take_length]
        refine ⟨[], 0, DK d S a tick x.job m, { x with busy := false, bytes := x.bytes.set q (ofBytes (put ((S.drop (16 * F)).take (16 * C)) (16 * s) x.job.d)) }, secK S a x.job.d m, BS.set q (put ((S.drop (16 * F)).take (16 * C)) (16 * s) x.job.d), true, by simpa using e22, fun H hH => ?_, (fun h => by cases h), ?_⟩
        · have hkH : k < H.length := (List.getElem?_eq_some_iff.1 hH).1
          have := e43 H hH
          rw [decide_eq_true hkH] at this
          simpa using this
        · refine ⟨g1 _ _, g2 _ _, b3, b4, b5, rfl, secK_len b7 (by omega), ?_, by rw [List.length_set]; exact b9, fun q' p' h' => ?_, rfl, (fun jx hj => by cases hj), b13, b14, logK_len b15 m, ?_⟩
          · simp only; rw [b8, List.map_set]
          · have hq : q < BS.length := (List.getElem?_eq_some_iff.1 hB).1
            have fo' := g.ok _ (List.mem_of_getElem? h')
            unfold okP at fo'; simp only [decide_eq_true_eq] at fo'
            rw [eS]
            by_cases e : q' = q
            · subst e
              rw [q2] at h'
              cases h'
              rw [List.getElem?_set_self hq, hF, hC]
              simp only [Int.toNat_natCast]
              rw [show 16 * a = 16 * F + 16 * s by omega, put_in (by omega) (by omega)]
            · rw [List.getElem?_set_ne (Ne.symm e), b10 q' p' h']
              refine congrArg some ?_
              by_cases hc' : p'.c = 0
              · rw [hc']; simp
              · have ap := apart_of g h' q2 e (by omega) (by omega)
                rw [put_out (by omega) (by omega)]
          · show d.nlog + m ≤ b + 2
            omega
end Go.Proofs.Ytolhandckojljaa
end

section
namespace Go.Proofs.Ytolhandckojljaa
open Go Go.PS
set_option maxHeartbeats 2000000 in
theorem f19e (n i k : Nat) (l : List Pt) (y : Deed) (hp : Heap) (d : Dv) (x : Rx) (S : List UInt8) (BS : List (List UInt8)) (b : Nat) (hb : Both l hp i k d x S BS b) (g : Good l) (hn : 2000 < n) (hbb : b ≤ 900) (h0 : y.do_ ≠ 0) :
    ∃ hp' dd, evalCall Try.prog hints (n + 6) 19 [.ptr (.heap i) none 0, .ptr (.heap k) none 0, .agg y.cells] hp = some (.bool true, hp', dd) ∧ (dd = true → ∃ d' x' S' BS', Both l hp' i k d' x' S' BS' (b + 2)) := by
  have hbo := hb
  obtain ⟨s, e, d', x', S', BS', dd, e22, e43, hdd, hB⟩ := ends n i k l y.tick hp d x S BS b hb g hn hbb
  obtain ⟨b1, b2, b3, b4, b5, b6, b7, b8, b9, b10, b11, b12, b13, b14, b15, b16⟩ := hb
  have hi : i < hp.length := (List.getElem?_eq_some_iff.1 b1).1
  have hk : k < hp.length := (List.getElem?_eq_some_iff.1 b2).1
  have hs : d.sec.length = 8192 := by rw [b6, ob_len]; exact b7
  have gl : l.length ≤ 1000 := Nat.le_trans g.len (by omega)
  have e27 := f27 (n + 1) i y.job d hp b1 (by rw [b4]; exact gl) (by omega) (by rw [b4]; exact g.ok)
  have e41 := fun hp => f41 (n + 4) y.job hp
  have e40 := f40 (n + 3) k y.job x hp b2 (by rw [b5]; exact gl) (by omega) (by rw [b5]; exact g.ok)
  rw [b4] at e27
  rw [b5] at e40
  have h0' : (y.do_ == 0) = false := by simp [h0]
  cases dd with
  | false =>
    obtain ⟨rfl, rfl⟩ := hdd rfl
    simp only [Bool.false_eq_true, if_false] at e22
    have e43 := e43 hp b2
    simp only [Bool.false_eq_true, if_false] at e43
    have e24 := f24 (n + 4) i d' hp b1 hs
    rw [b11] at e24
    have hxb : x'.cells[2]? = some (.bool x'.busy) := rfl
    refine ⟨hp, false, ?_, fun h => by cases h⟩
    rw [evalCall_at _ _ _ hh19 rfl Try.func19 rfl (Nat.le_of_ble_eq_true rfl) rfl]
    clear hB hbo b12
    generalize askS l y.job = a at *
    generalize x'.cells = C1 at *
    generalize x'.busy = bz at *
    obtain ⟨do_, tick, ⟨o, js, nn, w, dd⟩⟩ := y
    simp only [Jb.cells, Deed.cells] at *
    simp [-getElem?_pos, List.getElem?_cons_zero, e27, e41, e40, e22, e43, e24, b2, hxb, h0, h0']
  | true =>
    simp only [if_true] at e22
    have k1 : (hp.set i d'.cells)[k]? = some x.cells := by rw [List.getElem?_set_ne b3]; exact b2
    have e43' := e43 _ k1
    clear e43
    simp only [if_true] at e43'
    have hB' := hB
    obtain ⟨c1, c2, -, -, -, c6, c7, -, -, -, c11, -, -, -, -, -⟩ := hB
    have e24 := f24 (n + 4) i d' _ c1 (by rw [c6, ob_len]; exact c7)
    rw [c11] at e24
    have hxb : x'.cells[2]? = some (.bool x'.busy) := rfl
    refine ⟨(hp.set i d'.cells).set k x'.cells, true, ?_, fun _ => ⟨d', x', S', BS', hB'⟩⟩
    rw [evalCall_at _ _ _ hh19 rfl Try.func19 rfl (Nat.le_of_ble_eq_true rfl) rfl]
    clear hB' hbo b12 c11
    generalize hH2 : (hp.set i d'.cells).set k x'.cells = H2 at *
    clear hH2 hdd
    generalize askS l y.job = a at *
    generalize hH1 : hp.set i d'.cells = H1 at *
    generalize x'.cells = C1 at *
    generalize x'.busy = bz at *
    obtain ⟨do_, tick, ⟨o, js, nn, w, dd⟩⟩ := y
    simp only [Jb.cells, Deed.cells] at *
    simp [-getElem?_pos, List.getElem?_cons_zero, e27, e41, e40, e22, e43', e24, c2, hxb, h0, h0']
theorem f19 (n i k : Nat) (l : List Pt) (y : Deed) (hp : Heap) (d : Dv) (x : Rx) (S : List UInt8) (BS : List (List UInt8)) (b : Nat) (hb : Both l hp i k d x S BS b) (g : Good l) (hn : 2000 < n) (hbb : b ≤ 900) :
    ∃ hp' dd, evalCall Try.prog hints (n + 6) 19 [.ptr (.heap i) none 0, .ptr (.heap k) none 0, .agg y.cells] hp = some (.bool true, hp', dd) ∧ (dd = true → ∃ d' x' S' BS', Both l hp' i k d' x' S' BS' (b + 2)) := by
  by_cases h0 : y.do_ = 0
  · exact f19s n i k l y hp d x S BS b hb g hn h0
  · exact f19e n i k l y hp d x S BS b hb g hn hbb h0
end Go.Proofs.Ytolhandckojljaa
end

section
namespace Go.Proofs.Ytolhandckojljaa
open Go Go.PS
theorem idx_self {l : List Pt} {q : Nat} {p : Pt} (hd : l.Pairwise fun p q => p.o ≠ q.o ∧ meetP q p = false) (h : l[q]? = some p) : idx (fun r : Pt => decide (r.o = p.o)) l = some q := by
  induction l generalizing q with
  | nil => cases h
  | cons a l ih =>
    rw [idx]
    obtain ⟨h1, h2⟩ := List.pairwise_cons.1 hd
    cases q with
    | zero => cases h; simp
    | succ q =>
      rw [List.getElem?_cons_succ] at h
      have := (h1 p (List.mem_of_getElem? h)).1
      rw [if_neg (by simpa using this), ih h2 h]
      rfl
theorem find_self {l : List Pt} {q : Nat} {p : Pt} (g : Good l) (h : l[q]? = some p) : find l p.o = (p, 0) := by
  unfold find
  rw [idx_self g.apart h]
  simp only
  rw [List.getD_eq_getElem?_getD, h]; rfl
theorem find_zero {l : List Pt} (g : Good l) : find l 0 = (Pt.zero, 7) := by
  unfold find
  have : idx (fun r : Pt => decide (r.o = 0)) l = none := by
    rw [idx_none, List.any_eq_false]
    intro p hp
    have := g.ok p hp
    unfold okP at this; simp only [decide_eq_true_eq] at this
    simp; omega
  rw [this]
set_option maxHeartbeats 2000000 in
theorem f20 (n i k : Nat) (l : List Pt) (hp : Heap) (d : Dv) (x : Rx) (S : List UInt8) (BS : List (List UInt8)) (b : Nat) (hb : Both l hp i k d x S BS b) (g : Good l) (hn : 2000 < n) :
    evalCall Try.prog hints (n + 5) 20 [.ptr (.heap i) none 0, .ptr (.heap k) none 0] hp = some (.bool true, hp, false) := by
  obtain ⟨b1, b2, b3, b4, b5, b6, b7, b8, b9, b10, b11, b12, b13, b14, b15, b16⟩ := hb
  have gl : l.length ≤ 1000 := Nat.le_trans g.len (by omega)
  have l8 := g.len
  have e26 := fun o q => f26 n i o q d S hp b1 b6 b7 (by rw [b4]; exact gl) (by omega) (by rw [b4]; exact g.ok)
  rw [b4] at e26
  have e260 := e26 0 0
  unfold sectS at e260
  rw [find_zero g] at e260
  simp only [ne_eq, Int.reduceEq, not_false_eq_true, if_true] at e260
  have lX := flat_len Pt.len l
  have rr := fun k h => flat_row Pt.len l k h
  have g0 := fun k h => flat_get Pt.len l k h 0 (by omega)
  have g2 := fun k h => flat_get Pt.len l k h 2 (by omega)
  obtain ⟨xl, xbs, busy, job, fr, a1⟩ := x
  simp only at b5 b8
  subst b5
  simp only [Rx.cells] at b2
  have lbs : xbs.length = xl.length := by rw [b8, List.length_map]; exact b9
  have hY : ∀ (q : Nat) (p : Pt), xl[q]? = some p → (xbs.map bcell)[q]? = some (.sl .sh (16 * p.c.toNat) (ofBytes ((S.drop (16 * p.f.toNat)).take (16 * p.c.toNat)))) := fun q p h => by
    have hB := b10 q p h
    have o := g.ok p (List.mem_of_getElem? h)
    unfold okP at o; simp only [decide_eq_true_eq] at o
    rw [b8, List.getElem?_map, List.getElem?_map, hB]
    simp only [Option.map_some, bcell]
    rw [ob_len, List.length_take, List.length_drop, Nat.min_eq_left (by omega)]
  have lY : (xbs.map bcell).length = xl.length := by rw [List.length_map]; exact lbs
  rw [lbs] at b2
  generalize xbs.map bcell = Y at *
  generalize xl.flatMap Pt.cells = X at *
  rw [evalCall_at _ _ _ hh20 rfl Try.func20 rfl (Nat.le_of_ble_eq_true rfl) rfl]
  simp
  rw [iter_count (fun q => { fr := [(0, .ptr (.heap i) none 0), (1, .ptr (.heap k) none 0), (5, .int .i64 q)], hp := hp, base := hp.length, dirty := false })
    (.exit 0, { fr := [(0, .ptr (.heap i) none 0), (1, .ptr (.heap k) none 0), (5, .int .i64 xl.length), (28, .bool false)], hp := hp, base := hp.length, dirty := false }) xl.length]
  · simp [e260]
  · simp
  · omega
  · intro q hq
    have hp' : xl[q]? = some xl[q] := List.getElem?_eq_getElem hq
    have hY := hY q _ hp'
    have fs := find_self g hp'
    have g0 := g0 q hq
    have g2 := g2 q hq
    have o := g.ok _ (List.getElem_mem hq)
    generalize xl[q] = p at *
    obtain ⟨po, pf, pc⟩ := p
    unfold okP at o; simp only [decide_eq_true_eq] at o
    obtain ⟨C, rfl⟩ : ∃ C : Nat, pc = C := ⟨pc.toNat, by omega⟩
    obtain ⟨F, rfl⟩ : ∃ F : Nat, pf = F := ⟨pf.toNat, by omega⟩
    simp only [Pt.cells, Nat.add_zero, List.getElem?_cons_zero, List.getElem?_cons_succ, Int.toNat_natCast] at *
    have wq := wrap_id (x := (q : Int) + 1) (by omega)
    have e26c := e26 po C
    unfold sectS at e26c
    rw [fs] at e26c
    simp only [ne_eq, not_true_eq_false, if_false] at e26c
    rw [if_pos (by omega)] at e26c
    simp only at e26c
    simp [-getElem?_pos, List.getElem?_cons_zero, b2, hq]
    rw [iter_count (fun r => { fr := [(0, .ptr (.heap i) none 0), (1, .ptr (.heap k) none 0), (5, .int .i64 q), (6, .int .i64 r)], hp := hp, base := hp.length, dirty := false })
      (.exit 2, { fr := [(0, .ptr (.heap i) none 0), (1, .ptr (.heap k) none 0), (5, .int .i64 q), (6, .int .i64 C), (40, .bool false)], hp := hp, base := hp.length, dirty := false }) C]
    · simp [-getElem?_pos, List.getElem?_cons_zero, b2, hq, lX, g0, g2, e26c, wq]
    · simp
    · omega
    · intro r hr
      have e := e26 po r
      unfold sectS at e
      rw [fs] at e
      simp only [ne_eq, not_true_eq_false, if_false] at e
      rw [if_neg (by omega)] at e
      have ft : ((F : Int) + (r : Int)).toNat = F + r := by omega
      simp only [ft] at e
      have hse : ((ofBytes ((S.drop (16 * F)).take (16 * C))).drop (16 * r)).take 16 = ofBytes (sect S (F + r)) := by
        rw [ob_drop, ob_take, dtdt (by omega)]
        unfold sect
        rw [show 16 * F + 16 * r = (F + r) * 16 by omega]
      have hsl := sect_len b7 (a := F + r) (by omega)
      have b1' := ob_bytes (sect S (F + r))
      have b2' := ob_len (sect S (F + r))
      have lB : (ofBytes ((S.drop (16 * F)).take (16 * C))).length = 16 * C := by rw [ob_len, List.length_take, List.length_drop]; omega
      have wr' := wrap_id (x := (r : Int) + 1) (by omega)
      have v1 : IntKind.i64.wrap (16 * (r : Int)) = ((16 * r : Nat) : Int) := by rw [wrap_id (by omega)]; omega
      have v2 : IntKind.i64.wrap (((16 * r : Nat) : Int) + 16) = ((16 * r + 16 : Nat) : Int) := by rw [wrap_id (by omega)]; omega
      have t1 : ((16 * r : Nat) : Int).toNat = 16 * r := Int.toNat_natCast _
      have t2 : ((16 * r + 16 : Nat) : Int).toNat = 16 * r + 16 := Int.toNat_natCast _
      have h1 : (0 : Int) ≤ ((16 * r : Nat) : Int) := by omega
      have h2 : (0 : Int) ≤ ((16 * r + 16 : Nat) : Int) := by omega
      have h3 : 16 * r + 16 ≤ 16 * C := by omega
      have h3' : ((16 * r + 16 : Nat) : Int) ≤ ((16 * C : Nat) : Int) := by omega
      have h4 : ((16 * r : Nat) : Int) ≤ ((16 * r + 16 : Nat) : Int) := by omega
      have h5 : 16 * r ≤ 16 * r + 16 := by omega
      have h6 : 16 * r + 16 - 16 * r = 16 := by omega
      generalize sect S (F + r) = u at *
      generalize ofBytes ((S.drop (16 * F)).take (16 * C)) = W at *
      generalize ofBytes u = ub at *
      generalize ((16 * r + 16 : Nat) : Int) = zz at *
      generalize ((16 * r : Nat) : Int) = z at *
      have h7 : zz ≤ 16 * (C : Int) := by omega
      have h8 : z ≤ 16 * (r : Int) + 16 := by omega
      simp [-getElem?_pos, List.getElem?_cons_zero, h7, h8, b2, hq, lX, lY, g0, g2, e, wr', hY, v1, v2, hr, t1, t2, h1, h2, h3, h4, h5, h6, lB, hse, b1', b2', hsl]
    · simp [-getElem?_pos, List.getElem?_cons_zero, b2, hq, lX, g2]
    · simp
  · simp [-getElem?_pos, List.getElem?_cons_zero, b2]
  · simp
end Go.Proofs.Ytolhandckojljaa
end

section
namespace Go.Proofs.Ytolhandckojljaa
open Go Go.PS
theorem Both.ext {l : List Pt} {hp hp' : Heap} {i k : Nat} {d : Dv} {x : Rx} {S : List UInt8} {BS : List (List UInt8)} {b : Nat} (h : Both l hp i k d x S BS b) (he : ∀ j, j < hp.length → hp'[j]? = hp[j]?) : Both l hp' i k d x S BS b := by
  have lt : ∀ (j : Nat) (c : List PV), hp[j]? = some c → hp'[j]? = some c := fun j c hj => by rw [he j (List.getElem?_eq_some_iff.1 hj).1]; exact hj
  obtain ⟨b1, b2, b3, b4, b5, b6, b7, b8, b9, b10, b11, b12, b13, b14, b15, b16⟩ := h
  exact ⟨lt _ _ b1, lt _ _ b2, b3, b4, b5, b6, b7, b8, b9, b10, b11, fun jx hj => ⟨(b12 jx hj).1, (b12 jx hj).2.1, lt _ _ (b12 jx hj).2.2.1, (b12 jx hj).2.2.2⟩, b13, b14, b15, b16⟩
theorem Both.le {l : List Pt} {hp : Heap} {i k : Nat} {d : Dv} {x : Rx} {S : List UInt8} {BS : List (List UInt8)} {b b' : Nat} (h : Both l hp i k d x S BS b) (hb : b ≤ b') : Both l hp i k d x S BS b' := by
  obtain ⟨b1, b2, b3, b4, b5, b6, b7, b8, b9, b10, b11, b12, b13, b14, b15, b16⟩ := h
  exact ⟨b1, b2, b3, b4, b5, b6, b7, b8, b9, b10, b11, b12, b13, b14, b15, by omega⟩
theorem chk_good : ∀ {l pre : List Pt}, chkR pre l = 0 → (∀ q ∈ l, okP q = true) ∧ (∀ q ∈ l, ∀ p ∈ pre, p.o ≠ q.o ∧ meetP q p = false) ∧ l.Pairwise fun p q => p.o ≠ q.o ∧ meetP q p = false
  | [], pre, _ => ⟨by simp, by simp, List.Pairwise.nil⟩
  | a :: l, pre, h => by
    rw [chkR] at h
    split at h
    · cases h
    split at h
    · cases h
    split at h
    · cases h
    rename_i h1 h2 h3
    obtain ⟨i1, i2, i3⟩ := chk_good h
    have key : ∀ p ∈ pre, p.o ≠ a.o ∧ meetP a p = false := fun p hp => by
      constructor
      · intro e
        exact h2 (List.any_eq_true.2 ⟨p, hp, by simp [e]⟩)
      · cases hm : meetP a p with
        | false => rfl
        | true => exact (h3 (List.any_eq_true.2 ⟨p, hp, hm⟩)).elim
    refine ⟨fun q hq => ?_, fun q hq p hp => ?_, List.pairwise_cons.2 ⟨fun q hq => i2 q hq a (by simp), i3⟩⟩
    · rcases List.mem_cons.1 hq with rfl | hq
      · simpa using h1
      · exact i1 q hq
    · rcases List.mem_cons.1 hq with rfl | hq
      · exact key p hp
      · exact i2 q hq p (List.mem_append_left _ hp)
theorem both0 {m : List Pt} (g : Good m) (H : Heap) (h0 : H[0]? = some (D0 m).cells) (hl : 0 < H.length) : Both m (H ++ [(X0 m m).cells]) 0 H.length (D0 m) (X0 m m) S0 (m.map zb) 0 := by
  refine ⟨by rw [List.getElem?_append_left hl]; exact h0, by simp, by omega, rfl, rfl, zsec_S0, S0_len, ?_, by simp, fun q p hq => ?_, rfl, (fun jx hj => by cases hj), rfl, ⟨by show (0 : Int) ≤ 0; omega, by show (0 : Int) ≤ 2147483647; omega⟩, rfl, Nat.le_refl _⟩
  · show m.map (fun p => ofBytes (zb p)) = (m.map zb).map ofBytes
    rw [List.map_map]; rfl
  · rw [List.getElem?_map, hq]
    have o := g.ok p (List.mem_of_getElem? hq)
    unfold okP at o; simp only [decide_eq_true_eq] at o
    refine congrArg some ?_
    unfold zb S0
    rw [List.drop_replicate, List.take_replicate]
    congr 1
    omega
set_option maxHeartbeats 2000000 in
theorem f5 (n : Nat) (l : List Pt) (ys : List Deed) (hn : 3000 < n) : ∃ hp d, evalCall Try.prog hints (n + 8) 5 [.sl .sh l.length (l.flatMap Pt.cells), .sl .sh ys.length (ys.flatMap Deed.cells)] [] = some (.bool true, hp, d) := by
  apply of_map
  obtain ⟨m, hm⟩ : ∃ m, m = l.take 8 := ⟨_, rfl⟩
  have ml : m.length ≤ 8 := by rw [hm, List.length_take]; omega
  have e14 := f14 (n + 6) l [] (by omega)
  rw [← hm] at e14
  obtain ⟨H1, r, e15, h1, h2⟩ := f15 (n + 1) m [] (by omega) (by omega)
  have e16 := fun hp => f16 (n + 3) m hp (by omega) (by omega)
  have lY := flat_len Deed.len ys
  have rY := fun k h => flat_row Deed.len ys k h
  have gY := fun k h => flat_get Deed.len ys k h 6 (by omega)
  rw [evalCall_at _ _ _ hh5 rfl Try.func5 rfl (Nat.le_of_ble_eq_true rfl) rfl]
  by_cases hE : chkR [] m = 0
  · obtain ⟨rfl, i1, i2, -⟩ := h1 hE
    simp only [List.length_nil] at i1 i2 e15
    obtain ⟨o1, -, o3⟩ := chk_good hE
    have g : Good m := ⟨o1, ml, o3⟩
    have e18 := f18 (n + 6) m H1 (by omega) (by omega) o1
    have hb0 := both0 g H1 i1 i2
    rw [hE] at e16
    obtain ⟨K, hK⟩ : ∃ K, K = H1.length := ⟨_, rfl⟩
    rw [← hK] at e18 hb0
    generalize H1 ++ [(X0 m m).cells] = H2 at *
    generalize l.flatMap Pt.cells = XL at *
    generalize m.flatMap Pt.cells = XM at *
    generalize ys.flatMap Deed.cells = Y at *
    simp [e14, e15, e16, e18]
    generalize hit : iter _ _ _ = R
    refine iter_elim hit (fun x : Nat × Heap × Bool => { fr := [(1, .sl .sh ys.length Y), (6, .ptr (.heap 0) none 0), (9, .ptr (.heap K) none 0), (10, .int .i64 x.1)], hp := x.2.1, base := 0, dirty := x.2.2 })
      (fun x => x.1 ≤ ys.length ∧ x.1 ≤ 40 ∧ ∃ d x' S BS, Both m x.2.1 0 K d x' S BS (2 * x.1)) (fun x => 40 - x.1)
      (fun x : Bool × Nat × Heap × Bool => if x.1 = true then (.exit 0, { fr := [(1, .sl .sh ys.length Y), (6, .ptr (.heap 0) none 0), (9, .ptr (.heap K) none 0), (10, .int .i64 x.2.1), (50, .bool false)], hp := x.2.2.1, base := 0, dirty := x.2.2.2 }) else (.ret, { fr := [(4, .bool true)], hp := x.2.2.1, base := 0, dirty := x.2.2.2 }))
      (fun x => x.1 = true → ∃ d x' S BS, Both m x.2.2.1 0 K d x' S BS (2 * x.2.1)) (0, H2, false) ?_ ⟨by simp, by simp, _, _, _, _, hb0⟩ (by simp only; omega) ?_ ?_
    · rfl
    · rintro ⟨k, H, dd⟩ ⟨k1, k2, d, x, S, BS, hb⟩
      simp only at k1 k2 hb
      by_cases hk : k < ys.length
      · by_cases hk4 : k < 40
        · have r := rY k hk
          have gy := gY k hk
          have z : k * 7 + 7 ≤ ys.length * 7 := by omega
          have w := wrap_id (x := (k : Int) + 1) (by omega)
          have hk4' : (k : Int) < 40 := by omega
          generalize ys[k] = y at *
          by_cases hd : 100 < y.job.d.length
          · obtain ⟨H', e17, -⟩ := live17 n H (by omega)
            right
            refine ⟨(false, 0, H', true), ?_, by simp, by simp⟩
            have hd' : (100 : Int) < y.job.d.length := by omega
            obtain ⟨do_, tick, ⟨o, s, nn, w', dt⟩⟩ := y
            simp only [Deed.cells, List.getElem?_cons_zero, List.getElem?_cons_succ] at *
            simp [-getElem?_pos, List.getElem?_cons_zero, hk, hk4, hk4', lY, gy, e17, hd, hd']

          · obtain ⟨H', d', e19, hB⟩ := f19 (n + 1) 0 K m y H d x S BS (2 * k) hb g (by omega) (by omega)
            have hd' : ¬ (100 : Int) < y.job.d.length := by omega
            left
            cases d' with
            | true =>
              obtain ⟨d2, x2, S2, BS2, hB⟩ := hB rfl
              refine ⟨(k + 1, H', true), ?_, ⟨by simp only; omega, by simp only; omega, d2, x2, S2, BS2, hB.le (by simp only; omega)⟩, by simp only; omega⟩
              obtain ⟨do_, tick, ⟨o, s, nn, w', dt⟩⟩ := y
              simp only [Deed.cells, List.getElem?_cons_zero, List.getElem?_cons_succ] at *
              simp [-getElem?_pos, List.getElem?_cons_zero, hk, hk4, hk4', lY, gy, r, z, e19, hd, hd', w]

            | false =>
              refine ⟨(k + 1, H, dd), ?_, ⟨by simp only; omega, by simp only; omega, d, x, S, BS, hb.le (by simp only; omega)⟩, by simp only; omega⟩
              obtain ⟨do_, tick, ⟨o, s, nn, w', dt⟩⟩ := y
              simp only [Deed.cells, List.getElem?_cons_zero, List.getElem?_cons_succ] at *
              simp [-getElem?_pos, List.getElem?_cons_zero, hk, hk4, hk4', lY, gy, r, z, e19, hd, hd', w]
        · right
          have hk4' : ¬ (k : Int) < 40 := by omega
          refine ⟨(true, k, H, dd), ?_, by simp, fun _ => ⟨d, x, S, BS, hb⟩⟩
          simp [hk, hk4, hk4']
      · right
        refine ⟨(true, k, H, dd), ?_, by simp, fun _ => ⟨d, x, S, BS, hb⟩⟩
        simp [hk]
    · rintro ⟨b, k, H, dd⟩ rfl h
      cases b with
      | false => simp
      | true =>
        obtain ⟨d, x, S, BS, hb⟩ := h rfl
        obtain ⟨H', e17, hx⟩ := live17 n H (by omega)
        simp only at hb
        have e20 := f20 (n + 2) 0 K m H' d x S BS _ (hb.ext hx) g (by omega)
        simp [e17, e20]
  · have h2 := h2 hE
    subst h2
    obtain ⟨H', e17, -⟩ := live17 n [] (by omega)
    have hE' : (chkR [] m != 0) = true := by simp [hE]
    generalize chkR [] m = E at *
    generalize l.flatMap Pt.cells = XL at *
    generalize m.flatMap Pt.cells = XM at *
    generalize ys.flatMap Deed.cells = Y at *
    simp [e14, e15, e16, e17, hE, hE']
end Go.Proofs.Ytolhandckojljaa
end

section
namespace Go.Proofs.Ytolhandckojljaa
open Go Go.PS
theorem pt_of (r : List PV) (h : Ty Try.prog 90 r) : ∃ m : Pt, r = m.cells ∧ True := by
  obtain ⟨parts, rfl, h1, h2⟩ := ty_struct Try.underlying90 h
  match parts, h1, h2 with
  | [p0, p1, p2], _, h2 =>
    obtain ⟨a, rfl, _⟩ := ty_int Try.underlying3 (h2 0 _ _ rfl rfl)
    obtain ⟨b, rfl, _⟩ := ty_int Try.underlying3 (h2 1 _ _ rfl rfl)
    obtain ⟨c, rfl, _⟩ := ty_int Try.underlying3 (h2 2 _ _ rfl rfl)
    exact ⟨⟨a, b, c⟩, rfl, trivial⟩
theorem jb_of (r : List PV) (h : Ty Try.prog 61 r) : ∃ j : Jb, r = j.cells ∧ True := by
  obtain ⟨parts, rfl, h1, h2⟩ := ty_struct Try.underlying61 h
  match parts, h1, h2 with
  | [p0, p1, p2, p3, p4], _, h2 =>
    obtain ⟨a, rfl, _⟩ := ty_int Try.underlying3 (h2 0 _ _ rfl rfl)
    obtain ⟨b, rfl, _⟩ := ty_int Try.underlying3 (h2 1 _ _ rfl rfl)
    obtain ⟨c, rfl, _⟩ := ty_int Try.underlying3 (h2 2 _ _ rfl rfl)
    obtain ⟨w, rfl⟩ := ty_bool Try.underlying4 (h2 3 _ _ rfl rfl)
    obtain ⟨s, rfl, _⟩ := ty_str Try.underlying9 (h2 4 _ _ rfl rfl)
    exact ⟨⟨a, b, c, w, s⟩, rfl, trivial⟩
theorem deed_of (r : List PV) (h : Ty Try.prog 63 r) : ∃ y : Deed, r = y.cells ∧ True := by
  obtain ⟨parts, rfl, h1, h2⟩ := ty_struct Try.underlying63 h
  match parts, h1, h2 with
  | [p0, p1, p2], _, h2 =>
    obtain ⟨a, rfl, _⟩ := ty_int Try.underlying3 (h2 0 _ _ rfl rfl)
    obtain ⟨b, rfl, _⟩ := ty_int Try.underlying3 (h2 1 _ _ rfl rfl)
    obtain ⟨j, rfl, _⟩ := jb_of _ (h2 2 _ _ rfl rfl)
    exact ⟨⟨a, b, j⟩, rfl, trivial⟩
end Go.Proofs.Ytolhandckojljaa
end
