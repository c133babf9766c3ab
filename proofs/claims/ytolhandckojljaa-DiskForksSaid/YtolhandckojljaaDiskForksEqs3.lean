/-
  What functions of this program compute, as equations about the evaluator. No condition but those stated.
-/
import Derived.Test.YtolhandckojljaaDiskForksEqs2
set_option linter.all false
section
namespace Go.Proofs.Ytolhandckojljaa
open Go Go.PS
def startS (l : List Pt) (busy : Bool) (tick : Int) (j : Jb) : Int := if tick < 0 ∨ 2147483647 < tick then 2 else if busy = true then 13 else askS l j
theorem askS_cases (l : List Pt) (j : Jb) : askS l j = 0 ∨ askS l j ≠ 0 := by omega
set_option maxHeartbeats 1000000 in
theorem f42 (n i : Nat) (tick : Int) (j : Jb) (x : Rx) (hp : Heap) (hi : hp[i]? = some x.cells) (hl : x.parts.length ≤ 1000) (hn : 1001 < n) (ho : ∀ q ∈ x.parts, okP q = true) :
    evalCall Try.prog hints (n + 3) 42 [.ptr (.heap i) none 0, .int .i64 tick, .agg j.cells] hp = some (.int .i64 (startS x.parts x.busy tick j), if startS x.parts x.busy tick j = 0 then hp.set i { x with busy := true, job := j, from_ := tick }.cells else hp, decide (startS x.parts x.busy tick j = 0)) := by
  have hlt : i < hp.length := (List.getElem?_eq_some_iff.1 hi).1
  have hset : ∀ c, (hp.set i c)[i]? = some c := fun c => List.getElem?_set_self hlt
  have e40 := f40 n i j x hp hi hl hn ho
  rw [evalCall_at _ _ _ hh42 rfl Try.func42 rfl (Nat.le_of_ble_eq_true rfl) rfl]
  unfold startS
  generalize askS x.parts j = a at *
  obtain ⟨l, bs, busy, job, fr, a1⟩ := x
  obtain ⟨jo, js, jn, jw, jd⟩ := job
  obtain ⟨o, s, nn, w, dd⟩ := j
  simp only [Rx.cells, Jb.cells] at *
  generalize l.flatMap Pt.cells = X at *
  generalize bs.map bcell = Y at *
  by_cases c1 : tick < 0
  · simp [c1]
  by_cases c2 : 2147483647 < tick
  · simp [c1, c2]
  cases busy with
  | true => simp [-getElem?_pos, List.getElem?_cons_zero, c1, c2, hi]
  | false =>
    by_cases c3 : a = 0
    · subst c3
      simp [-getElem?_pos, List.getElem?_cons_zero, c1, c2, hi, e40, hset, hlt]
    · have c3' : (a == 0) = false := by simp [c3]
      simp [-getElem?_pos, List.getElem?_cons_zero, c1, c2, hi, e40, c3, c3']
set_option maxHeartbeats 1000000 in
theorem f21 (n i : Nat) (tick : Int) (j : Jb) (d : Dv) (hp : Heap) (hi : hp[i]? = some d.cells) (hs : d.sec.length = 8192) (hl : d.parts.length ≤ 1000) (hn : 1001 < n) (ho : ∀ q ∈ d.parts, okP q = true) :
    evalCall Try.prog hints (n + 5) 21 [.ptr (.heap i) none 0, .int .i64 tick, .agg j.cells] hp = some (.int .i64 (startS d.parts d.job.isSome tick j), if startS d.parts d.job.isSome tick j = 0 then (hp ++ [j.cells]).set i { d with job := some hp.length, from_ := tick }.cells else hp ++ [j.cells], decide (startS d.parts d.job.isSome tick j = 0)) := by
  have hlt : i < hp.length := (List.getElem?_eq_some_iff.1 hi).1
  have hi1 : (hp ++ [j.cells])[i]? = some d.cells := by rw [List.getElem?_append_left hlt]; exact hi
  have hset : ∀ c, (hp.set i c ++ [j.cells])[i]? = some c := fun c => by rw [List.getElem?_append_left (by simpa using hlt)]; exact List.getElem?_set_self hlt
  have hlast : (hp ++ [j.cells])[hp.length]? = some j.cells := by simp
  have e27 := f27 n i j d (hp ++ [j.cells]) hi1 hl hn ho
  have gj := d.gj hs
  have len := d.len hs
  have s1 := d.sj (some hp.length) hs
  have s2 := { d with job := some hp.length }.sf tick hs
  have len2 := { d with job := some hp.length }.len hs
  simp only [jobP] at s1
  rw [evalCall_at _ _ _ hh21 rfl Try.func21 rfl (Nat.le_of_ble_eq_true rfl) rfl]
  unfold startS
  generalize askS d.parts j = a at *
  generalize d.cells = C at *
  generalize ({ d with job := some hp.length } : Dv).cells = C1 at *
  simp only at s2
  generalize ({ d with job := some hp.length, from_ := tick } : Dv).cells = C2 at *
  obtain ⟨o, s, nn, w, dd⟩ := j
  simp only [Jb.cells] at *
  by_cases c1 : tick < 0
  · simp [c1]
  by_cases c2 : 2147483647 < tick
  · simp [c1, c2]
  cases hj : d.job with
  | some k =>
    rw [hj] at gj
    simp only [jobP] at gj
    simp [-getElem?_pos, List.getElem?_cons_zero, c1, c2, hi1, gj]
  | none =>
    rw [hj] at gj
    simp only [jobP] at gj
    by_cases c3 : a = 0
    · subst c3
      simp [-getElem?_pos, List.getElem?_cons_zero, c1, c2, hi1, gj, e27, hlast, hset, hlt, s1, s2, len, len2]
    · have c3' : (a == 0) = false := by simp [c3]
      simp [-getElem?_pos, List.getElem?_cons_zero, c1, c2, hi1, gj, e27, hlast, c3, c3']
end Go.Proofs.Ytolhandckojljaa
end

section
namespace Go.Proofs.Ytolhandckojljaa
open Go Go.PS
theorem splice_eq (cs : List PV) (ys : List PV) (off : Nat) (h : off + ys.length ≤ cs.length) : splice cs off ys = cs.take off ++ ys ++ cs.drop (off + ys.length) := by
  apply List.ext_getElem?
  intro k
  rw [splice_get _ _ _ _ h]
  split
  · rename_i hk
    rw [List.append_assoc, List.getElem?_append_right (by rw [List.length_take]; omega), List.length_take, Nat.min_eq_left (by omega), List.getElem?_append_left (by omega)]
  · rename_i hk
    rw [List.append_assoc]
    by_cases h1 : k < off
    · rw [List.getElem?_append_left (by rw [List.length_take]; omega), List.getElem?_take_of_lt h1]
    · rw [List.getElem?_append_right (by rw [List.length_take]; omega), List.length_take, Nat.min_eq_left (by omega), List.getElem?_append_right (by omega), List.getElem?_drop]
      congr 1; omega
theorem ob_len (s : List UInt8) : (ofBytes s).length = s.length := by simp [ofBytes]
theorem ob_all (s : List UInt8) : (ofBytes s).all storable = true := by simp [ofBytes]
theorem ob_out (s : List UInt8) : (ofBytes s).map outCell = ofBytes s := by simp [ofBytes]
theorem ob_share (s : List UInt8) : shareCells (ofBytes s) = ofBytes s := by simp [ofBytes, shareCells, shr]
theorem ob_shr (s : List UInt8) : (ofBytes s).map shr = ofBytes s := ob_share s
theorem ob_bytes (s : List UInt8) : bytesOf (ofBytes s) = some s := by
  induction s with
  | nil => rfl
  | cons a s ih =>
    show bytesOf (.int .u8 a.toNat :: ofBytes s) = _
    rw [bytesOf, ih]
    simp
theorem ob_app (s t : List UInt8) : ofBytes (s ++ t) = ofBytes s ++ ofBytes t := by simp [ofBytes]
theorem ob_drop (s : List UInt8) (k : Nat) : (ofBytes s).drop k = ofBytes (s.drop k) := by simp [ofBytes, List.map_drop]
theorem ob_take (s : List UInt8) (k : Nat) : (ofBytes s).take k = ofBytes (s.take k) := by simp [ofBytes, List.map_take]
/-- Sixteen bytes of the disk. -/
def sect (S : List UInt8) (a : Nat) : List UInt8 := (S.drop (a * 16)).take 16
theorem sect_len {S : List UInt8} {a : Nat} (hS : S.length = 8192) (h : a < 512) : (sect S a).length = 16 := by
  unfold sect; rw [List.length_take, List.length_drop]; omega
theorem Dv.sect (d : Dv) {S : List UInt8} (hd : d.sec = ofBytes S) (hS : S.length = 8192) (a : Nat) (h : a < 512) : (d.cells.drop (1 + a * 16)).take 16 = ofBytes (Proofs.Ytolhandckojljaa.sect S a) := by
  unfold Dv.cells Proofs.Ytolhandckojljaa.sect
  rw [Nat.add_comm 1, List.drop_succ_cons, hd, List.drop_append_of_le_length (by rw [ob_len]; omega), List.take_append_of_le_length (by rw [List.length_drop, ob_len]; omega), ob_drop, ob_take]
def sectS (l : List Pt) (S : List UInt8) (o k : Int) : List UInt8 × Int :=
  if (find l o).2 ≠ 0 then ([], (find l o).2) else if k < 0 ∨ (find l o).1.c ≤ k then ([], 6) else (sect S ((find l o).1.f + k).toNat, 0)
set_option maxHeartbeats 1000000 in
theorem f26 (n i : Nat) (o k : Int) (d : Dv) (S : List UInt8) (hp : Heap) (hi : hp[i]? = some d.cells) (hd : d.sec = ofBytes S) (hS : S.length = 8192) (hl : d.parts.length ≤ 1000) (hn : 1001 < n) (ho : ∀ q ∈ d.parts, okP q = true) :
    evalCall Try.prog hints (n + 4) 26 [.ptr (.heap i) none 0, .int .i64 o, .int .i64 k] hp = some (.tup [.str (sectS d.parts S o k).1, .int .i64 (sectS d.parts S o k).2], hp, false) := by
  have e36 := f36 n i o d hp hi hl hn
  have hs : d.sec.length = 8192 := by rw [hd, ob_len]; exact hS
  have len := d.len hs
  have sc := fun a h => d.sect hd hS a h
  rw [evalCall_at _ _ _ hh26 rfl Try.func26 rfl (Nat.le_of_ble_eq_true rfl) rfl]
  unfold sectS
  have fl := fun h => @find_le d.parts o h ho
  have fe := find_e d.parts o
  generalize find d.parts o = F at *
  obtain ⟨⟨fo, f1, fc⟩, e⟩ := F
  simp only [Pt.cells] at *
  generalize d.cells = C at *
  rcases fe with rfl | rfl
  · have fl := fl rfl
    unfold okP at fl; simp only [decide_eq_true_eq] at fl
    simp only [ne_eq, not_true_eq_false, if_false]
    by_cases c1 : k < 0
    · simp [e36, c1]
    by_cases c2 : fc ≤ k
    · simp [e36, c1, c2]
    obtain ⟨a, ha⟩ : ∃ a : Nat, (a : Int) = f1 + k := ⟨(f1 + k).toNat, by omega⟩
    have a1 : a < 512 := by omega
    have a2 : (a : Int) < 512 := by omega
    have w : IntKind.i64.wrap (f1 + k) = (a : Int) := by rw [ha]; exact wrap_id (by omega)
    rw [← ha]
    have sc := sc a a1
    have sl := sect_len hS a1
    have z : 1 + a * 16 + 16 ≤ 8196 := by omega
    simp only [Int.toNat_natCast]
    generalize sect S a = s at *
    have b1 := ob_bytes s
    have b2 := ob_shr s
    have b3 := ob_len s
    generalize ofBytes s = bs at *
    simp [-getElem?_pos, List.getElem?_cons_zero, e36, c1, c2, hi, w, a1, a2, len, sc, z, b1, b2, b3, sl]
  · simp [e36]
end Go.Proofs.Ytolhandckojljaa
end

section
namespace Go.Proofs.Ytolhandckojljaa
open Go Go.PS
theorem Dv.sl (d : Dv) (n : Nat) (L : List PV) : d.sec.length = 8192 → d.cells.set 8195 (.sl (tg d.w4 4) (n + 1) L) = { d with nlog := n + 1, log := L, a4 := 4, ok4 := .inl rfl }.cells := fun h => by
  unfold Dv.cells; rw [List.set_cons_succ, List.set_append_right _ _ (by omega), h]; rfl
def wr (S : List UInt8) (a : Nat) (t : List UInt8) : List UInt8 := S.take (a * 16) ++ t ++ S.drop (a * 16 + t.length)
theorem wr_len {S : List UInt8} {a : Nat} {t : List UInt8} (h : a * 16 + t.length ≤ S.length) : (wr S a t).length = S.length := by
  unfold wr; simp only [List.length_append, List.length_take, List.length_drop]; omega
theorem Dv.spl (d : Dv) {S : List UInt8} (hd : d.sec = ofBytes S) (hS : S.length = 8192) (a : Nat) (t : List UInt8) (h : a * 16 + t.length ≤ 8192) : splice d.cells (1 + a * 16) (ofBytes t) = { d with sec := ofBytes (wr S a t) }.cells := by
  have hs : d.sec.length = 8192 := by rw [hd, ob_len]; exact hS
  rw [splice_eq _ _ _ (by rw [d.len hs, ob_len]; omega), ob_len]
  unfold Dv.cells wr
  simp only [hd]
  rw [show 1 + a * 16 = a * 16 + 1 by omega, show a * 16 + 1 + t.length = (a * 16 + t.length) + 1 by omega, List.take_succ_cons, List.drop_succ_cons, List.take_append_of_le_length (by rw [ob_len]; omega), List.drop_append_of_le_length (by rw [ob_len]; omega)]
  simp [ob_app, ob_take, ob_drop]
def secK (S : List UInt8) (a : Nat) (data : List UInt8) : Nat → List UInt8
  | 0 => S
  | k + 1 => wr (secK S a data k) (a + k) ((data.drop (16 * k)).take 16)
def stored (tick o s : Int) (t : List UInt8) : List PV := [.int .i64 tick, .int .i64 o, .int .i64 s, .str t]
def logK (d : Dv) (tick : Int) (j : Jb) : Nat → List PV
  | 0 => d.log
  | k + 1 => logK d tick j k ++ stored tick j.o (j.s + k) ((j.d.drop (16 * k)).take 16)
def outK (S : List UInt8) (a : Nat) : Nat → List UInt8
  | 0 => []
  | k + 1 => outK S a k ++ sect S (a + k)
theorem outK_len {S : List UInt8} {a : Nat} (hS : S.length = 8192) : ∀ {k : Nat}, a + k ≤ 512 → (outK S a k).length = 16 * k
  | 0, _ => rfl
  | k + 1, h => by rw [outK, List.length_append, outK_len hS (by omega), sect_len hS (by omega)]; omega
/-- A job that may be. -/
structure May (l : List Pt) (j : Jb) (m a : Nat) : Prop where
  e : (find l j.o).2 = 0
  sz : j.size = 16 * m
  two : 1 ≤ m ∧ m ≤ 2
  s0 : 0 ≤ j.s
  at_ : (a : Int) = (find l j.o).1.f + j.s
  le : (a : Int) + m ≤ (find l j.o).1.f + (find l j.o).1.c
theorem may_of {l : List Pt} {j : Jb} (h : askS l j = 0) (ho : ∀ q ∈ l, okP q = true) : ∃ m a, May l j m a := by
  unfold askS at h
  split at h
  · cases h
  rename_i h1
  split at h
  · cases h
  rename_i h2
  split at h
  · cases h
  rename_i h3
  split at h
  · cases h
  rename_i h4
  have h1' : (find l j.o).2 = 0 := by omega
  have fl := find_le h1' ho
  unfold okP at fl; simp only [decide_eq_true_eq] at fl
  exact ⟨(j.size / 16).toNat, ((find l j.o).1.f + j.s).toNat, h1', by omega, by omega, by omega, by omega, by omega⟩
set_option maxHeartbeats 2000000 in
theorem f22r (n i jx : Nat) (tick : Int) (j : Jb) (d : Dv) (S : List UInt8) (hp : Heap) (hi : hp[i]? = some d.cells) (hd : d.sec = ofBytes S) (hS : S.length = 8192) (hl : d.parts.length ≤ 1000) (hn : 1001 < n) (ho : ∀ q ∈ d.parts, okP q = true)
    (hj : d.job = some jx) (hjx : hp[jx]? = some j.cells) (m a : Nat) (hm : May d.parts j m a) (hw : j.w = false) (ht : d.from_ + 3 ≤ tick) (hf : 0 ≤ d.from_ ∧ d.from_ ≤ 2147483647) (hne : i ≠ jx) :
    evalCall Try.prog hints (n + 4) 22 [.ptr (.heap i) none 0, .int .i64 tick] hp = some (.tup [.str (outK S a m), .int .i64 0], hp.set i { d with job := none }.cells, decide (i < hp.length)) := by
  have hlt : i < hp.length := (List.getElem?_eq_some_iff.1 hi).1
  have hset : ∀ c, (hp.set i c)[i]? = some c := fun c => List.getElem?_set_self hlt
  have hs : d.sec.length = 8192 := by rw [hd, ob_len]; exact hS
  have len := d.len hs
  have gj := d.gj hs
  have gf := d.gf hs
  have s1 := d.sj none hs
  simp only [jobP] at s1
  have e36 := f36 n i j.o { d with job := none } (hp.set i { d with job := none }.cells) (hset _) hl hn
  have e44 := fun hp => f44 (n + 2) j hp
  have sc := fun a h => ({ d with job := none } : Dv).sect hd hS a h
  have len2 := ({ d with job := none } : Dv).len hs
  obtain ⟨m1, m2, m3, m4, m5, m6⟩ := hm
  have fl := find_le m1 ho
  rw [hj] at gj
  simp only [jobP] at gj
  simp only at e36
  generalize find d.parts j.o = F at *
  obtain ⟨⟨fo, f1, fc⟩, e⟩ := F
  simp only at m1; subst m1
  unfold okP at fl; simp only [decide_eq_true_eq] at fl
  simp only at m5 m6
  rw [evalCall_at _ _ _ hh22 rfl Try.func22 rfl (Nat.le_of_ble_eq_true rfl) rfl]
  generalize d.cells = C at *
  generalize ({ d with job := none } : Dv).cells = C1 at *
  have w1 := wrap_id (x := d.from_ + 4) (by omega)
  have w2 : IntKind.i64.wrap (d.from_ + 4 - 1) = d.from_ + 3 := by rw [wrap_id (by omega)]; omega
  have c1 : ¬ tick < d.from_ + 3 := by omega
  have q1 : j.size.tdiv 16 = m := by rw [td _ (by omega)]; omega
  have w3 := wrap_id (x := (m : Int)) (by omega)
  generalize j.size = z at *
  obtain ⟨o, s, nn, w, dd⟩ := j
  simp only [Jb.cells, Pt.cells] at *
  subst hw
  simp [-getElem?_pos, List.getElem?_cons_zero, hi, gj, gf, w1, w2, c1, hjx, s1, e36, e44, q1, w3, hset, hlt, len]
  rw [iter_count (fun k => { fr := [(0, .ptr (.heap i) none 0), (1, .int .i64 tick), (6, .box [.int .i64 o, .int .i64 s, .int .i64 nn, .bool false, .str dd]), (7, .box [.int .i64 fo, .int .i64 f1, .int .i64 fc]), (9, .sl (.mu 1) (outK S a k).length (ofBytes (outK S a k))), (48, .int .i64 m), (49, .int .i64 k)], hp := hp.set i C1, base := hp.length, dirty := true })
    (.exit 1, { fr := [(0, .ptr (.heap i) none 0), (1, .int .i64 tick), (6, .box [.int .i64 o, .int .i64 s, .int .i64 nn, .bool false, .str dd]), (7, .box [.int .i64 fo, .int .i64 f1, .int .i64 fc]), (9, .sl (.mu 1) (outK S a m).length (ofBytes (outK S a m))), (48, .int .i64 m), (49, .int .i64 m), (50, .bool false)], hp := hp.set i C1, base := hp.length, dirty := true }) m]
  · have b1 := ob_bytes (outK S a m)
    have b2 := ob_len (outK S a m)
    generalize outK S a m = t at *
    generalize ofBytes t = bs at *
    simp [b1, b2]
  · rfl
  · omega
  · intro k hk
    have ak : a + k < 512 := by omega
    have sc := sc (a + k) ak
    have sl := sect_len hS ak
    have ol := outK_len hS (a := a) (k := k) (by omega)
    have v1 : IntKind.i64.wrap (f1 + s) = f1 + s := wrap_id (by omega)
    have v2 : IntKind.i64.wrap (f1 + s + k) = ((a + k : Nat) : Int) := by rw [wrap_id (by omega)]; omega
    have v3 := wrap_id (x := (k : Int) + 1) (by omega)
    have ak2 : ((a + k : Nat) : Int) < 512 := by omega
    have ak3 : (0 : Int) ≤ ((a + k : Nat) : Int) := by omega
    have tn : ((a + k : Nat) : Int).toNat = a + k := Int.toNat_natCast _
    rw [outK, ob_app, List.length_append, sl]
    generalize outK S a k = t at *
    generalize sect S (a + k) = u at *
    generalize ((a + k : Nat) : Int) = b at *
    generalize a + k = bn at *
    have b1 := ob_len t
    have b2 := ob_share u
    have b3 := ob_len u
    have b4 : (ofBytes u).all (storable ∘ shr) = true := by simp [ofBytes, storable, shr]
    have b5 : (ofBytes u).map (outCell ∘ shr) = ofBytes u := by simp [ofBytes, outCell, shr]
    have z : 1 + bn * 16 + 16 ≤ 8196 := by omega
    have m1 : t.length + 16 ≤ 140737488355328 := by omega
    generalize ofBytes t = tb at *
    generalize ofBytes u = ub at *
    simp [-getElem?_pos, -List.all_eq_true, List.getElem?_cons_zero, hk, hset, v1, v2, v3, ak2, ak3, tn, sc, len2, z, b1, b2, b3, b4, b5, sl, m1]
  · simp
  · simp
end Go.Proofs.Ytolhandckojljaa
end

section
namespace Go.Proofs.Ytolhandckojljaa
open Go Go.PS
theorem secK_len {S : List UInt8} {a : Nat} {D : List UInt8} (hS : S.length = 8192) : ∀ {k : Nat}, a + k ≤ 512 → (secK S a D k).length = 8192
  | 0, _ => hS
  | k + 1, h => by
    have ih := secK_len (D := D) hS (k := k) (a := a) (by omega)
    rw [secK, wr_len]
    · exact ih
    · rw [ih, List.length_take]; omega
theorem sect_wr {S : List UInt8} {a : Nat} {t : List UInt8} (hS : S.length = 8192) (ha : a < 512) (ht : t.length = 16) : sect (wr S a t) a = t := by
  unfold sect wr
  rw [List.append_assoc, List.drop_append_of_le_length (by rw [List.length_take]; omega), List.drop_take_self, List.nil_append, List.take_append_of_le_length (by omega), List.take_of_length_le (by omega)]
theorem logK_len {d : Dv} {tick : Int} {j : Jb} (h : d.log.length = d.nlog * 4) : ∀ k, (logK d tick j k).length = (d.nlog + k) * 4
  | 0 => h
  | k + 1 => by rw [logK, List.length_append, logK_len h k]; simp only [stored, List.length_cons, List.length_nil]; omega
def DK (d : Dv) (S : List UInt8) (a : Nat) (tick : Int) (j : Jb) (k : Nat) : Dv := { d with job := none, sec := ofBytes (secK S a j.d k), nlog := d.nlog + k, log := logK d tick j k, a4 := (if k = 0 then d.a4 else 4), ok4 := (by have := d.ok4; split <;> omega) }
set_option maxHeartbeats 2000000 in
theorem f22w (n i jx : Nat) (tick : Int) (j : Jb) (d : Dv) (S : List UInt8) (hp : Heap) (hi : hp[i]? = some d.cells) (hd : d.sec = ofBytes S) (hS : S.length = 8192) (hl : d.parts.length ≤ 1000) (hn : 1001 < n) (ho : ∀ q ∈ d.parts, okP q = true)
    (hj : d.job = some jx) (hjx : hp[jx]? = some j.cells) (m a : Nat) (hm : May d.parts j m a) (hw : j.w = true) (ht : d.from_ + 3 ≤ tick) (hf : 0 ≤ d.from_ ∧ d.from_ ≤ 2147483647) (hlog : d.log.length = d.nlog * 4) (hlog2 : d.nlog ≤ 1000) :
    evalCall Try.prog hints (n + 4) 22 [.ptr (.heap i) none 0, .int .i64 tick] hp = some (.tup [.str [], .int .i64 0], hp.set i (DK d S a tick j m).cells, decide (i < hp.length)) := by
  have hlt : i < hp.length := (List.getElem?_eq_some_iff.1 hi).1
  have hset : ∀ c, (hp.set i c)[i]? = some c := fun c => List.getElem?_set_self hlt
  have hs : d.sec.length = 8192 := by rw [hd, ob_len]; exact hS
  have len := d.len hs
  have gj := d.gj hs
  have gf := d.gf hs
  have s1 := d.sj none hs
  simp only [jobP] at s1
  have hD0 : ({ d with job := none } : Dv) = DK d S a tick j 0 := by unfold DK secK logK; rw [← hd]; rfl
  have e36 := f36 n i j.o { d with job := none } (hp.set i { d with job := none }.cells) (hset _) hl hn
  rw [hD0] at e36 s1
  have e44 := fun hp => f44 (n + 2) j hp
  obtain ⟨m1, m2, m3, m4, m5, m6⟩ := hm
  have fl := find_le m1 ho
  rw [hj] at gj
  simp only [jobP] at gj
  have hdp : (DK d S a tick j 0).parts = d.parts := rfl
  rw [hdp] at e36
  generalize find d.parts j.o = F at *
  obtain ⟨⟨fo, f1, fc⟩, e⟩ := F
  simp only at m1; subst m1
  unfold okP at fl; simp only [decide_eq_true_eq] at fl
  simp only at m5 m6
  have hdl : (j.d.length : Int) = 16 * m := by rw [← m2]; unfold Jb.size; rw [if_pos hw]
  rw [evalCall_at _ _ _ hh22 rfl Try.func22 rfl (Nat.le_of_ble_eq_true rfl) rfl]
  generalize d.cells = C at *
  have w1 := wrap_id (x := d.from_ + 4) (by omega)
  have w2 : IntKind.i64.wrap (d.from_ + 4 - 1) = d.from_ + 3 := by rw [wrap_id (by omega)]; omega
  have c1 : ¬ tick < d.from_ + 3 := by omega
  have q1 : j.size.tdiv 16 = m := by rw [td _ (by omega)]; omega
  have w3 := wrap_id (x := (m : Int)) (by omega)
  obtain ⟨jc, hjc⟩ : ∃ jc, jc = j.cells := ⟨_, rfl⟩
  have hjc' : jc = [.int .i64 j.o, .int .i64 j.s, .int .i64 j.n, .bool true, .str j.d] := by rw [hjc, ← hw]; rfl
  rw [← hjc, hjc'] at hjx e44
  generalize j.size = z at *
  simp only [Pt.cells] at *
  generalize hC1 : (DK d S a tick j 0).cells = C1 at *
  simp [-getElem?_pos, List.getElem?_cons_zero, hi, gj, gf, w1, w2, c1, hjx, s1, e36, e44, q1, w3, hset, hlt, len]
  rw [iter_count (fun k => { fr := [(0, .ptr (.heap i) none 0), (1, .int .i64 tick), (6, .box [.int .i64 j.o, .int .i64 j.s, .int .i64 j.n, .bool true, .str j.d]), (7, .box [.int .i64 fo, .int .i64 f1, .int .i64 fc]), (9, .sl (.mu 1) 0 []), (48, .int .i64 m), (49, .int .i64 k)], hp := hp.set i (DK d S a tick j k).cells, base := hp.length, dirty := true })
    (.exit 1, { fr := [(0, .ptr (.heap i) none 0), (1, .int .i64 tick), (6, .box [.int .i64 j.o, .int .i64 j.s, .int .i64 j.n, .bool true, .str j.d]), (7, .box [.int .i64 fo, .int .i64 f1, .int .i64 fc]), (9, .sl (.mu 1) 0 []), (48, .int .i64 m), (49, .int .i64 m), (50, .bool false)], hp := hp.set i (DK d S a tick j m).cells, base := hp.length, dirty := true }) m]
  · generalize (DK d S a tick j m).cells = CC
    simp [bytesOf]
  · rw [← hC1]; rfl
  · omega
  · intro k hk
    have ak : a + k < 512 := by omega
    have sL := secK_len (D := j.d) hS (a := a) (k := k) (by omega)
    have hv : ((j.d.drop (16 * k)).take 16).length = 16 := by rw [List.length_take, List.length_drop]; omega
    have len1 : (DK d S a tick j k).cells.length = 8196 := (DK d S a tick j k).len (by simp only [DK, ob_len]; exact sL)
    have spl := (DK d S a tick j k).spl rfl sL (a + k) ((j.d.drop (16 * k)).take 16) (by omega)
    have sL2 : (wr (secK S a j.d k) (a + k) ((j.d.drop (16 * k)).take 16)).length = 8192 := by rw [wr_len (by omega)]; exact sL
    have sc2 := ({ DK d S a tick j k with sec := ofBytes (wr (secK S a j.d k) (a + k) ((j.d.drop (16 * k)).take 16)) } : Dv).sect rfl sL2 (a + k) ak
    rw [sect_wr sL ak hv] at sc2
    have len2 := ({ DK d S a tick j k with sec := ofBytes (wr (secK S a j.d k) (a + k) ((j.d.drop (16 * k)).take 16)) } : Dv).len (by rw [ob_len]; exact sL2)
    have gl := ({ DK d S a tick j k with sec := ofBytes (wr (secK S a j.d k) (a + k) ((j.d.drop (16 * k)).take 16)) } : Dv).gl (by rw [ob_len]; exact sL2)
    have sl := ({ DK d S a tick j k with sec := ofBytes (wr (secK S a j.d k) (a + k) ((j.d.drop (16 * k)).take 16)) } : Dv).sl (d.nlog + k) (logK d tick j k ++ stored tick j.o (j.s + k) ((j.d.drop (16 * k)).take 16)) (by rw [ob_len]; exact sL2)
    have hD : ({ DK d S a tick j k with sec := ofBytes (wr (secK S a j.d k) (a + k) ((j.d.drop (16 * k)).take 16)), nlog := d.nlog + k + 1, log := logK d tick j k ++ stored tick j.o (j.s + k) ((j.d.drop (16 * k)).take 16), a4 := 4, ok4 := .inl rfl } : Dv) = DK d S a tick j (k + 1) := rfl
    simp only at sl
    rw [hD] at sl
    have ll := logK_len (tick := tick) (j := j) hlog k
    have v1 : IntKind.i64.wrap (f1 + j.s) = f1 + j.s := wrap_id (by omega)
    have v2 : IntKind.i64.wrap (f1 + j.s + k) = ((a + k : Nat) : Int) := by rw [wrap_id (by omega)]; omega
    have v3 := wrap_id (x := (k : Int) + 1) (by omega)
    have v4 := wrap_id (x := j.s + k) (by omega)
    have v5 : IntKind.i64.wrap ((k : Int) * 16) = ((16 * k : Nat) : Int) := by rw [wrap_id (by omega)]; omega
    have ak2 : ((a + k : Nat) : Int) < 512 := by omega
    have ak3 : (0 : Int) ≤ ((a + k : Nat) : Int) := by omega
    have tn : ((a + k : Nat) : Int).toNat = a + k := Int.toNat_natCast _
    have dl1 : (0 : Int) ≤ ((16 * k : Nat) : Int) := by omega
    have dl2 : ((16 * k : Nat) : Int) ≤ (j.d.length : Int) := by omega
    have tn2 : ((16 * k : Nat) : Int).toNat = 16 * k := Int.toNat_natCast _
    have ul : (j.d.drop (16 * k)).length = j.d.length - 16 * k := by rw [List.length_drop]
    have ul2 : 16 ≤ j.d.length - 16 * k := by omega
    have mn : min (j.d.length - 16 * k) 16 = 16 := by omega
    have mn2 : min 16 (j.d.length - 16 * k) = 16 := by omega
    have tt : (j.d.drop (16 * k)).take (j.d.length - 16 * k) = j.d.drop (16 * k) := List.take_of_length_le (by omega)
    have mg := (DK d S a tick j k).ok4
    have m1 : (d.nlog + k + 1) * 40 ≤ 140737488355328 := by omega
    have a4 : (d.nlog + k) * 4 + 4 = (d.nlog + k + 1) * 4 := by omega
    have z : 1 + (a + k) * 16 + 16 ≤ 8196 := by omega
    have z2 : (ofBytes (j.d.drop (16 * k))).take 16 = ofBytes ((j.d.drop (16 * k)).take 16) := ob_take _ _
    generalize (DK d S a tick j k).cells = CA at *
    generalize (DK d S a tick j (k + 1)).cells = CC at *
    generalize hCB : ({ DK d S a tick j k with sec := ofBytes (wr (secK S a j.d k) (a + k) ((j.d.drop (16 * k)).take 16)) } : Dv).cells = CB at *
    simp only [show (DK d S a tick j k).nlog = d.nlog + k from rfl, show (DK d S a tick j k).log = logK d tick j k from rfl, show (DK d S a tick j k).w4 = d.w4 from rfl] at gl sl
    simp only [show (DK d S a tick j k).nlog = d.nlog + k from rfl] at mg
    generalize ((a + k : Nat) : Int) = b at *
    generalize a + k = bn at *
    generalize ((16 * k : Nat) : Int) = kk at *
    generalize 16 * k = kn at *
    simp only [stored] at sl
    generalize logK d tick j k = LL at *
    generalize (DK d S a tick j k).a4 = g at *
    generalize d.w4 = gw at *
    generalize d.nlog + k = nl at *
    generalize hu : j.d.drop kn = u at *
    have b1 := ob_bytes (u.take 16)
    have b2 := ob_shr (u.take 16)
    have b3 := ob_len (u.take 16)
    have b4 := ob_all u
    have b5 := ob_len u
    have b6 := ob_out (u.take 16)
    generalize u.take 16 = v at *
    generalize ofBytes v = vb at *
    cases gw <;> simp only [tg] at gl sl <;> simp [-getElem?_pos, -List.all_eq_true, List.getElem?_cons_zero, hk, hset, v1, v2, v3, v4, v5, ak2, ak3, tn, dl1, dl2, tn2, hu, ul, tt, z, z2, len1, len2, spl, sc2, gl, sl, ll, mg, m1, a4, b1, b2, b3, b4, b5, b6, hv, mn, mn2]

  · simp
  · simp
end Go.Proofs.Ytolhandckojljaa
end
