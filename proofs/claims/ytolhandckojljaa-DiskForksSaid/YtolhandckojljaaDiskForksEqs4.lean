/-
  What functions of this program compute, as equations about the evaluator. No condition but those stated.
-/
import Derived.Test.YtolhandckojljaaDiskForksEqs3
set_option linter.all false
section
namespace Go.Proofs.Ytolhandckojljaa
open Go Go.PS
theorem f22n (n : Nat) (tick : Int) (hp : Heap) : evalCall Try.prog hints (n + 1) 22 [.nilp, .int .i64 tick] hp = some (.tup [.str [], .int .i64 1], hp, false) := by
  rw [evalCall_at _ _ _ hh22 rfl Try.func22 rfl (Nat.le_of_ble_eq_true rfl) rfl]
  simp
theorem f22e (n i : Nat) (tick : Int) (d : Dv) (hp : Heap) (hi : hp[i]? = some d.cells) (hs : d.sec.length = 8192) (hj : d.job = none) : evalCall Try.prog hints (n + 1) 22 [.ptr (.heap i) none 0, .int .i64 tick] hp = some (.tup [.str [], .int .i64 9], hp, false) := by
  have gj := d.gj hs
  rw [hj] at gj
  simp only [jobP] at gj
  rw [evalCall_at _ _ _ hh22 rfl Try.func22 rfl (Nat.le_of_ble_eq_true rfl) rfl]
  generalize d.cells = C at *
  simp [-getElem?_pos, List.getElem?_cons_zero, hi, gj]
theorem f22t (n i jx : Nat) (tick : Int) (d : Dv) (hp : Heap) (hi : hp[i]? = some d.cells) (hs : d.sec.length = 8192) (hj : d.job = some jx) (ht : tick < d.from_ + 3) (hf : 0 ≤ d.from_ ∧ d.from_ ≤ 2147483647) : evalCall Try.prog hints (n + 1) 22 [.ptr (.heap i) none 0, .int .i64 tick] hp = some (.tup [.str [], .int .i64 13], hp, false) := by
  have gj := d.gj hs
  have gf := d.gf hs
  rw [hj] at gj
  simp only [jobP] at gj
  have w1 := wrap_id (x := d.from_ + 4) (by omega)
  have w2 : IntKind.i64.wrap (d.from_ + 4 - 1) = d.from_ + 3 := by rw [wrap_id (by omega)]; omega
  rw [evalCall_at _ _ _ hh22 rfl Try.func22 rfl (Nat.le_of_ble_eq_true rfl) rfl]
  generalize d.cells = C at *
  simp [-getElem?_pos, List.getElem?_cons_zero, hi, gj, gf, w1, w2, ht]
theorem f43e (n i : Nat) (tick : Int) (x : Rx) (hp : Heap) (hi : hp[i]? = some x.cells) (hb : x.busy = false) : evalCall Try.prog hints (n + 1) 43 [.ptr (.heap i) none 0, .int .i64 tick] hp = some (.tup [.str [], .int .i64 9], hp, false) := by
  rw [evalCall_at _ _ _ hh43 rfl Try.func43 rfl (Nat.le_of_ble_eq_true rfl) rfl]
  obtain ⟨l, bs, busy, job, fr, a1⟩ := x
  simp only at hb; subst hb
  simp only [Rx.cells] at *
  generalize l.flatMap Pt.cells = X at *
  generalize bs.map bcell = Y at *
  simp [-getElem?_pos, List.getElem?_cons_zero, hi]
theorem f43t (n i : Nat) (tick : Int) (x : Rx) (hp : Heap) (hi : hp[i]? = some x.cells) (hb : x.busy = true) (ht : tick < x.from_ + 3) (hf : 0 ≤ x.from_ ∧ x.from_ ≤ 2147483647) : evalCall Try.prog hints (n + 1) 43 [.ptr (.heap i) none 0, .int .i64 tick] hp = some (.tup [.str [], .int .i64 13], hp, false) := by
  rw [evalCall_at _ _ _ hh43 rfl Try.func43 rfl (Nat.le_of_ble_eq_true rfl) rfl]
  obtain ⟨l, bs, busy, job, fr, a1⟩ := x
  simp only at hb; subst hb
  simp only [Rx.cells] at *
  have w := wrap_id (x := fr + 3) (by omega)
  generalize l.flatMap Pt.cells = X at *
  generalize bs.map bcell = Y at *
  simp [-getElem?_pos, List.getElem?_cons_zero, hi, w, ht]
set_option maxHeartbeats 1000000 in
theorem f43r (n i k : Nat) (tick : Int) (x : Rx) (B : List UInt8) (hp : Heap) (hi : hp[i]? = some x.cells) (hb : x.busy = true) (ht : x.from_ + 3 ≤ tick) (hf : 0 ≤ x.from_ ∧ x.from_ ≤ 2147483647) (hl : x.parts.length ≤ 1000) (hn : 1001 < n)
    (hk : idx (fun p : Pt => decide (p.o = x.job.o)) x.parts = some k) (hB : x.bytes[k]? = some (ofBytes B)) (hw : x.job.w = false) (s m : Nat) (hs : x.job.s = s) (hm : x.job.n = 16 * m) (hle : 16 * s + 16 * m ≤ B.length) (hBl : B.length ≤ 1024) :
    evalCall Try.prog hints (n + 2) 43 [.ptr (.heap i) none 0, .int .i64 tick] hp = some (.tup [.str ((B.drop (16 * s)).take (16 * m)), .int .i64 0], hp.set i { x with busy := false }.cells, decide (i < hp.length)) := by
  have hlt : i < hp.length := (List.getElem?_eq_some_iff.1 hi).1
  have hset : ∀ c, (hp.set i c)[i]? = some c := fun c => List.getElem?_set_self hlt
  have e64 := f64 n i x.job.o { x with busy := false } (hp.set i { x with busy := false }.cells) (hset _) hl hn
  simp only at e64
  rw [hk] at e64
  simp only [idxI] at e64
  rw [evalCall_at _ _ _ hh43 rfl Try.func43 rfl (Nat.le_of_ble_eq_true rfl) rfl]
  obtain ⟨l, bs, busy, ⟨o, js, jn, w, dd⟩, fr, a1⟩ := x
  simp only at hb hs hm hw; subst hb hs hm hw
  obtain ⟨kb, hkb⟩ := List.getElem?_eq_some_iff.1 hB
  simp only at kb hkb ht hf
  have hY : (bs.map bcell)[k]? = some (.sl .sh B.length (ofBytes B)) := by
    rw [List.getElem?_map, hB]; simp [bcell, ob_len]
  have lY : (bs.map bcell).length = bs.length := by simp
  simp only [Rx.cells] at *
  have w1 := wrap_id (x := fr + 3) (by omega)
  have c1 : ¬ tick < fr + 3 := by omega
  have v1 : IntKind.i64.wrap (16 * (s : Int)) = ((16 * s : Nat) : Int) := by rw [wrap_id (by omega)]; omega
  have v2 : IntKind.i64.wrap (((16 * s : Nat) : Int) + 16 * (m : Int)) = ((16 * s + 16 * m : Nat) : Int) := by rw [wrap_id (by omega)]; omega
  have k1 : (k : Int) < bs.length := by omega
  have h1 : (0 : Int) ≤ ((16 * s : Nat) : Int) := by omega
  have h2 : (0 : Int) ≤ ((16 * s + 16 * m : Nat) : Int) := by omega
  have h3 : ((16 * s + 16 * m : Nat) : Int) ≤ B.length := by omega
  have h4 : ((16 * s : Nat) : Int) ≤ ((16 * s + 16 * m : Nat) : Int) := by omega
  have h4' : 16 * s ≤ 16 * s + 16 * m := by omega
  have t1 : ((16 * s : Nat) : Int).toNat = 16 * s := Int.toNat_natCast _
  have t2 : ((16 * s + 16 * m : Nat) : Int).toNat = 16 * s + 16 * m := Int.toNat_natCast _
  have h5 : 16 * s + 16 * m - 16 * s = 16 * m := by omega
  have h6 : ((ofBytes B).drop (16 * s)).take (16 * m) = ofBytes ((B.drop (16 * s)).take (16 * m)) := by rw [ob_drop, ob_take]
  have h7 : ((B.drop (16 * s)).take (16 * m)).length = 16 * m := by rw [List.length_take, List.length_drop]; omega
  have b1 := ob_bytes ((B.drop (16 * s)).take (16 * m))
  have b2 := ob_len ((B.drop (16 * s)).take (16 * m))
  have b3 := ob_len B
  generalize l.flatMap Pt.cells = X at *
  generalize bs.map bcell = Y at *
  generalize hu : (B.drop (16 * s)).take (16 * m) = u at *
  generalize ((16 * s + 16 * m : Nat) : Int) = zz at *
  generalize ((16 * s : Nat) : Int) = z at *
  generalize 16 * s = sn at *
  generalize 16 * m = mn at *
  have h8 : z ≤ (sn : Int) + mn := by omega
  simp [-getElem?_pos, List.getElem?_cons_zero, hi, w1, c1, e64, hset, hlt, v1, v2, hY, lY, kb, k1, h1, h2, h3, h4, h4', h5, h6, h7, t1, t2, b1, b2, b3, h8]
/-- Bytes of a part behind a write. -/
def put (B : List UInt8) (at_ : Nat) (t : List UInt8) : List UInt8 := B.take at_ ++ t ++ B.drop (at_ + t.length)
set_option maxHeartbeats 2000000 in
theorem f43w (n i k : Nat) (tick : Int) (x : Rx) (B : List UInt8) (hp : Heap) (hi : hp[i]? = some x.cells) (hb : x.busy = true) (ht : x.from_ + 3 ≤ tick) (hf : 0 ≤ x.from_ ∧ x.from_ ≤ 2147483647) (hl : x.parts.length ≤ 1000) (hn : 1001 < n)
    (hk : idx (fun p : Pt => decide (p.o = x.job.o)) x.parts = some k) (hB : x.bytes[k]? = some (ofBytes B)) (hw : x.job.w = true) (s : Nat) (hs : x.job.s = s) (hle : 16 * s + x.job.d.length ≤ B.length) (hBl : B.length ≤ 1024) :
    evalCall Try.prog hints (n + 2) 43 [.ptr (.heap i) none 0, .int .i64 tick] hp = some (.tup [.str [], .int .i64 0], hp.set i { x with busy := false, bytes := x.bytes.set k (ofBytes (put B (16 * s) x.job.d)) }.cells, decide (i < hp.length)) := by
  have hlt : i < hp.length := (List.getElem?_eq_some_iff.1 hi).1
  have hset : ∀ c, (hp.set i c)[i]? = some c := fun c => List.getElem?_set_self hlt
  have e64 := f64 n i x.job.o { x with busy := false } (hp.set i { x with busy := false }.cells) (hset _) hl hn
  simp only at e64
  rw [hk] at e64
  simp only [idxI] at e64
  rw [evalCall_at _ _ _ hh43 rfl Try.func43 rfl (Nat.le_of_ble_eq_true rfl) rfl]
  obtain ⟨l, bs, busy, ⟨o, js, jn, w, dd⟩, fr, a1⟩ := x
  simp only at hb hs hw; subst hb hs hw
  obtain ⟨kb, hkb⟩ := List.getElem?_eq_some_iff.1 hB
  simp only at kb hkb ht hf hle
  have hY : (bs.map bcell)[k]? = some (.sl .sh B.length (ofBytes B)) := by
    rw [List.getElem?_map, hB]; simp [bcell, ob_len]
  have lY : (bs.map bcell).length = bs.length := by simp
  have hlen : (put B (16 * s) dd).length = B.length := by unfold put; simp only [List.length_append, List.length_take, List.length_drop]; omega
  have sY : (bs.map bcell).set k (.sl .sh B.length (ofBytes (B.take (16 * s)) ++ (ofBytes dd ++ ofBytes (B.drop (16 * s + dd.length))))) = (bs.set k (ofBytes (put B (16 * s) dd))).map bcell := by
    rw [List.map_set]
    congr 1
    unfold bcell
    rw [ob_len, hlen]
    unfold put
    rw [ob_app, ob_app, List.append_assoc]
  simp only [Rx.cells, List.length_set] at *
  have w1 := wrap_id (x := fr + 3) (by omega)
  have c1 : ¬ tick < fr + 3 := by omega
  have v1 : IntKind.i64.wrap (16 * (s : Int)) = ((16 * s : Nat) : Int) := by rw [wrap_id (by omega)]; omega
  have v2 : IntKind.i64.wrap (((16 * s : Nat) : Int) + (dd.length : Int)) = ((16 * s + dd.length : Nat) : Int) := by rw [wrap_id (by omega)]; omega
  have k1 : (k : Int) < bs.length := by omega
  have h1 : (0 : Int) ≤ ((16 * s : Nat) : Int) := by omega
  have h2 : (0 : Int) ≤ ((16 * s + dd.length : Nat) : Int) := by omega
  have h3 : ((16 * s + dd.length : Nat) : Int) ≤ B.length := by omega
  have h4 : ((16 * s : Nat) : Int) ≤ B.length := by omega
  have t1 : ((16 * s : Nat) : Int).toNat = 16 * s := Int.toNat_natCast _
  have t2 : ((16 * s + dd.length : Nat) : Int).toNat = 16 * s + dd.length := Int.toNat_natCast _
  have h6 : (ofBytes B).take (16 * s) = ofBytes (B.take (16 * s)) := ob_take _ _
  have h7 : (ofBytes B).drop (16 * s + dd.length) = ofBytes (B.drop (16 * s + dd.length)) := ob_drop _ _
  have h7' : (ofBytes (B.drop (16 * s + dd.length))).take (B.length - (16 * s + dd.length)) = ofBytes (B.drop (16 * s + dd.length)) := List.take_of_length_le (by rw [ob_len, List.length_drop]; omega)
  have l1 : (ofBytes (B.take (16 * s))).length = 16 * s := by rw [ob_len, List.length_take]; omega
  have l2 : (ofBytes dd).length = dd.length := ob_len _
  have l3 : (ofBytes (B.drop (16 * s + dd.length))).length = B.length - (16 * s + dd.length) := by rw [ob_len, List.length_drop]
  have a1 := ob_all (B.take (16 * s))
  have a2 := ob_all dd
  have a3 := ob_all (B.drop (16 * s + dd.length))
  have o1 := ob_out (B.take (16 * s))
  have o2 := ob_out dd
  have o3 := ob_out (B.drop (16 * s + dd.length))
  have b3 := ob_len B
  have kb1 : k + 1 ≤ bs.length := kb
  have q1 : 16 * s ≤ 140737488355328 := by omega
  have q2 : 16 * s + dd.length ≤ 140737488355328 := by omega
  have q3 : 16 * s + dd.length + (B.length - (16 * s + dd.length)) = B.length := by omega
  have q4 : B.length ≤ 140737488355328 := by omega
  generalize l.flatMap Pt.cells = X at *
  generalize bs.map bcell = Y at *
  generalize ((16 * s + dd.length : Nat) : Int) = zz at *
  generalize ((16 * s : Nat) : Int) = z at *
  generalize B.take (16 * s) = u1 at *
  generalize hu3 : B.drop (16 * s + dd.length) = u3 at *
  generalize 16 * s = sn at *
  generalize ofBytes u1 = p1 at *
  generalize ofBytes u3 = p3 at *
  simp [-getElem?_pos, -List.all_eq_true, List.getElem?_cons_zero, hi, w1, c1, e64, hset, hlt, v1, v2, hY, lY, kb, k1, h1, h2, h3, h4, h6, h7, h7', t1, t2, l1, l2, l3, a1, a2, a3, o1, o2, o3, b3, q1, q2, q3, q4, sY, kb1]
end Go.Proofs.Ytolhandckojljaa
end

section
namespace Go.Proofs.Ytolhandckojljaa
open Go Go.PS
def zb (p : Pt) : List UInt8 := List.replicate (16 * p.c).toNat 0
def X0 (l : List Pt) : List Pt → Rx := fun m => ⟨l, m.map fun p => ofBytes (zb p), false, Jb.zero, 0, mt 1 m.length⟩
set_option maxHeartbeats 1000000 in
theorem f18 (n : Nat) (l : List Pt) (hp : Heap) (hl : l.length ≤ 100) (hn : 1001 < n) (ho : ∀ q ∈ l, okP q = true) :
    evalCall Try.prog hints (n + 1) 18 [.sl .sh l.length (l.flatMap Pt.cells)] hp = some (.ptr (.heap hp.length) none 0, hp ++ [(X0 l l).cells], false) := by
  rw [evalCall_at _ _ _ hh18 rfl Try.func18 rfl (Nat.le_of_ble_eq_true rfl) rfl]
  have lX := flat_len Pt.len l
  have gg := fun k h => flat_get Pt.len l k h 2 (by omega)
  have hx0 : ∀ m, (X0 l m).cells = [.sl .sh l.length (l.flatMap Pt.cells), .sl (.mu (mt 1 m.length)) m.length ((m.map fun p => ofBytes (zb p)).map bcell), .bool false, .int .i64 0, .int .i64 0, .int .i64 0, .bool false, .str [], .int .i64 0] := fun m => by
    simp only [Rx.cells, X0, List.length_map]; rfl
  simp only [hx0]
  generalize l.flatMap Pt.cells = X at *
  clear hx0
  obtain ⟨QF, hQF⟩ : ∃ Q, Q = (l.map fun p => ofBytes (zb p)).map bcell := ⟨_, rfl⟩
  rw [← hQF]
  simp
  rw [iter_count (fun k => { fr := [(0, .sl .sh l.length X), (3, .ptr (.heap hp.length) none 0), (4, .int .i64 k)], hp := hp ++ [[.sl .sh l.length X, .sl (.mu (mt 1 (l.take k).length)) (l.take k).length (((l.take k).map fun p => ofBytes (zb p)).map bcell), .bool false, .int .i64 0, .int .i64 0, .int .i64 0, .bool false, .str [], .int .i64 0]], base := hp.length, dirty := false })
    (.exit 0, { fr := [(0, .sl .sh l.length X), (3, .ptr (.heap hp.length) none 0), (4, .int .i64 l.length), (11, .bool false)], hp := hp ++ [[.sl .sh l.length X, .sl (.mu (mt 1 l.length)) l.length ((l.map fun p => ofBytes (zb p)).map bcell), .bool false, .int .i64 0, .int .i64 0, .int .i64 0, .bool false, .str [], .int .i64 0]], base := hp.length, dirty := false }) l.length]
  · rw [← hQF]
    simp
  · rfl
  · omega
  · intro k hk
    have hT : (l.take k).length = k := by rw [List.length_take]; omega
    have hT1 : (l.take (k + 1)).length = k + 1 := by rw [List.length_take]; omega
    have sn : ((l.take (k + 1)).map fun p => ofBytes (zb p)).map bcell = ((l.take k).map fun p => ofBytes (zb p)).map bcell ++ [bcell (ofBytes (zb l[k]))] := by rw [List.take_succ_eq_append_getElem hk, List.map_append, List.map_append]; simp
    have lK : (((l.take k).map fun p => ofBytes (zb p)).map bcell).length = k := by rw [List.length_map, List.length_map]; exact hT
    have g := gg k hk
    have o := ho l[k] (List.getElem_mem hk)
    have hlast : ∀ x : List PV, (hp ++ [x])[hp.length]? = some x := fun x => by simp
    rw [hT, hT1, sn]
    have og := mt_ok 1 k
    have og1 : mt 1 (k + 1) = 1 := rfl
    rw [og1]
    generalize ((l.take k).map fun p => ofBytes (zb p)).map bcell = Q at *
    unfold zb
    generalize l[k] = p at *
    obtain ⟨po, pf, pc⟩ := p
    unfold okP at o; simp only [decide_eq_true_eq] at o
    simp only [Pt.cells, List.getElem?_cons_zero, List.getElem?_cons_succ] at g ⊢
    obtain ⟨c, rfl⟩ : ∃ c : Nat, pc = c := ⟨pc.toNat, by omega⟩
    have v1 : IntKind.i64.wrap (16 * (c : Int)) = ((16 * c : Nat) : Int) := by rw [wrap_id (by omega)]; omega
    have v2 := wrap_id (x := (k : Int) + 1) (by omega)
    have tn : (16 * (c : Int)).toNat = 16 * c := by omega
    have tn2 : ((16 * c : Nat) : Int).toNat = 16 * c := Int.toNat_natCast _
    have h0 : (0 : Int) ≤ ((16 * c : Nat) : Int) := by omega
    have h1 : ((16 * c : Nat) : Int) ≤ 140737488355328 := by omega
    have bz : bcell (ofBytes (List.replicate (16 * c) 0)) = .sl .sh (16 * c) (List.replicate (16 * c) (.int .u8 0)) := by simp [bcell, ofBytes]
    have m1 : (k + 1) * 24 ≤ 140737488355328 := by omega
    rw [tn, bz]
    have hr : (List.replicate (16 * c) [PV.int .u8 0]).flatten = List.replicate (16 * c) (.int .u8 0) := by simp
    generalize List.replicate (16 * c) (PV.int .u8 0) = Z at *
    generalize ((16 * c : Nat) : Int) = zz at *
    generalize 16 * c = cn at *
    generalize mt 1 k = gt at *
    simp [-getElem?_pos, List.getElem?_cons_zero, hk, lX, g, v1, v2, h0, h1, tn2, hr, hlast, lK, og, m1]
  · rw [List.take_length, ← hQF]
    simp
  · simp
end Go.Proofs.Ytolhandckojljaa
end

section
namespace Go.Proofs.Ytolhandckojljaa
open Go Go.PS
def l0 : List Pt := [⟨2, 4, 3⟩]
def jd : List UInt8 := [48, 49, 50, 51, 52, 53, 54, 55, 56, 57, 97, 98, 99, 100, 101, 102]
def j0 : Jb := ⟨2, 1, 0, true, jd⟩
def S0 : List UInt8 := List.replicate 8192 0
theorem zsec_S0 : zsec = ofBytes S0 := by unfold zsec S0 ofBytes; rw [List.map_replicate]; rfl
theorem S0_len : S0.length = 8192 := List.length_replicate
theorem may0 : May l0 j0 1 5 := ⟨by decide, by decide, by omega, by decide, by decide, by decide⟩
set_option maxHeartbeats 1000000 in
theorem live17 (n : Nat) (hp : Heap) (hn : 2000 < n) : ∃ H, evalCall Try.prog hints (n + 7) 17 [] hp = some (.bool true, H, true) ∧ ∀ j, j < hp.length → H[j]? = hp[j]? := by
  obtain ⟨H1, r, e15, h1, -⟩ := f15 n l0 hp (by decide) (by omega)
  obtain ⟨rfl, h2, h3, h4⟩ := h1 (by decide)
  have ho : ∀ q ∈ l0, okP q = true := by decide
  have hs : (D0 l0).sec.length = 8192 := by show zsec.length = 8192; rw [zsec_S0, ob_len]; exact S0_len
  have e21 := f21 (n + 1) hp.length 10 j0 (D0 l0) H1 h2 hs (by decide) (by omega) ho
  have hst : startS (D0 l0).parts (D0 l0).job.isSome 10 j0 = 0 := by decide
  rw [hst] at e21
  simp only [if_true, decide_true] at e21
  obtain ⟨d1, hd1⟩ : ∃ d1 : Dv, d1 = { D0 l0 with job := some H1.length, from_ := 10 } := ⟨_, rfl⟩
  rw [← hd1] at e21
  obtain ⟨H2, hH2⟩ : ∃ H2, H2 = (H1 ++ [j0.cells]).set hp.length d1.cells := ⟨_, rfl⟩
  rw [← hH2] at e21
  have k2 : H2[hp.length]? = some d1.cells := by rw [hH2]; exact List.getElem?_set_self (by simp; omega)
  have k2j : H2[H1.length]? = some j0.cells := by rw [hH2, List.getElem?_set_ne (by omega)]; simp
  have hs1 : d1.sec.length = 8192 := by rw [hd1]; exact hs
  have hl2 : hp.length < H2.length := by rw [hH2]; simp; omega
  have e22a := f22t (n + 5) hp.length H1.length 12 d1 H2 k2 hs1 (by rw [hd1]) (by rw [hd1]; show (12 : Int) < 10 + 3; omega) (by rw [hd1]; show (0 : Int) ≤ 10 ∧ (10 : Int) ≤ 2147483647; omega)
  have e22b := f22w (n + 2) hp.length H1.length 13 j0 d1 S0 H2 k2 (by rw [hd1]; exact zsec_S0) S0_len (by rw [hd1]; show l0.length ≤ 1000; decide) (by omega) (by rw [hd1]; exact ho) (by rw [hd1]) k2j 1 5 (by rw [hd1]; exact may0) rfl (by rw [hd1]; show (10 : Int) + 3 ≤ 13; omega) (by rw [hd1]; show (0 : Int) ≤ 10 ∧ (10 : Int) ≤ 2147483647; omega) (by rw [hd1]; rfl) (by rw [hd1]; show (0 : Nat) ≤ 1000; omega)
  obtain ⟨d2, hd2⟩ : ∃ d2 : Dv, d2 = DK d1 S0 5 13 j0 1 := ⟨_, rfl⟩
  rw [← hd2] at e22b
  have k3 : (H2.set hp.length d2.cells)[hp.length]? = some d2.cells := List.getElem?_set_self hl2
  have hS2 : (secK S0 5 jd 1).length = 8192 := secK_len S0_len (by omega)
  have e26 := f26 (n + 2) hp.length 2 1 d2 (secK S0 5 jd 1) (H2.set hp.length d2.cells) k3 (by rw [hd2]; rfl) hS2 (by rw [hd2, hd1]; show l0.length ≤ 1000; decide) (by omega) (by rw [hd2, hd1]; exact ho)
  have hsec : sectS d2.parts (secK S0 5 jd 1) 2 1 = (jd, 0) := by
    rw [hd2, hd1]
    have : sect (secK S0 5 jd 1) 5 = jd := sect_wr (a := 5) (t := jd) S0_len (by omega) rfl
    rw [← this]; rfl
  rw [hsec] at e26
  have e24 := f24 (n + 5) hp.length d2 (H2.set hp.length d2.cells) k3 (by rw [hd2]; simp only [DK, ob_len]; exact hS2)
  have hj2 : d2.job.isSome = false := by rw [hd2]; rfl
  rw [hj2] at e24
  refine ⟨H2.set hp.length d2.cells, ?_, fun j hj => ?_⟩
  rotate_left
  · rw [List.getElem?_set_ne (by omega), hH2, List.getElem?_set_ne (by omega), List.getElem?_append_left (by omega)]
    exact h4 j hj
  rw [evalCall_at _ _ _ hh17 rfl Try.func17 rfl (Nat.le_of_ble_eq_true rfl) rfl]
  clear hH2 hd2 k2 k3 h2
  generalize d2.cells = C2 at *
  simp only [l0, List.flatMap_cons, List.flatMap_nil, List.append_nil, Pt.cells, List.length_cons, List.length_nil] at e15
  simp only [j0, Jb.cells, jd] at e21 e26
  simp [e15, e21, e22a, e22b, e26, e24, hl2]
end Go.Proofs.Ytolhandckojljaa
end

section
namespace Go.Proofs.Ytolhandckojljaa
open Go Go.PS
/-- What the device and the document's disk have both. -/
structure Both (l : List Pt) (hp : Heap) (i k : Nat) (d : Dv) (x : Rx) (S : List UInt8) (BS : List (List UInt8)) (b : Nat) : Prop where
  hd : hp[i]? = some d.cells
  hx : hp[k]? = some x.cells
  ik : i ≠ k
  dp : d.parts = l
  xp : x.parts = l
  ds : d.sec = ofBytes S
  sl : S.length = 8192
  xb : x.bytes = BS.map ofBytes
  bl : BS.length = l.length
  bs : ∀ (q : Nat) (p : Pt), l[q]? = some p → BS[q]? = some ((S.drop (16 * p.f.toNat)).take (16 * p.c.toNat))
  jb : d.job.isSome = x.busy
  jj : ∀ jx, d.job = some jx → jx ≠ i ∧ jx ≠ k ∧ hp[jx]? = some x.job.cells ∧ askS l x.job = 0
  fr : d.from_ = x.from_
  f0 : 0 ≤ d.from_ ∧ d.from_ ≤ 2147483647
  lg : d.log.length = d.nlog * 4
  nl : d.nlog ≤ b
/-- Parts that may be. -/
structure Good (l : List Pt) : Prop where
  ok : ∀ q ∈ l, okP q = true
  len : l.length ≤ 8
  apart : l.Pairwise fun p q => p.o ≠ q.o ∧ meetP q p = false
structure Deed where
  do_ : Int
  tick : Int
  job : Jb
def Deed.cells (y : Deed) : List PV := [.int .i64 y.do_, .int .i64 y.tick, .int .i64 y.job.o, .int .i64 y.job.s, .int .i64 y.job.n, .bool y.job.w, .str y.job.d]
theorem Deed.len (y : Deed) : y.cells.length = 7 := rfl
set_option maxHeartbeats 2000000 in
theorem f19s (n i k : Nat) (l : List Pt) (y : Deed) (hp : Heap) (d : Dv) (x : Rx) (S : List UInt8) (BS : List (List UInt8)) (b : Nat) (hb : Both l hp i k d x S BS b) (g : Good l) (hn : 2000 < n) (h0 : y.do_ = 0) :
    ∃ hp' dd, evalCall Try.prog hints (n + 6) 19 [.ptr (.heap i) none 0, .ptr (.heap k) none 0, .agg y.cells] hp = some (.bool true, hp', dd) ∧ (dd = true → ∃ d' x' S' BS', Both l hp' i k d' x' S' BS' (b + 2)) := by
  obtain ⟨b1, b2, b3, b4, b5, b6, b7, b8, b9, b10, b11, b12, b13, b14, b15, b16⟩ := hb
  have hi : i < hp.length := (List.getElem?_eq_some_iff.1 b1).1
  have hk : k < hp.length := (List.getElem?_eq_some_iff.1 b2).1
  have hs : d.sec.length = 8192 := by rw [b6, ob_len]; exact b7
  have gl : l.length ≤ 1000 := Nat.le_trans g.len (by omega)
  have e27 := f27 (n + 1) i y.job d hp b1 (by rw [b4]; exact gl) (by omega) (by rw [b4]; exact g.ok)
  have e41 := fun hp => f41 (n + 4) y.job hp
  have e40 := f40 (n + 3) k y.job x hp b2 (by rw [b5]; exact gl) (by omega) (by rw [b5]; exact g.ok)
  have e21 := f21 n i y.tick y.job d hp b1 hs (by rw [b4]; exact gl) (by omega) (by rw [b4]; exact g.ok)
  rw [b4] at e27
  rw [b5] at e40
  have hst1 : startS d.parts d.job.isSome y.tick y.job = startS l x.busy y.tick y.job := by rw [b4, b11]
  have hst2 : startS x.parts x.busy y.tick y.job = startS l x.busy y.tick y.job := by rw [b5]
  rw [hst1] at e21
  by_cases hE : startS l x.busy y.tick y.job = 0
  · rw [hE] at e21
    simp only [if_true, decide_true] at e21
    have hbusy : x.busy = false := by
      unfold startS at hE
      split at hE
      · cases hE
      split at hE
      · cases hE
      · rename_i h; simpa using h
    have hask : askS l y.job = 0 := by
      unfold startS at hE
      split at hE
      · cases hE
      split at hE
      · cases hE
      · exact hE
    have htick : 0 ≤ y.tick ∧ y.tick ≤ 2147483647 := by
      unfold startS at hE
      split at hE
      · cases hE
      · omega
    obtain ⟨d1, hd1⟩ : ∃ d1 : Dv, d1 = { d with job := some hp.length, from_ := y.tick } := ⟨_, rfl⟩
    rw [← hd1] at e21
    have k1 : ((hp ++ [y.job.cells]).set i d1.cells)[k]? = some x.cells := by rw [List.getElem?_set_ne b3, List.getElem?_append_left hk]; exact b2
    have e42 := f42 (n + 2) k y.tick y.job x _ k1 (by rw [b5]; exact gl) (by omega) (by rw [b5]; exact g.ok)
    rw [hst2, hE] at e42
    simp only [if_true, decide_true] at e42
    obtain ⟨x1, hx1⟩ : ∃ x1 : Rx, x1 = { x with busy := true, job := y.job, from_ := y.tick } := ⟨_, rfl⟩
    rw [← hx1] at e42
    obtain ⟨H, hH⟩ : ∃ H, H = ((hp ++ [y.job.cells]).set i d1.cells).set k x1.cells := ⟨_, rfl⟩
    rw [← hH] at e42
    have k2 : H[i]? = some d1.cells := by rw [hH, List.getElem?_set_ne (Ne.symm b3)]; exact List.getElem?_set_self (by simp; omega)
    have k3 : H[k]? = some x1.cells := by rw [hH]; exact List.getElem?_set_self (by simp; omega)
    have k4 : H[hp.length]? = some y.job.cells := by rw [hH, List.getElem?_set_ne (by omega), List.getElem?_set_ne (by omega)]; simp
    have e24 := f24 (n + 4) i d1 H k2 (by rw [hd1]; exact hs)
    have hj1 : d1.job.isSome = true := by rw [hd1]; rfl
    rw [hj1] at e24
    refine ⟨H, true, ?_, fun _ => ⟨d1, x1, S, BS, ?_⟩⟩
    · have hxb : x1.cells[2]? = some (.bool true) := by rw [hx1]; rfl
      rw [evalCall_at _ _ _ hh19 rfl Try.func19 rfl (Nat.le_of_ble_eq_true rfl) rfl]
      rw [hask] at e27 e40
      have e42' := e42
      clear e42
      generalize x1.cells = C1 at *
      generalize hH2 : (hp ++ [y.job.cells]).set i d1.cells = H0 at *
      clear hH hH2 k1 k2 k4 hd1 hx1
      obtain ⟨do_, tick, ⟨o, s, nn, w, dd⟩⟩ := y
      simp only [Jb.cells, Deed.cells] at *
      subst h0
      simp [-getElem?_pos, List.getElem?_cons_zero, e27, e41, e40, e21, e42', e24, k3, hxb]
    · refine ⟨k2, k3, b3, by rw [hd1]; exact b4, by rw [hx1]; exact b5, by rw [hd1]; exact b6, b7, by rw [hx1]; exact b8, b9, b10, by rw [hd1, hx1]; rfl, fun jx hj => ?_, by rw [hd1, hx1], by rw [hd1]; exact htick, by rw [hd1]; exact b15, by rw [hd1]; simp only; omega⟩
      rw [hd1] at hj
      cases hj
      rw [hx1]
      exact ⟨by omega, by omega, k4, hask⟩
  · rw [if_neg hE, decide_eq_false hE] at e21
    have e42 := f42 (n + 2) k y.tick y.job x hp b2 (by rw [b5]; exact gl) (by omega) (by rw [b5]; exact g.ok)
    rw [hst2, if_neg hE, decide_eq_false hE] at e42
    have e24 := f24 (n + 4) i d hp b1 hs
    rw [b11] at e24
    have hxb : x.cells[2]? = some (.bool x.busy) := rfl
    refine ⟨hp, false, ?_, fun h => by cases h⟩
    rw [evalCall_at _ _ _ hh19 rfl Try.func19 rfl (Nat.le_of_ble_eq_true rfl) rfl]
    clear b12 hst1 hst2 hE
    generalize askS l y.job = a at *
    generalize startS l x.busy y.tick y.job = E at *
    generalize x.cells = C1 at *
    generalize x.busy = bz at *
    obtain ⟨do_, tick, ⟨o, s, nn, w, dd⟩⟩ := y
    simp only [Jb.cells, Deed.cells] at *
    subst h0
    simp [-getElem?_pos, List.getElem?_cons_zero, e27, e41, e40, e21, e42, e24, b2, hxb]
end Go.Proofs.Ytolhandckojljaa
end

section
namespace Go.Proofs.Ytolhandckojljaa
open Go Go.PS
theorem put_get {S t : List UInt8} {p : Nat} (h : p + t.length ≤ S.length) (i : Nat) : (put S p t)[i]? = if i < p then S[i]? else if i < p + t.length then t[i - p]? else S[i]? := by
  unfold put
  rw [List.append_assoc]
  split
  · rename_i hi
    rw [List.getElem?_append_left (by rw [List.length_take]; omega), List.getElem?_take_of_lt hi]
  · rename_i hi
    rw [List.getElem?_append_right (by rw [List.length_take]; omega), List.length_take, Nat.min_eq_left (by omega)]
    split
    · rename_i h2
      rw [List.getElem?_append_left (by omega)]
    · rename_i h2
      rw [List.getElem?_append_right (by omega), List.getElem?_drop]
      congr 1; omega
theorem put_len {S t : List UInt8} {p : Nat} (h : p + t.length ≤ S.length) : (put S p t).length = S.length := by
  unfold put; simp only [List.length_append, List.length_take, List.length_drop]; omega
theorem dt_get (S : List UInt8) (F C i : Nat) : ((S.drop F).take C)[i]? = if i < C then S[F + i]? else none := by
  rw [List.getElem?_take]
  split
  · rw [List.getElem?_drop]
  · rfl
theorem put_in {S t : List UInt8} {F C s : Nat} (h1 : s + t.length ≤ C) (h2 : F + C ≤ S.length) : ((put S (F + s) t).drop F).take C = put ((S.drop F).take C) s t := by
  apply List.ext_getElem?
  intro i
  rw [dt_get, put_get (by omega), put_get (by rw [List.length_take, List.length_drop]; omega), dt_get]
  by_cases c1 : i < C
  · rw [if_pos c1, if_pos c1]
    by_cases c2 : i < s
    · rw [if_pos c2, if_pos (by omega)]
    · rw [if_neg c2, if_neg (by omega)]
      by_cases c3 : i < s + t.length
      · rw [if_pos c3, if_pos (by omega)]
        congr 1; omega
      · rw [if_neg c3, if_neg (by omega)]
  · rw [if_neg c1, if_neg c1, if_neg (by omega), if_neg (by omega)]
theorem put_out {S t : List UInt8} {F C p : Nat} (h : p + t.length ≤ S.length) (h1 : F + C ≤ p ∨ p + t.length ≤ F) : ((put S p t).drop F).take C = (S.drop F).take C := by
  apply List.ext_getElem?
  intro i
  rw [dt_get, dt_get, put_get h]
  by_cases c1 : i < C
  · rw [if_pos c1, if_pos c1]
    by_cases c2 : F + i < p
    · rw [if_pos c2]
    · rw [if_neg c2, if_neg (by omega)]
  · rw [if_neg c1, if_neg c1]
theorem secK_eq {S D : List UInt8} {a : Nat} (hS : S.length = 8192) : ∀ (k : Nat), 16 * k ≤ D.length → a + k ≤ 512 → secK S a D k = put S (16 * a) (D.take (16 * k))
  | 0, _, _ => by unfold secK put; simp
  | k + 1, h1, h2 => by
    have ih := secK_eq (D := D) (a := a) hS k (by omega) (by omega)
    have l1 : (D.take (16 * k)).length = 16 * k := by rw [List.length_take]; omega
    have l2 : ((D.drop (16 * k)).take 16).length = 16 := by rw [List.length_take, List.length_drop]; omega
    have l3 : (D.take (16 * (k + 1))).length = 16 * (k + 1) := by rw [List.length_take]; omega
    have hw : ∀ S' : List UInt8, wr S' (a + k) ((D.drop (16 * k)).take 16) = put S' (16 * (a + k)) ((D.drop (16 * k)).take 16) := fun S' => by
      unfold wr put; rw [Nat.mul_comm (a + k) 16]
    rw [secK, ih, hw]
    apply List.ext_getElem?
    intro i
    have e2 : 16 * a + (D.take (16 * k)).length ≤ S.length := by omega
    have e1 : 16 * (a + k) + ((D.drop (16 * k)).take 16).length ≤ (put S (16 * a) (D.take (16 * k))).length := by rw [put_len e2]; omega
    have e3 : 16 * a + (D.take (16 * (k + 1))).length ≤ S.length := by omega
    rw [put_get e1, put_get e2, put_get e3, l1, l2, l3]
    by_cases c1 : i < 16 * a
    · rw [if_pos c1, if_pos c1, if_pos (by omega)]
    · rw [if_neg c1, if_neg c1]
      by_cases c2 : i < 16 * a + 16 * k
      · rw [if_pos c2, if_pos (by omega), if_pos (by omega), List.getElem?_take_of_lt (by omega), List.getElem?_take_of_lt (by omega)]
      · rw [if_neg c2, if_neg (by omega)]
        by_cases c3 : i < 16 * a + 16 * (k + 1)
        · rw [if_pos (by omega), if_pos c3, List.getElem?_take_of_lt (by omega), List.getElem?_drop, List.getElem?_take_of_lt (by omega)]
          congr 1; omega
        · rw [if_neg (by omega), if_neg c3]
theorem outK_eq {S : List UInt8} {a : Nat} (hS : S.length = 8192) : ∀ (k : Nat), a + k ≤ 512 → outK S a k = (S.drop (16 * a)).take (16 * k)
  | 0, _ => by simp [outK]
  | k + 1, h => by
    have ih := outK_eq (a := a) hS k (by omega)
    rw [outK, ih]
    unfold sect
    apply List.ext_getElem?
    intro i
    rw [dt_get]
    have l : ((S.drop (16 * a)).take (16 * k)).length = 16 * k := by rw [List.length_take, List.length_drop]; omega
    by_cases c1 : i < 16 * k
    · rw [List.getElem?_append_left (by omega), dt_get, if_pos c1, if_pos (by omega)]
    · rw [List.getElem?_append_right (by omega), l, dt_get]
      by_cases c2 : i < 16 * (k + 1)
      · rw [if_pos (by omega), if_pos c2]
        congr 1; omega
      · rw [if_neg (by omega), if_neg c2]
theorem dtdt {S : List UInt8} {F C s m : Nat} (h : s + m ≤ C) : (((S.drop F).take C).drop s).take m = (S.drop (F + s)).take m := by
  apply List.ext_getElem?
  intro i
  rw [dt_get, dt_get, dt_get]
  by_cases c : i < m
  · rw [if_pos c, if_pos c, if_pos (by omega)]
    congr 1; omega
  · rw [if_neg c, if_neg c]
theorem find_idx {l : List Pt} {o : Int} (h : (find l o).2 = 0) : ∃ q, idx (fun p : Pt => decide (p.o = o)) l = some q ∧ l[q]? = some (find l o).1 := by
  unfold find at h ⊢
  cases hx : idx (fun p : Pt => decide (p.o = o)) l with
  | none => rw [hx] at h; cases h
  | some k =>
    obtain ⟨h1, h2⟩ := idx_lt hx
    refine ⟨k, rfl, ?_⟩
    simp only
    rw [List.getD_eq_getElem?_getD, List.getElem?_eq_getElem h1]; rfl
/-- Parts that are apart. -/
theorem apart_of {l : List Pt} (g : Good l) {i j : Nat} {p q : Pt} (hi : l[i]? = some p) (hj : l[j]? = some q) (hij : i ≠ j) (hp : 0 < p.c) (hq : 0 < q.c) : p.f + p.c ≤ q.f ∨ q.f + q.c ≤ p.f := by
  obtain ⟨i1, i2⟩ := List.getElem?_eq_some_iff.1 hi
  obtain ⟨j1, j2⟩ := List.getElem?_eq_some_iff.1 hj
  have op := g.ok p (List.mem_of_getElem? hi)
  have oq := g.ok q (List.mem_of_getElem? hj)
  unfold okP at op oq; simp only [decide_eq_true_eq] at op oq
  have key : meetP q p = false ∨ meetP p q = false := by
    rcases Nat.lt_or_gt_of_ne hij with h | h
    · have := List.pairwise_iff_getElem.1 g.apart i j i1 j1 h
      rw [i2, j2] at this; exact .inl this.2
    · have := List.pairwise_iff_getElem.1 g.apart j i j1 i1 h
      rw [i2, j2] at this; exact .inr this.2
  have key : meets p.f (p.f + p.c) q.f (q.f + q.c) = false := by
    rcases key with h | h
    · unfold meetP at h; rw [meets_comm]; exact h
    · exact h
  rw [meets_max] at key
  simp only [Bool.and_eq_false_iff, decide_eq_false_iff_not] at key
  omega
end Go.Proofs.Ytolhandckojljaa
end
