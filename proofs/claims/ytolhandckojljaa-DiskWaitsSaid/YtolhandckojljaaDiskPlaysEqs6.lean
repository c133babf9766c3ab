/-
  What functions of this program compute, as equations about the evaluator. No condition but those stated.
-/
import Derived.Test.YtolhandckojljaaDiskPlaysEqs5
set_option linter.all false
section
namespace Go.Proofs.Ytolhandckojljaa
open Go Go.PS
theorem f45 (n k : Nat) (cs : List PV) (hp : Heap) (hk : k ≤ 4194304) (hc : cs.length = k * 4) (ha : cs.all storable = true) (ho : cs.map outCell = cs) : evalCall Try.prog hints (n + 1) 45 [.sl .sh k cs] hp = some (.sl (.mu 4) k cs, hp, false) := by
  rw [evalCall, hh45]
  show primCall (1, 4) [.sl .sh k cs] hp = _
  simp only [primCall, ho]
  rw [if_pos ⟨hk, hc, ha⟩]
theorem f23n (n : Nat) (hp : Heap) : evalCall Try.prog hints (n + 1) 23 [.nilp] hp = some (.sl (.mu 4) 0 [], hp, false) := by
  rw [evalCall_at _ _ _ hh23 rfl Try.func23 rfl (Nat.le_of_ble_eq_true rfl) rfl]
  simp
theorem f23 (n i : Nat) (d : Dv) (hp : Heap) (hi : hp[i]? = some d.cells) (hs : d.sec.length = 8192) (hk : d.nlog ≤ 4194304) (hc : d.log.length = d.nlog * 4) (ha : d.log.all storable = true) (ho : d.log.map outCell = d.log) (hpl : d.log.all plain1 = true) :
    evalCall Try.prog hints (n + 2) 23 [.ptr (.heap i) none 0] hp = some (.sl (.mu 4) d.nlog d.log, hp, false) := by
  have e := fun hp => f45 n d.nlog d.log hp hk hc ha ho
  have gl := d.gl hs
  have len := d.len hs
  rw [evalCall_at _ _ _ hh23 rfl Try.func23 rfl (Nat.le_of_ble_eq_true rfl) rfl]
  generalize d.cells = C at *
  generalize mt 4 d.nlog = g at *
  generalize d.log = L at *
  simp [-getElem?_pos, -List.all_eq_true, List.getElem?_cons_zero, hi, gl, e, hpl]
def srow (tick : Int) (j : Jb) (k : Nat) : List PV := stored tick j.o (j.s + k) ((j.d.drop (16 * k)).take 16)
theorem logK_flat {d : Dv} (h : d.log = []) (tick : Int) (j : Jb) : ∀ m, logK d tick j m = (List.range m).flatMap (srow tick j)
  | 0 => h
  | m + 1 => by rw [logK, logK_flat h tick j m, List.range_succ, List.flatMap_append]; simp [srow]
theorem srow_len (tick : Int) (j : Jb) (k : Nat) : (srow tick j k).length = 4 := rfl
theorem stood73 : Try.prog.stoodInHeld 73 = false := by kernel_rfl
@[simp] theorem guard73 : Try.prog.eqGuardType Try.prog.depth 73 = false := by kernel_rfl
theorem eqi3 (d : Nat) (a b : Int) : eqT Try.prog (d + 1) 3 [.int .i64 a] [.int .i64 b] = some (a == b) := by simp only [eqT, Try.underlying3]; rfl
theorem eqs9 (d : Nat) (a b : List UInt8) : eqT Try.prog (d + 1) 9 [.str a] [.str b] = some (a == b) := by simp only [eqT, Try.underlying9]
theorem eqS (a b c : Int) (s : List UInt8) : eqT Try.prog 20 73 [.int .i64 a, .int .i64 b, .int .i64 c, .str s] [.int .i64 a, .int .i64 b, .int .i64 c, .str s] = some true := by
  show eqT Try.prog (18 + 1 + 1) 73 _ _ = _
  unfold eqT
  rw [Try.underlying73]
  simp only [stood73]
  simp [eqi3, eqs9, andL]
end Go.Proofs.Ytolhandckojljaa
end

section
namespace Go.Proofs.Ytolhandckojljaa
open Go Go.PS
set_option maxHeartbeats 4000000 in
theorem f6 (n : Nat) (l : List Pt) (j : Jb) (from_ at_ : Int) (hn : 3000 < n) : ∃ hp d, evalCall Try.prog hints (n + 8) 6 [.sl .sh l.length (l.flatMap Pt.cells), .agg j.cells, .int .i64 from_, .int .i64 at_] [] = some (.bool true, hp, d) := by
  apply of_map
  obtain ⟨m, hm⟩ : ∃ m, m = l.take 8 := ⟨_, rfl⟩
  have ml : m.length ≤ 8 := by rw [hm, List.length_take]; omega
  have e14 := f14 (n + 6) l [] (by omega)
  rw [← hm] at e14
  obtain ⟨H1, r, e15, h1, h2⟩ := f15 (n + 1) m [] (by omega) (by omega)
  have e16 := fun hp => f16 (n + 3) m hp (by omega) (by omega)
  rw [evalCall_at _ _ _ hh6 rfl Try.func6 rfl (Nat.le_of_ble_eq_true rfl) rfl]
  obtain ⟨L0, e170, -⟩ := live17 n [] (by omega)
  obtain ⟨jc, hjc⟩ : ∃ jc, jc = j.cells := ⟨_, rfl⟩
  have hjc' : jc = [.int .i64 j.o, .int .i64 j.s, .int .i64 j.n, .bool j.w, .str j.d] := hjc
  rw [← hjc]
  by_cases hE : chkR [] m = 0
  · obtain ⟨rfl, i1, i2, -⟩ := h1 hE
    simp only [List.length_nil] at i1 i2 e15
    obtain ⟨o1, -, o3⟩ := chk_good hE
    have g : Good m := ⟨o1, ml, o3⟩
    rw [hE] at e16
    have hs : (D0 m).sec.length = 8192 := by show zsec.length = 8192; rw [zsec_S0, ob_len]; exact S0_len
    have e21 := f21 (n + 2) 0 from_ j (D0 m) H1 i1 hs (by show m.length ≤ 1000; omega) (by omega) o1
    rw [← hjc] at e21
    have hst : startS (D0 m).parts (D0 m).job.isSome from_ j = startS m false from_ j := rfl
    rw [hst] at e21
    by_cases hd : 100 < j.d.length
    · have hd' : (100 : Int) < j.d.length := by omega
      generalize l.flatMap Pt.cells = XL at *
      generalize m.flatMap Pt.cells = XM at *
      subst hjc'
      simp [-getElem?_pos, List.getElem?_cons_zero, e14, e16, hd, hd', e170]
    have hd' : ¬ (100 : Int) < j.d.length := by omega
    by_cases hS : startS m false from_ j = 0
    · rw [hS] at e21
      simp only [if_true, decide_true] at e21
      have hask : askS m j = 0 := by
        unfold startS at hS
        split at hS
        · cases hS
        · simpa using hS
      have htick : 0 ≤ from_ ∧ from_ ≤ 2147483647 := by
        unfold startS at hS
        split at hS
        · cases hS
        · omega
      obtain ⟨d1, hd1⟩ : ∃ d1 : Dv, d1 = { D0 m with job := some H1.length, from_ := from_ } := ⟨_, rfl⟩
      rw [← hd1] at e21
      obtain ⟨H2, hH2⟩ : ∃ H2, H2 = (H1 ++ [jc]).set 0 d1.cells := ⟨_, rfl⟩
      rw [← hH2] at e21
      have k2 : H2[0]? = some d1.cells := by rw [hH2]; exact List.getElem?_set_self (by simp)
      have k2j : H2[H1.length]? = some j.cells := by rw [hH2, List.getElem?_set_ne (by omega)]; simp [hjc]
      have hs1 : d1.sec.length = 8192 := by rw [hd1]; exact hs
      have hl2 : 0 < H2.length := by rw [hH2]; simp
      have w3 := wrap_id (x := from_ + 3) (by omega)
      clear hH2
      by_cases ht : at_ < from_ + 3
      · have e22 := f22t (n + 6) 0 H1.length at_ d1 H2 k2 hs1 (by rw [hd1]) (by rw [hd1]; exact ht) (by rw [hd1]; exact htick)
        have e23 := f23 (n + 5) 0 d1 H2 k2 hs1 (by rw [hd1]; show (0 : Nat) ≤ 4194304; omega) (by rw [hd1]; rfl) (by rw [hd1]; rfl) (by rw [hd1]; rfl) (by rw [hd1]; rfl)
        have hn1 : d1.nlog = 0 := by rw [hd1]; rfl
        have hn2 : d1.log = [] := by rw [hd1]; rfl
        rw [hn1, hn2] at e23
        obtain ⟨L2, e172, x2⟩ := live17 n H2 (by omega)
        have e24 := f24 (n + 6) 0 d1 L2 (by rw [x2 0 hl2]; exact k2) hs1
        have hj1 : d1.job.isSome = true := by rw [hd1]; rfl
        rw [hj1] at e24
        generalize l.flatMap Pt.cells = XL at *
        generalize m.flatMap Pt.cells = XM at *
        subst hjc'
        simp [-getElem?_pos, List.getElem?_cons_zero, e14, e15, e16, e21, e22, e23, e24, e172, hd, hd', w3, ht]
      · obtain ⟨mm, a, hM⟩ := may_of hask o1
        cases hw : j.w with
        | false =>
          have e22 := f22r (n + 3) 0 H1.length at_ j d1 S0 H2 k2 (by rw [hd1]; exact zsec_S0) S0_len (by rw [hd1]; show m.length ≤ 1000; omega) (by omega) (by rw [hd1]; exact o1) (by rw [hd1]) k2j mm a (by rw [hd1]; exact hM) hw (by rw [hd1]; show from_ + 3 ≤ at_; omega) (by rw [hd1]; exact htick) (by omega)
          rw [decide_eq_true hl2] at e22
          obtain ⟨d2, hd2⟩ : ∃ d2 : Dv, d2 = { d1 with job := none } := ⟨_, rfl⟩
          rw [← hd2] at e22
          have k3 : (H2.set 0 d2.cells)[0]? = some d2.cells := List.getElem?_set_self hl2
          have hs2 : d2.sec.length = 8192 := by rw [hd2]; exact hs1
          have hn1 : d2.nlog = 0 := by rw [hd2, hd1]; rfl
          have hn2 : d2.log = [] := by rw [hd2, hd1]; rfl
          have e23 := f23 (n + 5) 0 d2 (H2.set 0 d2.cells) k3 hs2 (by omega) (by rw [hn1, hn2]; rfl) (by rw [hn2]; rfl) (by rw [hn2]; rfl) (by rw [hn2]; rfl)
          rw [hn1, hn2] at e23
          obtain ⟨L2, e172, x2⟩ := live17 n (H2.set 0 d2.cells) (by omega)
          generalize H2.set 0 d2.cells = H3 at *
          generalize outK S0 a mm = out at *
          generalize l.flatMap Pt.cells = XL at *
          generalize m.flatMap Pt.cells = XM at *
          rw [hw] at hjc'
          subst hjc'
          simp [-getElem?_pos, List.getElem?_cons_zero, e14, e15, e16, e21, e22, e23, e172, hd, hd', w3, ht]
        | true =>
          have e22 := f22w (n + 3) 0 H1.length at_ j d1 S0 H2 k2 (by rw [hd1]; exact zsec_S0) S0_len (by rw [hd1]; show m.length ≤ 1000; omega) (by omega) (by rw [hd1]; exact o1) (by rw [hd1]) k2j mm a (by rw [hd1]; exact hM) hw (by rw [hd1]; show from_ + 3 ≤ at_; omega) (by rw [hd1]; exact htick) (by rw [hd1]; rfl) (by rw [hd1]; show (0 : Nat) ≤ 1000; omega)
          rw [decide_eq_true hl2] at e22
          obtain ⟨d2, hd2⟩ : ∃ d2 : Dv, d2 = DK d1 S0 a at_ j mm := ⟨_, rfl⟩
          rw [← hd2] at e22
          have fo := find_le hM.e o1
          have hm2 := hM.two
          have hma := hM.le
          unfold okP at fo; simp only [decide_eq_true_eq] at fo
          have k3 : (H2.set 0 d2.cells)[0]? = some d2.cells := List.getElem?_set_self hl2
          have hs2 : d2.sec.length = 8192 := by rw [hd2]; simp only [DK, ob_len]; exact secK_len S0_len (by omega)
          have hn1 : d2.nlog = mm := by rw [hd2, hd1]; show 0 + mm = mm; omega
          have hn2 : d2.log = (List.range mm).flatMap (srow at_ j) := by rw [hd2]; exact logK_flat (by rw [hd1]; rfl) at_ j mm
          have la := flat_all (f := srow at_ j) (fun _ => rfl) (List.range mm)
          have lo := flat_out (f := srow at_ j) (fun _ => rfl) (List.range mm)
          have ll := flat_len (srow_len at_ j) (List.range mm)
          have lr := fun k h => flat_row (srow_len at_ j) (List.range mm) k h
          have lp : ((List.range mm).flatMap (srow at_ j)).all plain1 = true := by
            rw [List.all_eq_true]
            intro x hx
            obtain ⟨q, _, hq⟩ := List.mem_flatMap.1 hx
            exact List.all_eq_true.1 (rfl : (srow at_ j q).all plain1 = true) x hq
          rw [List.length_range] at ll
          have e23 := f23 (n + 5) 0 d2 (H2.set 0 d2.cells) k3 hs2 (by omega) (by rw [hn1, hn2]; exact ll) (by rw [hn2]; exact la) (by rw [hn2]; exact lo) (by rw [hn2]; exact lp)
          rw [hn1, hn2] at e23
          obtain ⟨L2, e172, x2⟩ := live17 n (H2.set 0 d2.cells) (by omega)
          have hsz : (j.d.length : Int) = 16 * mm := by rw [← hM.sz]; unfold Jb.size; rw [hw]; simp
          have q1 : (j.d.length : Int).tdiv 16 = mm := by rw [td _ (by omega)]; omega
          have q2 := wrap_id (x := (mm : Int)) (by omega)
          generalize H2.set 0 d2.cells = H3 at *
          generalize l.flatMap Pt.cells = XL at *
          generalize m.flatMap Pt.cells = XM at *
          generalize (List.range mm).flatMap (srow at_ j) = LL at *
          rw [hw] at hjc'
          have hjs : 0 ≤ j.s ∧ j.s ≤ 100 := by
            have := hM.s0; have := hM.at_; omega
          subst hjc'
          simp [-getElem?_pos, List.getElem?_cons_zero, e14, e15, e16, e21, e22, e23, e172, hd, hd', w3, ht, q1, q2]
          rw [iter_count (fun k => { fr := [(3, .int .i64 at_), (5, .box [.int .i64 j.o, .int .i64 j.s, .int .i64 j.n, .bool true, .str j.d]), (14, .sl (.mu 4) mm LL), (15, .int .i64 k)], hp := H3, base := 0, dirty := true })
            (.exit 0, { fr := [(3, .int .i64 at_), (5, .box [.int .i64 j.o, .int .i64 j.s, .int .i64 j.n, .bool true, .str j.d]), (14, .sl (.mu 4) mm LL), (15, .int .i64 mm), (98, .bool false)], hp := H3, base := 0, dirty := true }) mm]
          · simp [e172]
          · rfl
          · omega
          · intro k hk
            have r := lr k (by rw [List.length_range]; exact hk)
            rw [List.getElem_range] at r
            have z : k * 4 + 4 ≤ mm * 4 := by omega
            have v1 := wrap_id (x := j.s + k) (by omega)
            have v2 : IntKind.i64.wrap (16 * (k : Int)) = ((16 * k : Nat) : Int) := by rw [wrap_id (by omega)]; omega
            have v3 : IntKind.i64.wrap (((16 * k : Nat) : Int) + 16) = ((16 * k + 16 : Nat) : Int) := by rw [wrap_id (by omega)]; omega
            have v4 := wrap_id (x := (k : Int) + 1) (by omega)
            have t1 : ((16 * k : Nat) : Int).toNat = 16 * k := Int.toNat_natCast _
            have t2 : ((16 * k + 16 : Nat) : Int).toNat = 16 * k + 16 := Int.toNat_natCast _
            have g1 : (0 : Int) ≤ ((16 * k : Nat) : Int) := by omega
            have g2 : (0 : Int) ≤ ((16 * k + 16 : Nat) : Int) := by omega
            have g3 : ((16 * k + 16 : Nat) : Int) ≤ (j.d.length : Int) := by omega
            have g4 : 16 * k + 16 - 16 * k = 16 := by omega
            have es := eqS at_ j.o (j.s + k) ((j.d.drop (16 * k)).take 16)
            simp only [srow, stored] at r
            generalize ((16 * k + 16 : Nat) : Int) = zz at *
            generalize ((16 * k : Nat) : Int) = zk at *
            have g5 : zk ≤ 16 * (k : Int) + 16 := by omega
            simp [-getElem?_pos, List.getElem?_cons_zero, hk, ll, r, z, v1, v2, v3, v4, t1, t2, g1, g2, g3, g4, g5, es]
          · simp
          · simp
    · rw [if_neg hS, decide_eq_false hS] at e21
      obtain ⟨L1, e171, -⟩ := live17 n H1 (by omega)
      generalize startS m false from_ j = E2 at *
      have hS' : (E2 != 0) = true := by simp [hS]
      generalize l.flatMap Pt.cells = XL at *
      generalize m.flatMap Pt.cells = XM at *
      subst hjc'
      simp [-getElem?_pos, List.getElem?_cons_zero, e14, e15, e16, e21, e171, hd, hd', hS, hS']
  · have hE' : (chkR [] m != 0) = true := by simp [hE]
    generalize chkR [] m = E at *
    generalize l.flatMap Pt.cells = XL at *
    generalize m.flatMap Pt.cells = XM at *
    subst hjc'
    simp [-getElem?_pos, List.getElem?_cons_zero, e14, e16, hE, hE', e170]
end Go.Proofs.Ytolhandckojljaa
end
