/-
  What functions of this program compute, as equations about the evaluator. No condition but those stated.
-/
import Derived.Test.YtaiiboplopljoaaGreatEqsV
import Derived.Test.YtaiiboplopljoaaGreatEqsQ
import Derived.Test.YtaiiboplopljoaaGreatEqsW

set_option linter.all false
section
namespace Go.Proofs.YtaiiboplopljoaaGreat
open Go Go.PS
/-- What is wrong with an image's tables, and they. -/
def bootI (s : List UInt8) : Int × Tab := if (parseI s).1 = 0 then (if faults (parseI s).2 = [] then (0, (parseI s).2) else (11, tab0)) else ((parseI s).1, tab0)
set_option maxHeartbeats 2000000 in
theorem f13 (n : Nat) (s : List UInt8) (hp : Heap) (hl : s.length ≤ 1000) : ∃ H d m FX, (d = false → H = hp) ∧ evalCall Tryz.prog hints (n + 2020) 13 [.str s] hp = some (.tup [.agg (bootI s).2.cells, .sl .sh m FX, .int .i64 (bootI s).1], H, d) := by
  obtain ⟨H1, d1, hd1, e29⟩ := f29 (n + 9) s hp hl
  rw [show n + 9 + 2010 = n + 2019 from rfl] at e29
  obtain ⟨H2, e30⟩ := f30 (n + 2009) (parseI s).2 H1 (by omega)
  rw [show n + 2009 + 10 = n + 2019 from rfl] at e30
  have e30' := fun hp => f30 (n + 2009) (parseI s).2 hp (by omega)
  rw [evalCall_at _ _ _ hh13 rfl Tryz.func13 rfl (Nat.le_of_ble_eq_true rfl) rfl]
  unfold bootI
  generalize parseI s = P at *
  obtain ⟨pe, ⟨tf, tW, tS', tC⟩⟩ := P
  have hf0 : faults ⟨tf, tW, tS', tC⟩ = [] ↔ (faults ⟨tf, tW, tS', tC⟩).length = 0 := by rw [List.length_eq_zero_iff]
  have fl := flat_len F2.len (faults ⟨tf, tW, tS', tC⟩)
  simp only [Tab.cells] at *
  generalize hF : (faults ⟨tf, tW, tS', tC⟩).flatMap F2.cells = FX at *
  generalize hX : tW.flatMap R3.cells = X at *
  generalize hY : tS'.flatMap R3.cells = Y at *
  generalize hZ : tC.flatMap Cl.cells = Z at *
  have hpl : ∀ y ∈ FX, plain1 y = true := fun y hy => by
    rw [← hF] at hy
    obtain ⟨a, _, ha⟩ := List.mem_flatMap.1 hy
    simp [F2.cells] at ha
    rcases ha with rfl | rfl <;> rfl
  have hall : FX.all plain1 = true := List.all_eq_true.2 hpl
  generalize hL : (faults ⟨tf, tW, tS', tC⟩).length = L at *
  clear e30 hpl hF
  obtain ⟨H2, e30⟩ := e30' H1
  refine ⟨H1, d1, if pe = 0 then L else 0, if pe = 0 then FX else [], hd1, ?_⟩
  have c0' : pe ≠ 0 → (pe != 0) = true := fun h => by simp [h]
  by_cases c0 : pe = 0
  · subst c0
    rw [if_pos rfl, if_pos rfl, if_pos rfl]
    by_cases c1 : L = 0
    · rw [if_pos (hf0.2 c1)]
      subst c1
      have fx : FX = [] := List.eq_nil_of_length_eq_zero (by simpa using fl)
      subst fx
      cases d1 with
      | true => simp [-getElem?_pos, List.getElem?_cons_zero, List.getElem?_cons_succ, e29, e30, Tab.cells, hX, hY, hZ]
      | false =>
        have := hd1 rfl
        subst this
        simp [-getElem?_pos, List.getElem?_cons_zero, List.getElem?_cons_succ, e29, e30, Tab.cells, hX, hY, hZ]
    · rw [if_neg (fun h => c1 (hf0.1 h))]
      have c2 : 0 < L := by omega
      cases d1 with
      | true => simp [-getElem?_pos, List.getElem?_cons_zero, List.getElem?_cons_succ, -List.all_eq_true, e29, e30, Tab.cells, tab0, c1, c2, hall]
      | false =>
        have := hd1 rfl
        subst this
        simp [-getElem?_pos, List.getElem?_cons_zero, List.getElem?_cons_succ, -List.all_eq_true, e29, e30, Tab.cells, tab0, c1, c2, hall]
  · rw [if_neg c0, if_neg c0, if_neg c0]
    have c0' := c0' c0
    cases d1 with
    | true => simp [-getElem?_pos, List.getElem?_cons_zero, List.getElem?_cons_succ, e29, Tab.cells, tab0, c0, c0']
    | false =>
      have := hd1 rfl
      subst this
      simp [-getElem?_pos, List.getElem?_cons_zero, List.getElem?_cons_succ, e29, Tab.cells, tab0, c0, c0']
end Go.Proofs.YtaiiboplopljoaaGreat
end

section
namespace Go.Proofs.YtaiiboplopljoaaGreat
open Go Go.PS
theorem okT_good {t : Tab} (g : Good t) : OkT t := by
  have hf := g.frame
  unfold frameB at hf; simp only [decide_eq_true_eq] at hf
  refine ⟨⟨by omega, by omega⟩, fun w hw => ?_, fun w hw => ?_, fun c hc => ?_, by omega, by omega, by omega⟩
  · have := g.wok w hw
    unfold okW at this; simp only [decide_eq_true_eq] at this
    exact ⟨⟨by omega, by omega⟩, ⟨by omega, by omega⟩, ⟨by omega, by omega⟩⟩
  · have := g.sok w hw
    unfold okS at this; simp only [decide_eq_true_eq] at this
    exact ⟨⟨by omega, by omega⟩, ⟨by omega, by omega⟩, ⟨by omega, by omega⟩⟩
  · obtain ⟨h1, h2, h3, h4, h5, h6, h7, h8, h9, h10, h11, h12, h13, h14, h15, h16, h17, h18, h19⟩ := g.cok c hc
    have r := ring_le c.q
    have hq : 1 ≤ c.q ∧ c.q ≤ 16 := by
      unfold ring at h5
      split at h5
      · omega
      · exact (h5 rfl).elim
    exact ⟨⟨by omega, by omega⟩, ⟨by omega, by omega⟩, ⟨by omega, by omega⟩, ⟨by omega, by omega⟩, ⟨by omega, by omega⟩, ⟨by omega, by omega⟩, ⟨by omega, by omega⟩, ⟨by omega, by omega⟩, ⟨by omega, by omega⟩, ⟨by omega, by omega⟩⟩
theorem bytesN_row (r : R3) : bytesN (R3.nums r) = rowB r := by
  unfold bytesN R3.nums rowB b1 b2
  rfl
theorem bytesN_cl (c : Cl) : bytesN (Cl.nums c) = clBy c := by
  unfold bytesN Cl.nums clBy b1 b2
  rfl
theorem bytesN_rows (l : List R3) : bytesN (l.flatMap R3.nums) = l.flatMap rowB := by
  induction l with
  | nil => rfl
  | cons a l ih => rw [List.flatMap_cons, bytesN_append, ih, bytesN_row, List.flatMap_cons]
theorem bytesN_cls (l : List Cl) : bytesN (l.flatMap Cl.nums) = l.flatMap clBy := by
  induction l with
  | nil => rfl
  | cons a l ih => rw [List.flatMap_cons, bytesN_append, ih, bytesN_cl, List.flatMap_cons]
theorem bytesN_one (x : Int) : bytesN [⟨x, 1⟩] = b1 x := by
  unfold bytesN b1 b2; rfl
theorem bytes_eq (t : Tab) : bytesN (nums t) = bytesT t := by
  unfold nums bytesT
  rw [bytesN_append, bytesN_append, bytesN_append, bytesN_append, bytesN_append, bytesN_rows, bytesN_rows, bytesN_cls, bytesN_one, bytesN_one]
  rfl
theorem nums_ok {t : Tab} (o : OkT t) : ∀ x ∈ nums t, okF x = true ∧ (x.k = 1 ∨ x.k = 2) := by
  have k1 : ∀ n : Int, inR n 255 → okF ⟨n, 1⟩ = true ∧ ((⟨n, 1⟩ : F2).k = 1 ∨ (⟨n, 1⟩ : F2).k = 2) := fun n h => by
    obtain ⟨h0, h1⟩ := h
    exact ⟨by unfold okF; simp only [decide_eq_true_eq]; omega, .inl rfl⟩
  have k2 : ∀ n : Int, inR n 65535 → okF ⟨n, 2⟩ = true ∧ ((⟨n, 2⟩ : F2).k = 1 ∨ (⟨n, 2⟩ : F2).k = 2) := fun n h => by
    obtain ⟨h0, h1⟩ := h
    exact ⟨by unfold okF; simp only [decide_eq_true_eq]; omega, .inr rfl⟩
  have kr : ∀ r : R3, okRow r → ∀ x ∈ R3.nums r, okF x = true ∧ (x.k = 1 ∨ x.k = 2) := fun r h x hx => by
    obtain ⟨h1, h2, h3⟩ := h
    simp only [R3.nums, List.mem_cons, List.not_mem_nil, or_false] at hx
    rcases hx with rfl | rfl | rfl
    · exact k1 _ h1
    · exact k2 _ h2
    · exact k2 _ h3
  have kc : ∀ c : Cl, okCl c → ∀ x ∈ Cl.nums c, okF x = true ∧ (x.k = 1 ∨ x.k = 2) := fun c h x hx => by
    obtain ⟨h1, h2, h3, h4, h5, h6, h7, h8, h9, h10⟩ := h
    simp only [Cl.nums, List.mem_cons, List.not_mem_nil, or_false] at hx
    rcases hx with rfl | rfl | rfl | rfl | rfl | rfl | rfl | rfl | rfl | rfl
    · exact k2 _ h1
    · exact k2 _ h2
    · exact k1 _ h3
    · exact k2 _ h4
    · exact k1 _ h5
    · exact k1 _ h6
    · exact k1 _ h7
    · exact k1 _ h8
    · exact k2 _ h9
    · exact k1 _ h10
  obtain ⟨oF, oW, oS, oC, lW, lS, lC⟩ := o
  intro x hx
  unfold nums headN at hx
  simp only [List.mem_append, List.mem_cons, List.not_mem_nil, or_false, List.mem_flatMap] at hx
  rcases hx with ((((h | h) | h) | h) | h) | h
  · rcases h with rfl | rfl | rfl | rfl
    · exact k1 _ ⟨by omega, by omega⟩
    · exact k1 _ ⟨by omega, by omega⟩
    · exact k2 _ oF
    · exact k1 _ ⟨by omega, by omega⟩
  · obtain ⟨r, hr, hx⟩ := h
    exact kr r (oW r hr) x hx
  · subst h; exact k1 _ ⟨by omega, by omega⟩
  · obtain ⟨r, hr, hx⟩ := h
    exact kr r (oS r hr) x hx
  · subst h; exact k1 _ ⟨by omega, by omega⟩
  · obtain ⟨r, hr, hx⟩ := h
    exact kc r (oC r hr) x hx
end Go.Proofs.YtaiiboplopljoaaGreat
end

section
namespace Go.Proofs.YtaiiboplopljoaaGreat
open Go Go.PS
def imgR (s : List UInt8) (o : Int) : Int × List UInt8 :=
  if (bootI s).1 = 0 then (if isC (bootI s).2 o = true then (0, crcSeal (bytesT (aloneT (bootI s).2 o))) else (7, [])) else ((bootI s).1, [])
theorem boot_good {s : List UInt8} (h : (bootI s).1 = 0) : Good (bootI s).2 := by
  unfold bootI at *
  split at h
  · rename_i hp
    rw [if_pos hp]
    split at h
    · rename_i hf
      rw [if_pos hf]
      exact good_of hf
    · cases h
  · rename_i hp; exact (hp h).elim
theorem isC_at {t : Tab} {o : Int} (h : isC t o = true) : ∃ k : Nat, k < t.C.length ∧ o = (k : Int) + 1 := by
  unfold isC at h; simp only [decide_eq_true_eq] at h
  exact ⟨(o - 1).toNat, by omega, by omega⟩
set_option maxHeartbeats 2000000 in
theorem f5 (n : Nat) (s : List UInt8) (o : Int) (hp : Heap) (hl : s.length ≤ 1000) : ∃ H d, evalCall Tryz.prog hints (n + 20001) 5 [.str s, .int .i64 o] hp = some (.tup [.str (imgR s o).2, .int .i64 (imgR s o).1], H, d) := by
  obtain ⟨H1, d1, m, FX, hd1, e13⟩ := f13 (n + 17980) s hp hl
  rw [show n + 17980 + 2020 = n + 20000 from rfl] at e13
  rw [evalCall_at _ _ _ hh5 rfl Tryz.func5 rfl (Nat.le_of_ble_eq_true rfl) rfl]
  unfold imgR
  have hg := boot_good (s := s)
  generalize bootI s = P at *
  obtain ⟨pe, t⟩ := P
  simp only at *
  by_cases c0 : pe = 0
  · subst c0
    have g := hg rfl
    rw [if_pos rfl]
    cases hc : isC t o with
    | true =>
      obtain ⟨k, hk, rfl⟩ := isC_at hc
      obtain ⟨H2, e12⟩ := f12ok (n + 19960) t g k hk H1 (by omega)
      rw [show n + 19960 + 40 = n + 20000 from rfl] at e12
      have ga := alone_good g k hk
      obtain ⟨H3, d3, e14⟩ := f14 n (aloneT t ((k : Int) + 1)) (okT_good ga) H2
      rw [if_pos rfl]
      obtain ⟨XW, LS, XS, XC, hcells⟩ : ∃ XW LS XS XC, (aloneT t ((k : Int) + 1)).cells = [.int .i64 t.f, .sl .sh 2 XW, .sl .sh LS XS, .sl .sh 1 XC] := ⟨_, _, _, _, rfl⟩
      rw [hcells] at e12 e14
      generalize crcSeal (bytesT (aloneT t ((k : Int) + 1))) = R at *
      clear hcells ga g hg hc
      obtain ⟨tf, tW, tS', tC⟩ := t
      simp only [Tab.cells] at *
      generalize tW.flatMap R3.cells = X at *
      generalize tS'.flatMap R3.cells = Y at *
      generalize tC.flatMap Cl.cells = Z at *
      cases d1 with
      | true =>
        cases d3 with
        | true => exact ⟨H3, true, by simp [-getElem?_pos, List.getElem?_cons_zero, List.getElem?_cons_succ, e13, e12, e14]⟩
        | false => exact ⟨H2, true, by simp [-getElem?_pos, List.getElem?_cons_zero, List.getElem?_cons_succ, e13, e12, e14]⟩
      | false =>
        have := hd1 rfl
        subst this
        cases d3 with
        | true => exact ⟨H3, true, by simp [-getElem?_pos, List.getElem?_cons_zero, List.getElem?_cons_succ, e13, e12, e14]⟩
        | false => exact ⟨H2, false, by simp [-getElem?_pos, List.getElem?_cons_zero, List.getElem?_cons_succ, e13, e12, e14]⟩
    | false =>
      obtain ⟨H2, e12⟩ := f12o (n + 19960) t g o hc H1 (by omega)
      rw [show n + 19960 + 40 = n + 20000 from rfl] at e12
      rw [if_neg (by simp)]
      have hz : Tab.zero.cells = [.int .i64 0, .sl .sh 0 [], .sl .sh 0 [], .sl .sh 0 []] := rfl
      rw [hz] at e12
      clear hz g hg hc
      obtain ⟨tf, tW, tS', tC⟩ := t
      simp only [Tab.cells] at *
      generalize tW.flatMap R3.cells = X at *
      generalize tS'.flatMap R3.cells = Y at *
      generalize tC.flatMap Cl.cells = Z at *
      refine ⟨H1, d1, ?_⟩
      cases d1 with
      | true => simp [-getElem?_pos, List.getElem?_cons_zero, List.getElem?_cons_succ, e13, e12]
      | false =>
        have := hd1 rfl
        subst this
        simp [-getElem?_pos, List.getElem?_cons_zero, List.getElem?_cons_succ, e13, e12]
  · rw [if_neg c0]
    have c0' : (pe != 0) = true := by simp [c0]
    obtain ⟨tf, tW, tS', tC⟩ := t
    simp only [Tab.cells] at *
    generalize tW.flatMap R3.cells = X at *
    generalize tS'.flatMap R3.cells = Y at *
    generalize tC.flatMap Cl.cells = Z at *
    refine ⟨H1, d1, ?_⟩
    cases d1 with
    | true => simp [-getElem?_pos, List.getElem?_cons_zero, List.getElem?_cons_succ, e13, c0, c0']
    | false =>
      have := hd1 rfl
      subst this
      simp [-getElem?_pos, List.getElem?_cons_zero, List.getElem?_cons_succ, e13, c0, c0']
theorem f9 (n : Nat) (l : List (List UInt8)) (o : Int) (hp : Heap) (hl : l.length ≤ 100) : evalCall Tryz.prog hints (n + 1) 9 [.sl .sh l.length (l.map PV.str), .int .i64 o] hp =
    some (.sl (.mu 1) (if o < 1 then 0 else 1) (if o < 1 then [] else [.str ((l[(o - 1).toNat]?).getD [])]), hp, false) := by
  rw [evalCall_at _ _ _ hh9 rfl Tryz.func9 rfl (Nat.le_of_ble_eq_true rfl) rfl]
  by_cases c : o < 1
  · simp [c]
  · by_cases c2 : (l.length : Int) < o
    · have : l[(o - 1).toNat]? = none := by rw [List.getElem?_eq_none]; omega
      have h2 : l[o.toNat - 1]? = none := by rw [List.getElem?_eq_none]; omega
      simp [c, c2, this, h2]
    · have w := wrap_id (x := o - 1) (by omega)
      obtain ⟨k, hk⟩ : ∃ k : Nat, o - 1 = k := ⟨(o - 1).toNat, by omega⟩
      have hkl : k < l.length := by omega
      have g : (l.map PV.str)[k]? = some (.str l[k]) := by rw [List.getElem?_map, List.getElem?_eq_getElem hkl]; rfl
      rw [hk] at w ⊢
      rw [Int.toNat_natCast, List.getElem?_eq_getElem hkl]
      have hkl' : (k : Int) < l.length := by omega
      simp [-getElem?_pos, List.getElem?_cons_zero, c, c2, hk, w, hkl, g]
theorem f10 (n : Nat) (l : List (List UInt8)) (o : Int) (hp : Heap) (hl : l.length ≤ 100) : evalCall Tryz.prog hints (n + 1) 10 [.sl .sh l.length (l.map PV.str), .int .i64 o] hp =
    some (.str (if o < 1 then [] else (l[(o - 1).toNat]?).getD []), hp, false) := by
  rw [evalCall_at _ _ _ hh10 rfl Tryz.func10 rfl (Nat.le_of_ble_eq_true rfl) rfl]
  by_cases c : o < 1
  · simp [c]
  · by_cases c2 : (l.length : Int) < o
    · have : l[(o - 1).toNat]? = none := by rw [List.getElem?_eq_none]; omega
      have h2 : l[o.toNat - 1]? = none := by rw [List.getElem?_eq_none]; omega
      simp [c, c2, this, h2]
    · have w := wrap_id (x := o - 1) (by omega)
      obtain ⟨k, hk⟩ : ∃ k : Nat, o - 1 = k := ⟨(o - 1).toNat, by omega⟩
      have hkl : k < l.length := by omega
      have g : (l.map PV.str)[k]? = some (.str l[k]) := by rw [List.getElem?_map, List.getElem?_eq_getElem hkl]; rfl
      rw [hk] at w ⊢
      rw [Int.toNat_natCast, List.getElem?_eq_getElem hkl]
      simp [-getElem?_pos, List.getElem?_cons_zero, c, c2, hk, w, hkl, g]
end Go.Proofs.YtaiiboplopljoaaGreat
end

section
namespace Go.Proofs.YtaiiboplopljoaaGreat
open Go Go.PS
def pk (t : Tab) (o : Int) : Int × Tab := if faults t = [] then (if isC t o = true then (0, aloneT t o) else (7, Tab.zero)) else (11, Tab.zero)
def pickR (s : List UInt8) (o : Int) : Int × Tab := if (parseI s).1 = 0 then pk (parseI s).2 o else ((parseI s).1, Tab.zero)
theorem f7 (n : Nat) (t : Tab) (o : Int) (hp : Heap) (hn : 100 < n) : ∃ H, evalCall Tryz.prog hints (n + 40) 7 [.agg t.cells, .int .i64 o] hp = some (.tup [.agg (pk t o).2.cells, .int .i64 (pk t o).1], H, false) := by
  unfold pk
  by_cases h : faults t = []
  · rw [if_pos h]
    have g := good_of h
    cases hc : isC t o with
    | true =>
      obtain ⟨k, hk, rfl⟩ := isC_at hc
      rw [if_pos rfl]
      exact f7ok n t g k hk hp hn
    | false =>
      rw [if_neg (by simp)]
      exact f7o n t g o hc hp hn
  · rw [if_neg h]
    exact f7n n t h o hp hn
theorem pk_good {t : Tab} {o : Int} (h : (pk t o).1 = 0) : Good (pk t o).2 := by
  unfold pk at *
  by_cases hf : faults t = []
  · rw [if_pos hf] at h ⊢
    cases hc : isC t o with
    | true =>
      obtain ⟨k, hk, rfl⟩ := isC_at hc
      rw [if_pos rfl]
      exact alone_good (good_of hf) k hk
    | false =>
      rw [hc, if_neg (by simp)] at h
      cases h
  · rw [if_neg hf] at h
    cases h
theorem img_pick (s : List UInt8) (o : Int) : imgR s o = ((pickR s o).1, if (pickR s o).1 = 0 then crcSeal (bytesT (pickR s o).2) else []) := by
  unfold imgR pickR bootI pk
  by_cases h : (parseI s).1 = 0
  · by_cases hf : faults (parseI s).2 = []
    · by_cases hc : isC (parseI s).2 o = true <;> simp [h, hf, hc]
    · simp [h, hf]
  · simp [h]
theorem f8p (n : Nat) (t : Tab) (o : Int) (hp : Heap) (h : (pk t o).1 = 0) : evalCall Tryz.prog hints (n + 20000) 8 [.agg (pk t o).2.cells] hp = some (.tup [.str (crcSeal (bytesT (pk t o).2)), .int .i64 0], hp, false) := by
  have g := pk_good h
  have ok := okT_good g
  have hf := g.frame
  unfold frameB at hf; simp only [decide_eq_true_eq] at hf
  have e := f8 n (pk t o).2 hp (by omega) (by omega) (by omega) (nums_ok ok)
  rw [bytes_eq] at e
  exact e
end Go.Proofs.YtaiiboplopljoaaGreat
end

section
namespace Go.Proofs.YtaiiboplopljoaaGreat
open Go Go.PS
def wantD {α : Type} (q : α → Bool) (l : List α) (i : Nat) : Int := match idx q (l.drop i) with | some j => (i : Int) + j + 1 | none => 0
theorem wantD_last {α : Type} (q : α → Bool) (l : List α) : wantD q l l.length = 0 := by
  unfold wantD; rw [List.drop_length]; rfl
theorem wantD_zero {α : Type} (q : α → Bool) (l : List α) : wantD q l 0 = 1 + idxI (idx q l) := by
  unfold wantD idxI; rw [List.drop_zero]
  cases idx q l with
  | none => rfl
  | some j => simp; omega
theorem wantD_step {α : Type} (q : α → Bool) (l : List α) (k : Nat) (hk : k < l.length) : wantD q l k = if q l[k] = true then (k : Int) + 1 else wantD q l (k + 1) := by
  unfold wantD
  rw [List.drop_eq_getElem_cons hk, idx]
  cases h : q l[k] with
  | true => simp
  | false =>
    simp only [if_neg (show ¬ (false = true) by simp)]
    cases idx q (l.drop (k + 1)) with
    | none => rfl
    | some j => simp; omega
end Go.Proofs.YtaiiboplopljoaaGreat
end

section
namespace Go.Proofs.YtaiiboplopljoaaGreat
open Go Go.PS
theorem rows14_count : ∀ (n : Nat) (l : List UInt8) (C : List Cl) (r : List UInt8), rows14 n l = some (C, r) → C.length = n
  | 0, l, C, r, h => by rw [rows14] at h; cases h; rfl
  | n + 1, l, C, r, h => by
    rw [rows14] at h
    split at h
    · rename_i x l2 _
      cases h2 : rows14 n l2 with
      | none => rw [h2] at h; cases h
      | some y =>
        obtain ⟨Y, z⟩ := y
        rw [h2] at h
        cases h
        rw [List.length_cons, rows14_count n l2 Y z h2]
    · cases h
theorem parse3_C (f : Int) (W S : List R3) (k : UInt8) (l : List UInt8) : (parse3 f W S k l).2.C.length ≤ 255 := by
  unfold parse3
  split
  · rename_i C h
    have := rows14_count _ _ _ _ h
    have := k.toNat_lt
    show C.length ≤ 255
    omega
  · simp [tab0]
  · simp [tab0]
theorem parseT_C (l : List UInt8) : (parseT l).2.C.length ≤ 255 := by
  unfold parseT
  split
  · split
    · split
      · unfold parse1
        split
        · unfold parse2
          split
          · exact parse3_C ..
          · simp [tab0]
        · simp [tab0]
      · simp [tab0]
    · simp [tab0]
  · simp [tab0]
theorem parseI_C (s : List UInt8) : (parseI s).2.C.length ≤ 255 := by
  unfold parseI
  split
  · exact parseT_C _
  · simp [tab0]
end Go.Proofs.YtaiiboplopljoaaGreat
end

section
namespace Go.Proofs.YtaiiboplopljoaaGreat
open Go Go.PS
theorem pk_zero {t : Tab} {o : Int} (h : (pk t o).1 ≠ 0) : (pk t o).2 = Tab.zero := by
  unfold pk at *
  by_cases hf : faults t = []
  · rw [if_pos hf] at h ⊢
    cases hc : isC t o with
    | true => rw [hc, if_pos rfl] at h; exact absurd rfl h
    | false => rw [if_neg (by simp)]
  · rw [if_neg hf]
theorem pk_two {t : Tab} {o : Int} (h : (pk t o).1 = 0) : ∃ a b S C f, (pk t o).2 = ⟨f, [a, b], S, C⟩ := by
  unfold pk at *
  by_cases hf : faults t = []
  · rw [if_pos hf] at h ⊢
    cases hc : isC t o with
    | true => rw [if_pos rfl]; exact ⟨_, _, _, _, _, rfl⟩
    | false =>
      rw [hc, if_neg (by simp)] at h
      cases h
  · rw [if_neg hf] at h
    cases h
end Go.Proofs.YtaiiboplopljoaaGreat
end
