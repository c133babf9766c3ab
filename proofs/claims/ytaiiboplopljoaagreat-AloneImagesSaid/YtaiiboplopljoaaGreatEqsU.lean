/-
  What functions of this program compute, as equations about the evaluator. No condition but those stated.
-/
import Derived.Test.YtaiiboplopljoaaGreatEqsT

set_option linter.all false
section
namespace Go.Proofs.YtaiiboplopljoaaGreat
open Go Go.PS
theorem one_b (l : List UInt8) : 0 ≤ one l ∧ one l ≤ 255 := by
  unfold one
  split
  · rename_i a _; have := a.toNat_lt; omega
  · omega
theorem rdByte_b (s : List UInt8) (r : Rd) : 0 ≤ (rdByte s r).1 ∧ (rdByte s r).1 ≤ 255 := one_b _
theorem rdByte_p {s : List UInt8} {r : Rd} (h : r.p ≤ s.length) : (rdByte s r).2.p ≤ s.length := rdTake_p h
theorem rdTwo_p {s : List UInt8} {r : Rd} (h : r.p ≤ s.length) : (rdTwo s r).2.p ≤ s.length := rdTake_p h
theorem rdCl_p {s : List UInt8} {r : Rd} (h : r.p ≤ s.length) : (rdCl s r).2.p ≤ s.length := by
  unfold rdCl
  exact rdTake_p (rdTake_p (rdTake_p (rdTake_p (rdTake_p (rdTake_p (rdTake_p (rdTake_p (rdTake_p (rdTake_p h)))))))))
theorem rdMany_p {α : Type} {s : List UInt8} {f : Rd → α × Rd} (hf : ∀ r, r.p ≤ s.length → (f r).2.p ≤ s.length) : ∀ (n : Nat) (r : Rd), r.p ≤ s.length → (rdMany f n r).2.p ≤ s.length
  | 0, r, h => h
  | n + 1, r, h => by
    unfold rdMany
    split
    · exact h
    · exact rdMany_p hf n _ (hf r h)
section
variable (n j : Nat) (s : List UInt8) (HP : Rd → Heap) (h : RdH s j HP) (hs : s.length ≤ 100000) (f : Int) (b : Nat)
def has52 : Nat → Bool := fun l => 0 == l || (1 == l || 2 == l)
theorem has0 : has52 0 = true := rfl
theorem has1 : has52 1 = true := rfl
theorem has2 : has52 2 = true := rfl
include h hs
theorem loop0 (t2 t3 : Nat) (S : List R3) (C : List Cl) : ∀ (m : Nat) (K : Nat) (r : Rd) (W : List R3) (t1 : Nat) (d : Bool), r.p ≤ s.length → (t1 = 3 ∨ t1 = 0 ∧ W = []) → W.length + m ≤ 256 → m ≤ 256 →
    ∃ K' m' t1' d', K ≤ K' ∧ scopeIter (evalCode Tryz.prog hint52 (fun f => (hints f).own) (evalCall Tryz.prog hints (n + 3)) (n + 3) (scopeOf Tryz.f52.body)) has52 head52 (K + m) (some 0) (tS j f t1 t2 t3 W S C m (HP r) b d) =
      scopeIter (evalCode Tryz.prog hint52 (fun f => (hints f).own) (evalCall Tryz.prog hints (n + 3)) (n + 3) (scopeOf Tryz.f52.body)) has52 head52 K' (some 0) (tS j f t1' t2 t3 (W ++ (rdMany (rdRow s) m r).1) S C (m' : Nat) (HP (rdMany (rdRow s) m r).2) b d') ∧ (m' = 0 ∨ (rdMany (rdRow s) m r).2.e = true) ∧ (t1' = 3 ∨ t1' = 0 ∧ W ++ (rdMany (rdRow s) m r).1 = []) ∧ (d = true → d' = true)
  | 0, K, r, W, t1, d, hr, ht, hl, hm => ⟨K, 0, t1, d, Nat.le_refl _, by simp [rdMany], .inl rfl, by simpa [rdMany] using ht, id⟩
  | m + 1, K, ⟨p, true⟩, W, t1, d, hr, ht, hl, hm => ⟨K + (m + 1), m + 1, t1, d, by omega, by simp [rdMany], .inr (by simp [rdMany]), by simpa [rdMany] using ht, id⟩
  | m + 1, K, ⟨p, false⟩, W, t1, d, hr, ht, hl, hm => by
    have st := step0 n j s p HP h hr hs f t1 t2 t3 W S C ht (by omega) m b d (by omega)
    obtain ⟨K', m', t1', d', h1, h2, h3, h4, h5⟩ := loop0 t2 t3 S C m K (rdRow s ⟨p, false⟩).2 (W ++ [(rdRow s ⟨p, false⟩).1]) 3 true (rdRow_p hr) (.inl rfl) (by simp; omega) (by omega)
    have e : rdMany (rdRow s) (m + 1) ⟨p, false⟩ = ((rdRow s ⟨p, false⟩).1 :: (rdMany (rdRow s) m (rdRow s ⟨p, false⟩).2).1, (rdMany (rdRow s) m (rdRow s ⟨p, false⟩).2).2) := by
      rw [rdMany, if_neg (by simp)]
    rw [e]
    refine ⟨K', m', t1', d', h1, ?_, h3, ?_, fun _ => h5 rfl⟩
    · rw [show K + (m + 1) = K + m + 1 from rfl, show (((m + 1 : Nat)) : Int) = (m : Int) + 1 from rfl, scope_goK (head := head52) st has0, h2]
      simp
    · simpa using h4
theorem loop1 (t1 t3 : Nat) (W : List R3) (C : List Cl) : ∀ (m : Nat) (K : Nat) (r : Rd) (S : List R3) (t2 : Nat) (d : Bool), r.p ≤ s.length → (t2 = 3 ∨ t2 = 0 ∧ S = []) → S.length + m ≤ 256 → m ≤ 256 →
    ∃ K' m' t2' d', K ≤ K' ∧ scopeIter (evalCode Tryz.prog hint52 (fun f => (hints f).own) (evalCall Tryz.prog hints (n + 3)) (n + 3) (scopeOf Tryz.f52.body)) has52 head52 (K + m) (some 1) (tS j f t1 t2 t3 W S C m (HP r) b d) =
      scopeIter (evalCode Tryz.prog hint52 (fun f => (hints f).own) (evalCall Tryz.prog hints (n + 3)) (n + 3) (scopeOf Tryz.f52.body)) has52 head52 K' (some 1) (tS j f t1 t2' t3 W (S ++ (rdMany (rdRow s) m r).1) C (m' : Nat) (HP (rdMany (rdRow s) m r).2) b d') ∧ (m' = 0 ∨ (rdMany (rdRow s) m r).2.e = true) ∧ (t2' = 3 ∨ t2' = 0 ∧ S ++ (rdMany (rdRow s) m r).1 = []) ∧ (d = true → d' = true)
  | 0, K, r, S, t2, d, hr, ht, hl, hm => ⟨K, 0, t2, d, Nat.le_refl _, by simp [rdMany], .inl rfl, by simpa [rdMany] using ht, id⟩
  | m + 1, K, ⟨p, true⟩, S, t2, d, hr, ht, hl, hm => ⟨K + (m + 1), m + 1, t2, d, by omega, by simp [rdMany], .inr (by simp [rdMany]), by simpa [rdMany] using ht, id⟩
  | m + 1, K, ⟨p, false⟩, S, t2, d, hr, ht, hl, hm => by
    have st := step1 n j s p HP h hr hs f t1 t2 t3 W S C ht (by omega) m b d (by omega)
    obtain ⟨K', m', t2', d', h1, h2, h3, h4, h5⟩ := loop1 t1 t3 W C m K (rdRow s ⟨p, false⟩).2 (S ++ [(rdRow s ⟨p, false⟩).1]) 3 true (rdRow_p hr) (.inl rfl) (by simp; omega) (by omega)
    have e : rdMany (rdRow s) (m + 1) ⟨p, false⟩ = ((rdRow s ⟨p, false⟩).1 :: (rdMany (rdRow s) m (rdRow s ⟨p, false⟩).2).1, (rdMany (rdRow s) m (rdRow s ⟨p, false⟩).2).2) := by
      rw [rdMany, if_neg (by simp)]
    rw [e]
    refine ⟨K', m', t2', d', h1, ?_, h3, ?_, fun _ => h5 rfl⟩
    · rw [show K + (m + 1) = K + m + 1 from rfl, show (((m + 1 : Nat)) : Int) = (m : Int) + 1 from rfl, scope_goK (head := head52) st has1, h2]
      simp
    · simpa using h4
theorem loop2 (t1 t2 : Nat) (W S : List R3) : ∀ (m : Nat) (K : Nat) (r : Rd) (C : List Cl) (t3 : Nat) (d : Bool), r.p ≤ s.length → (t3 = 10 ∨ t3 = 0 ∧ C = []) → C.length + m ≤ 256 → m ≤ 256 →
    ∃ K' m' t3' d', K ≤ K' ∧ scopeIter (evalCode Tryz.prog hint52 (fun f => (hints f).own) (evalCall Tryz.prog hints (n + 3)) (n + 3) (scopeOf Tryz.f52.body)) has52 head52 (K + m) (some 2) (tS j f t1 t2 t3 W S C m (HP r) b d) =
      scopeIter (evalCode Tryz.prog hint52 (fun f => (hints f).own) (evalCall Tryz.prog hints (n + 3)) (n + 3) (scopeOf Tryz.f52.body)) has52 head52 K' (some 2) (tS j f t1 t2 t3' W S (C ++ (rdMany (rdCl s) m r).1) (m' : Nat) (HP (rdMany (rdCl s) m r).2) b d') ∧ (m' = 0 ∨ (rdMany (rdCl s) m r).2.e = true) ∧ (t3' = 10 ∨ t3' = 0 ∧ C ++ (rdMany (rdCl s) m r).1 = []) ∧ (d = true → d' = true)
  | 0, K, r, C, t3, d, hr, ht, hl, hm => ⟨K, 0, t3, d, Nat.le_refl _, by simp [rdMany], .inl rfl, by simpa [rdMany] using ht, id⟩
  | m + 1, K, ⟨p, true⟩, C, t3, d, hr, ht, hl, hm => ⟨K + (m + 1), m + 1, t3, d, by omega, by simp [rdMany], .inr (by simp [rdMany]), by simpa [rdMany] using ht, id⟩
  | m + 1, K, ⟨p, false⟩, C, t3, d, hr, ht, hl, hm => by
    have st := step2 n j s p HP h hr hs f t1 t2 t3 W S C ht (by omega) m b d (by omega)
    obtain ⟨K', m', t3', d', h1, h2, h3, h4, h5⟩ := loop2 t1 t2 W S m K (rdCl s ⟨p, false⟩).2 (C ++ [(rdCl s ⟨p, false⟩).1]) 10 true (rdCl_p hr) (.inl rfl) (by simp; omega) (by omega)
    have e : rdMany (rdCl s) (m + 1) ⟨p, false⟩ = ((rdCl s ⟨p, false⟩).1 :: (rdMany (rdCl s) m (rdCl s ⟨p, false⟩).2).1, (rdMany (rdCl s) m (rdCl s ⟨p, false⟩).2).2) := by
      rw [rdMany, if_neg (by simp)]
    rw [e]
    refine ⟨K', m', t3', d', h1, ?_, h3, ?_, fun _ => h5 rfl⟩
    · rw [show K + (m + 1) = K + m + 1 from rfl, show (((m + 1 : Nat)) : Int) = (m : Int) + 1 from rfl, scope_goK (head := head52) st has2, h2]
      simp
    · simpa using h4
end
end Go.Proofs.YtaiiboplopljoaaGreat
end

section
namespace Go.Proofs.YtaiiboplopljoaaGreat
open Go Go.PS
section
variable (n j : Nat) (s : List UInt8) (HP : Rd → Heap) (h : RdH s j HP) (hs : s.length ≤ 100000) (f : Int) (b : Nat)
include h hs
set_option maxHeartbeats 4000000 in
theorem exit0 (t1 t2 t3 : Nat) (W S : List R3) (C : List Cl) (m : Nat) (r : Rd) (d : Bool) (hr : r.p ≤ s.length) (hx : m = 0 ∨ r.e = true) :
    evalCode Tryz.prog hint52 (fun f => (hints f).own) (evalCall Tryz.prog hints (n + 3)) (n + 3) (scopeOf Tryz.f52.body) (some 0) (tS j f t1 t2 t3 W S C m (HP r) b d) =
    evalCode Tryz.prog hint52 (fun f => (hints f).own) (evalCall Tryz.prog hints (n + 3)) (n + 3) (scopeOf Tryz.f52.body) (some 1) (tS j f t1 t2 t3 W S C (rdByte s r).1 (HP (rdByte s r).2) b (d || !r.e)) := by
  have e1 := f84 n j s r HP h hr hs
  have e51 := f51 (n + 2) j s r HP h
  unfold tS
  simp only [Tryz.f52, scopeOf]
  generalize S.flatMap R3.cells = Y at *
  generalize C.flatMap Cl.cells = Z at *
  generalize W.flatMap R3.cells = X at *
  generalize W.length = Wl at *
  generalize S.length = Sl at *
  generalize C.length = Cll at *
  have same : r.e = true → HP (rdByte s r).2 = HP r := fun he => by
    have : (rdByte s r).2 = r := rdTake_same he
    rw [this]
  generalize HP (rdByte s r).2 = H' at *
  generalize (rdByte s r).1 = v at *
  obtain ⟨p, e⟩ := r
  cases e with
  | true =>
    have same := same rfl
    subst same
    by_cases c : m = 0
    · subst c
      simp [-getElem?_pos, List.getElem?_cons_zero, List.getElem?_cons_succ, e51, e1]
    · have c' : 0 < m := by omega
      simp [-getElem?_pos, List.getElem?_cons_zero, List.getElem?_cons_succ, e51, e1, c']
  | false =>
    rcases hx with rfl | hx
    · simp [-getElem?_pos, List.getElem?_cons_zero, List.getElem?_cons_succ, e51, e1]
    · cases hx
set_option maxHeartbeats 4000000 in
theorem exit1 (t1 t2 t3 : Nat) (W S : List R3) (C : List Cl) (m : Nat) (r : Rd) (d : Bool) (hr : r.p ≤ s.length) (hx : m = 0 ∨ r.e = true) :
    evalCode Tryz.prog hint52 (fun f => (hints f).own) (evalCall Tryz.prog hints (n + 3)) (n + 3) (scopeOf Tryz.f52.body) (some 1) (tS j f t1 t2 t3 W S C m (HP r) b d) =
    evalCode Tryz.prog hint52 (fun f => (hints f).own) (evalCall Tryz.prog hints (n + 3)) (n + 3) (scopeOf Tryz.f52.body) (some 2) (tS j f t1 t2 t3 W S C (rdByte s r).1 (HP (rdByte s r).2) b (d || !r.e)) := by
  have e1 := f84 n j s r HP h hr hs
  have e51 := f51 (n + 2) j s r HP h
  unfold tS
  simp only [Tryz.f52, scopeOf]
  generalize S.flatMap R3.cells = Y at *
  generalize C.flatMap Cl.cells = Z at *
  generalize W.flatMap R3.cells = X at *
  generalize W.length = Wl at *
  generalize S.length = Sl at *
  generalize C.length = Cll at *
  have same : r.e = true → HP (rdByte s r).2 = HP r := fun he => by
    have : (rdByte s r).2 = r := rdTake_same he
    rw [this]
  generalize HP (rdByte s r).2 = H' at *
  generalize (rdByte s r).1 = v at *
  obtain ⟨p, e⟩ := r
  cases e with
  | true =>
    have same := same rfl
    subst same
    by_cases c : m = 0
    · subst c
      simp [-getElem?_pos, List.getElem?_cons_zero, List.getElem?_cons_succ, e51, e1]
    · have c' : 0 < m := by omega
      simp [-getElem?_pos, List.getElem?_cons_zero, List.getElem?_cons_succ, e51, e1, c']
  | false =>
    rcases hx with rfl | hx
    · simp [-getElem?_pos, List.getElem?_cons_zero, List.getElem?_cons_succ, e51, e1]
    · cases hx
set_option maxHeartbeats 4000000 in
theorem exit2 (t1 t2 t3 : Nat) (W S : List R3) (C : List Cl) (m : Nat) (r : Rd) (d : Bool) (hr : r.p ≤ s.length) (hx : m = 0 ∨ r.e = true) :
    fin Tryz.prog [ResultVar.cell 2 31] (evalCode Tryz.prog hint52 (fun f => (hints f).own) (evalCall Tryz.prog hints (n + 3)) (n + 3) (scopeOf Tryz.f52.body) (some 2) (tS j f t1 t2 t3 W S C m (HP r) b d)) =
    some (.agg (Tab.mk f W S C).cells, HP r, d) := by
  have e51 := f51 (n + 2) j s r HP h
  unfold tS Tab.cells
  simp only
  simp only [Tryz.f52, scopeOf]
  generalize S.flatMap R3.cells = Y at *
  generalize C.flatMap Cl.cells = Z at *
  generalize W.flatMap R3.cells = X at *
  generalize W.length = Wl at *
  generalize S.length = Sl at *
  generalize C.length = Cll at *
  obtain ⟨p, e⟩ := r
  cases e with
  | true =>
    by_cases c : m = 0
    · subst c
      simp [-getElem?_pos, List.getElem?_cons_zero, List.getElem?_cons_succ, e51]
    · have c' : 0 < m := by omega
      simp [-getElem?_pos, List.getElem?_cons_zero, List.getElem?_cons_succ, e51, c']
  | false =>
    rcases hx with rfl | hx
    · simp [-getElem?_pos, List.getElem?_cons_zero, List.getElem?_cons_succ, e51]
    · cases hx
end
end Go.Proofs.YtaiiboplopljoaaGreat
end

section
namespace Go.PS
def firstOf (c : Option Code) : Code := match c with
  | some (.seq a (.scope _)) => a
  | _ => .skip
end Go.PS
namespace Go.Proofs.YtaiiboplopljoaaGreat
open Go Go.PS
theorem hasL : (fun l => hasLabel l (scopeOf Tryz.f52.body)) = has52 := by
  funext l
  simp [scopeOf, Tryz.f52, hasLabel, has52]
set_option maxHeartbeats 4000000 in
theorem f52 (n j : Nat) (s : List UInt8) (r : Rd) (HP : Rd → Heap) (h : RdH s j HP) (hr : r.p ≤ s.length) (hs : s.length ≤ 100000) : ∃ d, (r.e = false → d = true) ∧ evalCall Tryz.prog hints (n + 2000) 52 [.ptr (.heap j) none 0] (HP r) = some (.agg (rdTab s r).1.cells, HP (rdTab s r).2, d) := by
  have e83 := f83 (n + 1996) j s r HP h hr hs
  have p1 := rdTwo_p (r := r) hr
  have e84 := f84 (n + 1996) j s (rdTwo s r).2 HP h p1 hs
  rw [evalCall_at (body := .seq (firstOf Tryz.f52.body) (.scope (scopeOf Tryz.f52.body))) _ _ _ hh52 rfl Tryz.func52 rfl (Nat.le_of_ble_eq_true rfl) rfl]
  rw [xv_seq]
  have hlast : ∀ B : Code, seqK Tryz.prog hint52 (fun f => (hints f).own) (evalCall Tryz.prog hints (n + 1999)) (n + 1999) (evalCode Tryz.prog hint52 (fun f => (hints f).own) (evalCall Tryz.prog hints (n + 1999)) (n + 1999) (firstOf Tryz.f52.body) none { fr := ([PV.ptr (.heap j) none 0].zipIdx.map fun (v, i) => (i, v)), hp := HP r, base := (HP r).length, dirty := false }) (.scope B) =
      scopeIter (evalCode Tryz.prog hint52 (fun f => (hints f).own) (evalCall Tryz.prog hints (n + 1999)) (n + 1999) B) (fun l => hasLabel l B) head52 (n + 1999) none { fr := [(0, .ptr (.heap j) none 0), (2, .box [.int .i64 0, .sl (.mu 0) 0 [], .sl (.mu 0) 0 [], .sl (.mu 0) 0 []])], hp := HP r, base := (HP r).length, dirty := false } := fun B => by
    simp [firstOf, Tryz.f52]
  rw [hlast, hasL]
  clear hlast
  obtain ⟨b, hb⟩ : ∃ b, b = (HP r).length := ⟨_, rfl⟩
  rw [← hb]
  have same1 : r.e = true → HP (rdTwo s r).2 = HP r := fun he => by
    have : (rdTwo s r).2 = r := rdTake_same he
    rw [this]
  have same2 : (rdTwo s r).2.e = true → HP (rdByte s (rdTwo s r).2).2 = HP (rdTwo s r).2 := fun he => by
    have : (rdByte s (rdTwo s r).2).2 = (rdTwo s r).2 := rdTake_same he
    rw [this]
  have hst : ∃ d, (r.e = false → d = true) ∧ evalCode Tryz.prog hint52 (fun f => (hints f).own) (evalCall Tryz.prog hints (n + 1999)) (n + 1999) (scopeOf Tryz.f52.body) none { fr := [(0, .ptr (.heap j) none 0), (2, .box [.int .i64 0, .sl (.mu 0) 0 [], .sl (.mu 0) 0 [], .sl (.mu 0) 0 []])], hp := HP r, base := b, dirty := false } =
      evalCode Tryz.prog hint52 (fun f => (hints f).own) (evalCall Tryz.prog hints (n + 1999)) (n + 1999) (scopeOf Tryz.f52.body) (some 0) (tS j (rdTwo s r).1 0 0 0 [] [] [] (rdByte s (rdTwo s r).2).1 (HP (rdByte s (rdTwo s r).2).2) b d) := by
    refine ⟨!r.e || !(rdTwo s r).2.e, fun h => (by rw [h]; rfl), ?_⟩
    unfold tS
    simp only [Tryz.f52, scopeOf]
    clear same1 same2 hb
    obtain ⟨p, e⟩ := r
    cases e with
    | true =>
      simp only [rdTwo_err, rdByte_err] at *
      simp [-getElem?_pos, List.getElem?_cons_zero, List.getElem?_cons_succ, e83, e84]
    | false =>
      generalize rdTwo s ⟨p, false⟩ = x1 at *
      obtain ⟨v1, ⟨p1', b1⟩⟩ := x1
      simp only at *
      cases b1 with
      | true =>
        simp only [rdByte_err] at *
        simp [-getElem?_pos, List.getElem?_cons_zero, List.getElem?_cons_succ, e83, e84]
      | false =>
        generalize rdByte s ⟨p1', false⟩ = x2 at *
        obtain ⟨v2, r2⟩ := x2
        simp only at *
        simp [-getElem?_pos, List.getElem?_cons_zero, List.getElem?_cons_succ, e83, e84]
  obtain ⟨d0, hd0, hst⟩ := hst
  have hfu : n + 1999 = (n + 1998) + 1 := rfl
  have hs0 := scope_start (f := evalCode Tryz.prog hint52 (fun f => (hints f).own) (evalCall Tryz.prog hints (n + 1999)) (n + 1999) (scopeOf Tryz.f52.body)) (has := has52) (head := head52) (k := n + 1998) 0 hst
  rw [hs0]
  clear hs0 hst e83 e84 same1 same2
  unfold rdTab
  simp only
  generalize (rdTwo s r).1 = f at *
  generalize (rdTwo s r).2 = r1 at *
  -- the windows
  obtain ⟨hv1, hv2⟩ := rdByte_b s r1
  have p2 := rdByte_p (r := r1) p1
  obtain ⟨m, hm⟩ : ∃ m : Nat, (rdByte s r1).1 = (m : Int) := ⟨(rdByte s r1).1.toNat, by omega⟩
  rw [hm] at hv2 ⊢
  rw [Int.toNat_natCast]
  generalize (rdByte s r1).2 = r2 at *
  obtain ⟨K1, m1, t1, d1, hK1, hl1, hx1, ht1, hd1⟩ := loop0 (n + 1996) j s HP h hs f b 0 0 [] [] m (n + 1999 - m) r2 [] 0 d0 p2 (.inr ⟨rfl, rfl⟩) (by simp; omega) (by omega)
  rw [show n + 1999 - m + m = n + 1998 + 1 by omega, show n + 1996 + 3 = n + 1999 from rfl, List.nil_append] at hl1
  rw [hl1]
  clear hl1
  have p3 := rdMany_p (f := rdRow s) (fun r => rdRow_p) m r2 p2
  generalize rdMany (rdRow s) m r2 = x at *
  obtain ⟨W, r3⟩ := x
  simp only at *
  obtain ⟨K1', rfl⟩ : ∃ k, K1 = k + 1 := ⟨K1 - 1, by omega⟩
  have ex := exit0 (n + 1996) j s HP h hs f b t1 0 0 W [] [] m1 r3 d1 p3 hx1
  rw [show n + 1996 + 3 = n + 1999 from rfl] at ex
  rw [scope_same ex]
  clear ex
  -- the slots
  obtain ⟨hv3, hv4⟩ := rdByte_b s r3
  have p4 := rdByte_p (r := r3) p3
  obtain ⟨q, hq⟩ : ∃ q : Nat, (rdByte s r3).1 = (q : Int) := ⟨(rdByte s r3).1.toNat, by omega⟩
  rw [hq] at hv4 ⊢
  rw [Int.toNat_natCast]
  generalize (rdByte s r3).2 = r4 at *
  obtain ⟨d2, hd12⟩ : ∃ d2, d2 = (d1 || !r3.e) := ⟨_, rfl⟩
  rw [← hd12]
  obtain ⟨K2, m2, t2, d3, hK2, hl2, hx2, ht2, hd2⟩ := loop1 (n + 1996) j s HP h hs f b t1 0 W [] q (K1' + 1 - q) r4 [] 0 d2 p4 (.inr ⟨rfl, rfl⟩) (by simp; omega) (by omega)
  rw [show K1' + 1 - q + q = K1' + 1 by omega, show n + 1996 + 3 = n + 1999 from rfl, List.nil_append] at hl2
  rw [hl2]
  clear hl2
  have p5 := rdMany_p (f := rdRow s) (fun r => rdRow_p) q r4 p4
  generalize rdMany (rdRow s) q r4 = x at *
  obtain ⟨S, r5⟩ := x
  simp only at *
  obtain ⟨K2', rfl⟩ : ∃ k, K2 = k + 1 := ⟨K2 - 1, by omega⟩
  have ex := exit1 (n + 1996) j s HP h hs f b t1 t2 0 W S [] m2 r5 d3 p5 hx2
  rw [show n + 1996 + 3 = n + 1999 from rfl] at ex
  rw [scope_same ex]
  clear ex
  -- the clients
  obtain ⟨hv5, hv6⟩ := rdByte_b s r5
  have p6 := rdByte_p (r := r5) p5
  obtain ⟨u, hu⟩ : ∃ u : Nat, (rdByte s r5).1 = (u : Int) := ⟨(rdByte s r5).1.toNat, by omega⟩
  rw [hu] at hv6 ⊢
  rw [Int.toNat_natCast]
  generalize (rdByte s r5).2 = r6 at *
  obtain ⟨d4, hd34⟩ : ∃ d4, d4 = (d3 || !r5.e) := ⟨_, rfl⟩
  rw [← hd34]
  obtain ⟨K3, m3, t3, d5, hK3, hl3, hx3, ht3, hd3⟩ := loop2 (n + 1996) j s HP h hs f b t1 t2 W S u (K2' + 1 - u) r6 [] 0 d4 p6 (.inr ⟨rfl, rfl⟩) (by simp; omega) (by omega)
  rw [show K2' + 1 - u + u = K2' + 1 by omega, show n + 1996 + 3 = n + 1999 from rfl, List.nil_append] at hl3
  rw [hl3]
  clear hl3
  have p7 := rdMany_p (f := rdCl s) (fun r => rdCl_p) u r6 p6
  generalize rdMany (rdCl s) u r6 = x at *
  obtain ⟨C, r7⟩ := x
  simp only at *
  obtain ⟨K3', rfl⟩ : ∃ k, K3 = k + 1 := ⟨K3 - 1, by omega⟩
  have ex := exit2 (n + 1996) j s HP h hs f b t1 t2 t3 W S C m3 r7 d5 p7 hx3
  rw [show n + 1996 + 3 = n + 1999 from rfl] at ex
  have hend : scopeIter (evalCode Tryz.prog hint52 (fun f => (hints f).own) (evalCall Tryz.prog hints (n + 1999)) (n + 1999) (scopeOf Tryz.f52.body)) has52 head52 (K3' + 1) (some 2) (tS j f t1 t2 t3 W S C m3 (HP r7) b d5) =
      evalCode Tryz.prog hint52 (fun f => (hints f).own) (evalCall Tryz.prog hints (n + 1999)) (n + 1999) (scopeOf Tryz.f52.body) (some 2) (tS j f t1 t2 t3 W S C m3 (HP r7) b d5) := by
    generalize evalCode Tryz.prog hint52 (fun f => (hints f).own) (evalCall Tryz.prog hints (n + 1999)) (n + 1999) (scopeOf Tryz.f52.body) = F at *
    rw [scopeIter]
    split
    · rename_i l st hg
      rw [hg] at ex
      cases ex
    · rfl
  have hres : Tryz.f52.results.toList = [ResultVar.cell 2 31] := rfl
  rw [hend, hres, ex]
  exact ⟨d5, fun h => hd3 (by rw [hd34, hd2 (by rw [hd12, hd1 (hd0 h)]; rfl)]; rfl), rfl⟩
end Go.Proofs.YtaiiboplopljoaaGreat
end

section
namespace Go.Proofs.YtaiiboplopljoaaGreat
open Go Go.PS
theorem rdH_new (s : List UInt8) (hp : Heap) : RdH s hp.length fun r => hp ++ [.cells (rdC s r)] :=
  ⟨fun r => by simp, fun r x => by simp⟩
theorem f49 (n : Nat) (s : List UInt8) (hp : Heap) : evalCall Tryz.prog hints (n + 1) 49 [.str s] hp = some (.ptr (.heap hp.length) none 0, hp ++ [.cells (rdC s ⟨0, false⟩)], false) := by
  rw [evalCall_at _ _ _ hh49 rfl Tryz.func49 rfl (Nat.le_of_ble_eq_true rfl) rfl]
  simp [rdC]
/-- The tables of an image, or what is wrong with it. -/
def parseI (s : List UInt8) : Int × Tab := if (openC s).1 = 0 then parseT (openC s).2 else ((openC s).1, tab0)
set_option maxHeartbeats 4000000 in
theorem f29 (n : Nat) (s : List UInt8) (hp : Heap) (hl : s.length ≤ 1000) : ∃ H d, (d = false → H = hp) ∧ evalCall Tryz.prog hints (n + 2010) 29 [.str s] hp = some (.tup [.agg (parseI s).2.cells, .int .i64 (parseI s).1], H, d) := by
  have e48 := f48 (n + 2005) s hp (by omega) (by omega) (by omega)
  have hol : (openC s).2.length ≤ 1000 := by
    unfold openC
    split
    · simp
    · split
      · simp only [List.length_take]; omega
      · simp
  obtain ⟨HP, hHP⟩ : ∃ HP : Rd → Heap, HP = fun r => hp ++ [.cells (rdC (openC s).2 r)] := ⟨_, rfl⟩
  have h : RdH (openC s).2 hp.length HP := by rw [hHP]; exact rdH_new _ _
  have e49 := f49 (n + 2008) (openC s).2 hp
  have hH0 : hp ++ [.cells (rdC (openC s).2 ⟨0, false⟩)] = HP ⟨0, false⟩ := by rw [hHP]
  rw [hH0] at e49
  have e50 := f50 (n + 2006) hp.length 2 (openC s).2 ⟨0, false⟩ HP h (Nat.zero_le _) (by omega) (by omega)
  rw [show ((2 : Nat) : Int) = 2 from rfl] at e50
  have e51 := fun r => f51 (n + 2008) hp.length (openC s).2 r HP h
  have p1 : (rdTake (openC s).2 ⟨0, false⟩ 2).2.p ≤ (openC s).2.length := rdTake_p (Nat.zero_le _)
  obtain ⟨d1, hd1, e52⟩ := f52 (n + 9) hp.length (openC s).2 (rdTake (openC s).2 ⟨0, false⟩ 2).2 HP h p1 (by omega)
  have e53 := fun p hp' => f53 (n + 2008) hp.length (openC s).2 p HP h hp' (by omega)
  have p2 : (rdTab (openC s).2 (rdTake (openC s).2 ⟨0, false⟩ 2).2).2.p ≤ (openC s).2.length := by
    unfold rdTab
    exact rdMany_p (fun r => rdCl_p) _ _ (rdByte_p (rdMany_p (fun r => rdRow_p) _ _ (rdByte_p (rdMany_p (fun r => rdRow_p) _ _ (rdByte_p (rdTwo_p p1))))))
  have hE : (rdTake (openC s).2 ⟨0, false⟩ 2).2.e = true → rdTab (openC s).2 (rdTake (openC s).2 ⟨0, false⟩ 2).2 = (tab0, (rdTake (openC s).2 ⟨0, false⟩ 2).2) := fun he => by
    generalize (rdTake (openC s).2 ⟨0, false⟩ 2).2 = r at *
    obtain ⟨p, e⟩ := r
    simp only at he; subst he
    unfold rdTab
    simp only [rdTwo_err, rdByte_err, rdMany_err]
    rfl
  have hP := progT_eq (openC s).2
  unfold parseI
  rw [← hP]
  clear hP hHP hH0 h
  unfold progT
  rw [evalCall_at _ _ _ hh29 rfl Tryz.func29 rfl (Nat.le_of_ble_eq_true rfl) rfl]
  generalize hp.length = j at *
  generalize openC s = oc at *
  obtain ⟨oe, t⟩ := oc
  simp only at *
  generalize rdTab t (rdTake t ⟨0, false⟩ 2).2 = x at *
  generalize rdTake t ⟨0, false⟩ 2 = hd at *
  obtain ⟨h1, r1⟩ := hd
  obtain ⟨tb, ⟨p, e⟩⟩ := x
  simp only at *
  by_cases c0 : oe = 0
  · rw [if_pos c0]
    subst c0
    obtain ⟨rp, re⟩ := r1
    cases re with
    | true =>
      have hE := hE rfl
      cases hE
      refine ⟨HP ⟨p, true⟩, true, (fun h => by cases h), ?_⟩
      have e51 := e51 ⟨p, true⟩
      simp only [cond_true] at e51
      cases d1 <;> simp [-getElem?_pos, List.getElem?_cons_zero, List.getElem?_cons_succ, tab0, Tab.cells, e48, e49, e50, e51, e52, tab0]
    | false =>
      have hd1 := hd1 rfl
      subst hd1
      have ea := e51 ⟨rp, false⟩
      have eb := e51 ⟨p, e⟩
      simp only [cond_false] at ea eb
      by_cases c1 : h1 = [67, 1]
      · subst c1
        obtain ⟨tf, tW, tS', tC⟩ := tb
        simp only [Tab.cells] at *
        generalize hX : tW.flatMap R3.cells = X at *
        generalize hY : tS'.flatMap R3.cells = Y at *
        generalize hZ : tC.flatMap Cl.cells = Z at *
        generalize hlX : tW.length = lX at *
        generalize hlY : tS'.length = lY at *
        generalize hlZ : tC.length = lZ at *
        cases e with
        | true =>
          refine ⟨HP ⟨p, true⟩, true, (fun h => by cases h), ?_⟩
          simp only [cond_true] at eb
          simp [-getElem?_pos, List.getElem?_cons_zero, List.getElem?_cons_succ, tab0, Tab.cells, e48, e49, e50, ea, eb, e52, bytesOf]
        | false =>
          have e53 := e53 p p2
          simp only [cond_false] at eb
          by_cases c2 : 0 < t.length - p
          · refine ⟨HP ⟨p, false⟩, true, (fun h => by cases h), ?_⟩
            simp [-getElem?_pos, List.getElem?_cons_zero, List.getElem?_cons_succ, tab0, Tab.cells, e48, e49, e50, ea, eb, e52, e53, bytesOf, c2, hX, hY, hZ, hlX, hlY, hlZ]
          · refine ⟨HP ⟨p, false⟩, true, (fun h => by cases h), ?_⟩
            simp [-getElem?_pos, List.getElem?_cons_zero, List.getElem?_cons_succ, tab0, Tab.cells, e48, e49, e50, ea, eb, e52, e53, bytesOf, c2, hX, hY, hZ, hlX, hlY, hlZ]
      · have c1' : (h1 == [67, 1]) = false := by simpa using c1
        refine ⟨HP ⟨rp, false⟩, true, (fun h => by cases h), ?_⟩
        simp [-getElem?_pos, List.getElem?_cons_zero, List.getElem?_cons_succ, tab0, Tab.cells, e48, e49, e50, ea, bytesOf, c1, c1']
  · rw [if_neg c0]
    have c0' : (oe != 0) = true := by simpa using c0
    refine ⟨hp, false, fun _ => rfl, ?_⟩
    simp [-getElem?_pos, List.getElem?_cons_zero, List.getElem?_cons_succ, tab0, Tab.cells, e48, c0', c0]
end Go.Proofs.YtaiiboplopljoaaGreat
end
