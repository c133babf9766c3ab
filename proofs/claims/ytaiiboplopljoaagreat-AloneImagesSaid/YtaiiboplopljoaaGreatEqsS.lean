/-
  What functions of this program compute, as equations about the evaluator. No condition but those stated.
-/
import Derived.Test.YtaiiboplopljoaaGreatEqsA
import Derived.Test.YtaiiboplopljoaaGreatEqsR

set_option linter.all false
section
namespace Go.Proofs.YtaiiboplopljoaaGreat
open Go Go.PS
/-- A reader of bytes: where it stands, and whether they were at an end. -/
structure Rd where
  p : Nat
  e : Bool
def rdTake (s : List UInt8) (r : Rd) (n : Nat) : List UInt8 × Rd := if r.e = true then ([], r) else if s.length - r.p < n then ([], ⟨r.p, true⟩) else ((s.drop r.p).take n, ⟨r.p + n, false⟩)
def one (l : List UInt8) : Int := match l with | a :: _ => a.toNat | _ => 0
def two (l : List UInt8) : Int := match l with | a :: b :: _ => (a.toNat : Int) + 256 * b.toNat | _ => 0
def rdByte (s : List UInt8) (r : Rd) : Int × Rd := (one (rdTake s r 1).1, (rdTake s r 1).2)
def rdTwo (s : List UInt8) (r : Rd) : Int × Rd := (two (rdTake s r 2).1, (rdTake s r 2).2)
def rdRow (s : List UInt8) (r : Rd) : R3 × Rd :=
  let a := rdByte s r; let b := rdTwo s a.2; let c := rdTwo s b.2
  (⟨a.1, b.1, c.1⟩, c.2)
def rdCl (s : List UInt8) (r : Rd) : Cl × Rd :=
  let a := rdTwo s r; let b := rdTwo s a.2; let c := rdByte s b.2; let d := rdTwo s c.2; let e := rdByte s d.2
  let f := rdByte s e.2; let g := rdByte s f.2; let h := rdByte s g.2; let i := rdTwo s h.2; let j := rdByte s i.2
  (⟨a.1, b.1, c.1, d.1, e.1, f.1, g.1, h.1, i.1, j.1⟩, j.2)
/-- Rows, as long as there are some to come and no end was met. -/
def rdMany {α : Type} (f : Rd → α × Rd) : Nat → Rd → List α × Rd
  | 0, r => ([], r)
  | n + 1, r => if r.e = true then ([], r) else let x := f r; let y := rdMany f n x.2; (x.1 :: y.1, y.2)
def rdTab (s : List UInt8) (r : Rd) : Tab × Rd :=
  let f := rdTwo s r
  let n := rdByte s f.2; let W := rdMany (rdRow s) n.1.toNat n.2
  let m := rdByte s W.2; let S := rdMany (rdRow s) m.1.toNat m.2
  let k := rdByte s S.2; let C := rdMany (rdCl s) k.1.toNat k.2
  (⟨f.1, W.1, S.1, C.1⟩, C.2)
/-- The document's rows. -/
def rows5 : Nat → List UInt8 → Option (List R3 × List UInt8)
  | 0, l => some ([], l)
  | n + 1, a :: b :: c :: d :: e :: l => (rows5 n l).map fun x => (⟨a.toNat, (b.toNat : Int) + 256 * c.toNat, (d.toNat : Int) + 256 * e.toNat⟩ :: x.1, x.2)
  | _ + 1, _ => none
def clB : List UInt8 → Option (Cl × List UInt8)
  | a :: a' :: b :: b' :: c :: d :: d' :: e :: f :: g :: h :: i :: i' :: j :: l => some (⟨(a.toNat : Int) + 256 * a'.toNat, (b.toNat : Int) + 256 * b'.toNat, c.toNat, (d.toNat : Int) + 256 * d'.toNat, e.toNat, f.toNat, g.toNat, h.toNat, (i.toNat : Int) + 256 * i'.toNat, j.toNat⟩, l)
  | _ => none
def rows14 : Nat → List UInt8 → Option (List Cl × List UInt8)
  | 0, l => some ([], l)
  | n + 1, l => match clB l with
    | some (x, l) => (rows14 n l).map fun y => (x :: y.1, y.2)
    | none => none
theorem rdTake_ok {s : List UInt8} {p n : Nat} {l1 l2 : List UInt8} (h : s.drop p = l1 ++ l2) (hn : l1.length = n) (h0 : p ≤ s.length) : rdTake s ⟨p, false⟩ n = (l1, ⟨p + n, false⟩) := by
  have hl := congrArg List.length h
  rw [List.length_drop, List.length_append] at hl
  unfold rdTake
  rw [if_neg (by simp), if_neg (by simp only; omega), h, List.take_left' hn]
theorem rdTake_no {s : List UInt8} {p n : Nat} (h : (s.drop p).length < n) : rdTake s ⟨p, false⟩ n = ([], ⟨p, true⟩) := by
  rw [List.length_drop] at h
  unfold rdTake
  rw [if_neg (by simp), if_pos (by simpa using h)]
theorem rdTake_err (s : List UInt8) (p n : Nat) : rdTake s ⟨p, true⟩ n = ([], ⟨p, true⟩) := by unfold rdTake; rw [if_pos rfl]
theorem rdByte_ok {s : List UInt8} {p : Nat} {a : UInt8} {l : List UInt8} (h : s.drop p = a :: l) : rdByte s ⟨p, false⟩ = ((a.toNat : Int), ⟨p + 1, false⟩) ∧ s.drop (p + 1) = l := by
  have h0 : p ≤ s.length := by
    rcases Nat.lt_or_ge s.length p with c | c
    · rw [List.drop_eq_nil_of_le (by omega)] at h; cases h
    · exact c
  refine ⟨?_, ?_⟩
  · unfold rdByte
    rw [rdTake_ok (n := 1) (l1 := [a]) (l2 := l) h rfl h0]; rfl
  · rw [← List.drop_drop, h]; rfl
theorem rdTwo_ok {s : List UInt8} {p : Nat} {a b : UInt8} {l : List UInt8} (h : s.drop p = a :: b :: l) : rdTwo s ⟨p, false⟩ = ((a.toNat : Int) + 256 * b.toNat, ⟨p + 2, false⟩) ∧ s.drop (p + 2) = l := by
  have h0 : p ≤ s.length := by
    rcases Nat.lt_or_ge s.length p with c | c
    · rw [List.drop_eq_nil_of_le (by omega)] at h; cases h
    · exact c
  refine ⟨?_, ?_⟩
  · unfold rdTwo
    rw [rdTake_ok (n := 2) (l1 := [a, b]) (l2 := l) h rfl h0]; rfl
  · rw [← List.drop_drop, h]; rfl
theorem rdByte_no {s : List UInt8} {p : Nat} (h : (s.drop p).length < 1) : rdByte s ⟨p, false⟩ = (0, ⟨p, true⟩) := by unfold rdByte; rw [rdTake_no h]; rfl
theorem rdTwo_no {s : List UInt8} {p : Nat} (h : (s.drop p).length < 2) : rdTwo s ⟨p, false⟩ = (0, ⟨p, true⟩) := by unfold rdTwo; rw [rdTake_no h]; rfl
theorem rdByte_err (s : List UInt8) (p : Nat) : rdByte s ⟨p, true⟩ = (0, ⟨p, true⟩) := by unfold rdByte; rw [rdTake_err]; rfl
theorem rdTwo_err (s : List UInt8) (p : Nat) : rdTwo s ⟨p, true⟩ = (0, ⟨p, true⟩) := by unfold rdTwo; rw [rdTake_err]; rfl
theorem rdRow_ok {s : List UInt8} {p : Nat} {a b c d e : UInt8} {l : List UInt8} (h : s.drop p = a :: b :: c :: d :: e :: l) : rdRow s ⟨p, false⟩ = (⟨a.toNat, (b.toNat : Int) + 256 * c.toNat, (d.toNat : Int) + 256 * e.toNat⟩, ⟨p + 5, false⟩) ∧ s.drop (p + 5) = l := by
  obtain ⟨e1, h1⟩ := rdByte_ok h
  obtain ⟨e2, h2⟩ := rdTwo_ok h1
  obtain ⟨e3, h3⟩ := rdTwo_ok h2
  refine ⟨?_, h3⟩
  unfold rdRow
  simp only [e1, e2, e3]
theorem rdRow_no {s : List UInt8} {p : Nat} (h : (s.drop p).length < 5) : (rdRow s ⟨p, false⟩).2.e = true := by
  unfold rdRow
  match hd : s.drop p with
  | [] => simp only [rdByte_no (s := s) (p := p) (by rw [hd]; simp), rdTwo_err]
  | [a] =>
    obtain ⟨e1, h1⟩ := rdByte_ok hd
    simp only [e1, rdTwo_no (s := s) (p := p + 1) (by rw [h1]; simp), rdTwo_err]
  | [a, b] =>
    obtain ⟨e1, h1⟩ := rdByte_ok hd
    simp only [e1, rdTwo_no (s := s) (p := p + 1) (by rw [h1]; simp), rdTwo_err]
  | [a, b, c] =>
    obtain ⟨e1, h1⟩ := rdByte_ok hd
    obtain ⟨e2, h2⟩ := rdTwo_ok h1
    simp only [e1, e2, rdTwo_no (s := s) (p := p + 1 + 2) (by rw [h2]; simp)]
  | [a, b, c, d] =>
    obtain ⟨e1, h1⟩ := rdByte_ok hd
    obtain ⟨e2, h2⟩ := rdTwo_ok h1
    simp only [e1, e2, rdTwo_no (s := s) (p := p + 1 + 2) (by rw [h2]; simp)]
  | _ :: _ :: _ :: _ :: _ :: _ => rw [hd] at h; simp at h; omega
theorem rdMany_err {α : Type} (f : Rd → α × Rd) (n p : Nat) : rdMany f n ⟨p, true⟩ = ([], ⟨p, true⟩) := by
  cases n <;> rfl
theorem rdMany5 (s : List UInt8) : ∀ (n p : Nat), p ≤ s.length → match rows5 n (s.drop p) with
    | some (W, l) => rdMany (rdRow s) n ⟨p, false⟩ = (W, ⟨p + 5 * n, false⟩) ∧ s.drop (p + 5 * n) = l ∧ p + 5 * n ≤ s.length ∧ W.length = n
    | none => (rdMany (rdRow s) n ⟨p, false⟩).2.e = true
  | 0, p, h => by simp [rows5, rdMany, h]
  | n + 1, p, h => by
    by_cases hl : (s.drop p).length < 5
    · have h1 : rows5 (n + 1) (s.drop p) = none := by
        match hd : s.drop p with
        | [] => rfl
        | [_] => rfl
        | [_, _] => rfl
        | [_, _, _] => rfl
        | [_, _, _, _] => rfl
        | _ :: _ :: _ :: _ :: _ :: _ => rw [hd] at hl; simp at hl; omega
      rw [h1]
      have h2 := rdRow_no hl
      unfold rdMany
      rw [if_neg (by simp)]
      generalize rdRow s ⟨p, false⟩ = x at *
      obtain ⟨x1, ⟨q, e⟩⟩ := x
      simp only at h2
      subst h2
      simp only [rdMany_err]
    · match hd : s.drop p with
      | [] => rw [hd] at hl; simp at hl
      | [_] => rw [hd] at hl; simp at hl
      | [_, _] => rw [hd] at hl; simp at hl
      | [_, _, _] => rw [hd] at hl; simp at hl
      | [_, _, _, _] => rw [hd] at hl; simp at hl
      | a :: b :: c :: d :: e :: l =>
        obtain ⟨e1, h1⟩ := rdRow_ok hd
        have hp : p + 5 ≤ s.length := by
          have := congrArg List.length hd
          rw [List.length_drop] at this
          simp at this; omega
        have ih := rdMany5 s n (p + 5) hp
        rw [h1] at ih
        unfold rows5 rdMany
        rw [if_neg (by simp), e1]
        cases hr : rows5 n l with
        | none => rw [hr] at ih; exact ih
        | some y =>
          rw [hr] at ih
          obtain ⟨W, l'⟩ := y
          obtain ⟨i1, i2, i3, i4⟩ := ih
          simp only [Option.map_some]
          refine ⟨?_, ?_, by omega, by simp [i4]⟩
          · simp only [i1]
            congr 1
            congr 1
            omega
          · rw [← i2]; congr 1; omega
theorem rdTake_inv {s : List UInt8} {r : Rd} {n : Nat} (h : (rdTake s r n).2.e = false) : r.e = false ∧ n ≤ s.length - r.p ∧ (rdTake s r n).2.p = r.p + n := by
  unfold rdTake at *
  split at h
  · rename_i hr; simp only [hr] at h; cases h
  · rename_i hr
    rw [if_neg hr]
    split at h
    · cases h
    · rename_i hl
      rw [if_neg hl]
      exact ⟨by simpa using hr, by omega, rfl⟩
theorem rdCl_inv {s : List UInt8} {r : Rd} (h : (rdCl s r).2.e = false) : r.e = false ∧ 14 ≤ s.length - r.p := by
  unfold rdCl rdByte rdTwo at h
  simp only at h
  obtain ⟨h, n9, p9⟩ := rdTake_inv h
  obtain ⟨h, n8, p8⟩ := rdTake_inv h
  obtain ⟨h, n7, p7⟩ := rdTake_inv h
  obtain ⟨h, n6, p6⟩ := rdTake_inv h
  obtain ⟨h, n5, p5⟩ := rdTake_inv h
  obtain ⟨h, n4, p4⟩ := rdTake_inv h
  obtain ⟨h, n3, p3⟩ := rdTake_inv h
  obtain ⟨h, n2, p2⟩ := rdTake_inv h
  obtain ⟨h, n1, p1⟩ := rdTake_inv h
  obtain ⟨h, n0, p0⟩ := rdTake_inv h
  exact ⟨h, by omega⟩
theorem rdCl_no {s : List UInt8} {p : Nat} (h : (s.drop p).length < 14) : (rdCl s ⟨p, false⟩).2.e = true := by
  cases hc : (rdCl s ⟨p, false⟩).2.e with
  | true => rfl
  | false =>
    have := (rdCl_inv hc).2
    rw [List.length_drop] at h
    simp only at this
    omega
theorem rdCl_ok {s : List UInt8} {p : Nat} {c : Cl} {l : List UInt8} (h : clB (s.drop p) = some (c, l)) : rdCl s ⟨p, false⟩ = (c, ⟨p + 14, false⟩) ∧ s.drop (p + 14) = l ∧ p + 14 ≤ s.length := by
  unfold clB at h
  split at h
  · rename_i a a' b b' c d d' e f g hh i i' j l' hd
    cases h
    obtain ⟨e1, h1⟩ := rdTwo_ok hd
    obtain ⟨e2, h2⟩ := rdTwo_ok h1
    obtain ⟨e3, h3⟩ := rdByte_ok h2
    obtain ⟨e4, h4⟩ := rdTwo_ok h3
    obtain ⟨e5, h5⟩ := rdByte_ok h4
    obtain ⟨e6, h6⟩ := rdByte_ok h5
    obtain ⟨e7, h7⟩ := rdByte_ok h6
    obtain ⟨e8, h8⟩ := rdByte_ok h7
    obtain ⟨e9, h9⟩ := rdTwo_ok h8
    obtain ⟨e10, h10⟩ := rdByte_ok h9
    refine ⟨?_, h10, ?_⟩
    · unfold rdCl
      simp only [e1, e2, e3, e4, e5, e6, e7, e8, e9, e10]
    · have := congrArg List.length hd
      rw [List.length_drop] at this
      simp at this; omega
  · cases h
theorem clB_len {l : List UInt8} (h : clB l = none) : l.length < 14 := by
  unfold clB at h
  split at h
  · cases h
  · rename_i hn
    rcases Nat.lt_or_ge l.length 14 with c | c
    · exact c
    · match l, c with
      | a :: a' :: b :: b' :: c :: d :: d' :: e :: f :: g :: h :: i :: i' :: j :: l, _ => exact (hn _ _ _ _ _ _ _ _ _ _ _ _ _ _ _ rfl).elim
theorem rdMany14 (s : List UInt8) : ∀ (n p : Nat), p ≤ s.length → match rows14 n (s.drop p) with
    | some (W, l) => rdMany (rdCl s) n ⟨p, false⟩ = (W, ⟨p + 14 * n, false⟩) ∧ s.drop (p + 14 * n) = l ∧ p + 14 * n ≤ s.length ∧ W.length = n
    | none => (rdMany (rdCl s) n ⟨p, false⟩).2.e = true
  | 0, p, h => by simp [rows14, rdMany, h]
  | n + 1, p, h => by
    unfold rows14 rdMany
    rw [if_neg (by simp)]
    cases hc : clB (s.drop p) with
    | none =>
      have h2 := rdCl_no (clB_len hc)
      generalize rdCl s ⟨p, false⟩ = x at *
      obtain ⟨x1, ⟨q, e⟩⟩ := x
      simp only at h2
      subst h2
      simp only [rdMany_err]
    | some y =>
      obtain ⟨c, l⟩ := y
      obtain ⟨e1, h1, hp⟩ := rdCl_ok hc
      have ih := rdMany14 s n (p + 14) hp
      rw [h1] at ih
      simp only [e1]
      cases hr : rows14 n l with
      | none => rw [hr] at ih; exact ih
      | some y =>
        rw [hr] at ih
        obtain ⟨W, l'⟩ := y
        obtain ⟨i1, i2, i3, i4⟩ := ih
        simp only [Option.map_some]
        refine ⟨?_, ?_, by omega, by simp [i4]⟩
        · simp only [i1]
          congr 1
          congr 1
          omega
        · rw [← i2]; congr 1; omega
end Go.Proofs.YtaiiboplopljoaaGreat
end

section
namespace Go.Proofs.YtaiiboplopljoaaGreat
open Go Go.PS
def tab0 : Tab := ⟨0, [], [], []⟩
def parse3 (f : Int) (W S : List R3) (k : UInt8) (l : List UInt8) : Int × Tab := match rows14 k.toNat l with
  | some (C, []) => (0, ⟨f, W, S, C⟩)
  | some (_, _ :: _) => (3, tab0)
  | none => (5, tab0)
def parse2 (f : Int) (W : List R3) (m : UInt8) (l : List UInt8) : Int × Tab := match rows5 m.toNat l with
  | some (S, k :: l) => parse3 f W S k l
  | _ => (5, tab0)
def parse1 (f : Int) (n : UInt8) (l : List UInt8) : Int × Tab := match rows5 n.toNat l with
  | some (W, m :: l) => parse2 f W m l
  | _ => (5, tab0)
/-- The tables of bytes, or what is wrong with them. -/
def parseT : List UInt8 → Int × Tab
  | a :: b :: r => if [a, b] = [67, 1] then (match r with
      | f0 :: f1 :: n :: l => parse1 ((f0.toNat : Int) + 256 * f1.toNat) n l
      | _ => (5, tab0)) else (3, tab0)
  | _ => (5, tab0)
def progT (t : List UInt8) : Int × Tab :=
  let h := rdTake t ⟨0, false⟩ 2
  if h.2.e = false ∧ h.1 ≠ [67, 1] then (3, tab0) else
    let x := rdTab t h.2
    if x.2.e = true then (5, tab0) else if 0 < t.length - x.2.p then (3, tab0) else (0, x.1)
theorem rdTab_err (s : List UInt8) (p : Nat) : (rdTab s ⟨p, true⟩).2.e = true := by
  unfold rdTab
  simp only [rdTwo_err, rdByte_err, rdMany_err]
theorem drop_le {s l : List UInt8} {p : Nat} (h : s.drop p = l) (h0 : p ≤ s.length) : s.length = p + l.length := by
  have := congrArg List.length h
  rw [List.length_drop] at this
  omega
theorem progT_eq (t : List UInt8) : progT t = parseT t := by
  unfold progT
  match ht : t with
  | [] => simp [rdTake, rdTab_err, parseT]
  | [a] => simp [rdTake, rdTab_err, parseT]
  | a :: b :: r =>
    rw [← ht]
    have h0 : rdTake t ⟨0, false⟩ 2 = ([a, b], ⟨2, false⟩) := rdTake_ok (l2 := r) (by rw [ht]; rfl) rfl (Nat.zero_le _)
    have d0 : t.drop 2 = r := by rw [ht]; rfl
    have l0 := drop_le d0 (by rw [ht]; simp)
    have hP : parseT t = if [a, b] = [67, 1] then (match r with
      | f0 :: f1 :: n :: l => parse1 ((f0.toNat : Int) + 256 * f1.toNat) n l
      | _ => (5, tab0)) else (3, tab0) := by rw [ht]; rfl
    rw [hP, h0]
    by_cases hc : [a, b] = [67, 1]
    · simp only [hc, ne_eq, not_true_eq_false, and_false, if_false, if_true]
      match r, d0 with
      | [], d0 =>
        have e1 := rdTwo_no (s := t) (p := 2) (by rw [d0]; simp)
        simp [rdTab, e1, rdByte_err, rdMany_err]
      | [f0], d0 =>
        have e1 := rdTwo_no (s := t) (p := 2) (by rw [d0]; simp)
        simp [rdTab, e1, rdByte_err, rdMany_err]
      | [f0, f1], d0 =>
        obtain ⟨e1, d1⟩ := rdTwo_ok d0
        have e2 := rdByte_no (s := t) (p := 2 + 2) (by rw [d1]; simp)
        simp [rdTab, e1, e2, rdByte_err, rdMany_err]
      | f0 :: f1 :: n :: l, d0 =>
        obtain ⟨e1, d1⟩ := rdTwo_ok d0
        obtain ⟨e2, d2⟩ := rdByte_ok d1
        have p2 : 2 + 2 + 1 ≤ t.length := by simp at l0; omega
        have m1 := rdMany5 t n.toNat (2 + 2 + 1) p2
        rw [d2] at m1
        show _ = parse1 ((f0.toNat : Int) + 256 * f1.toNat) n l
        unfold parse1
        have tn : ∀ x : UInt8, ((x.toNat : Int)).toNat = x.toNat := fun x => Int.toNat_natCast _
        cases h1 : rows5 n.toNat l with
        | none =>
          rw [h1] at m1
          simp only [rdTab, e1, e2, tn]
          generalize rdMany (rdRow t) n.toNat ⟨2 + 2 + 1, false⟩ = y at *
          obtain ⟨y1, ⟨q, e⟩⟩ := y
          simp only at m1
          subst m1
          simp [rdByte_err, rdMany_err]
        | some y =>
          rw [h1] at m1
          obtain ⟨W, l1⟩ := y
          obtain ⟨e3, d3, p3, _⟩ := m1
          simp only [rdTab, e1, e2, tn, e3]
          generalize 2 + 2 + 1 + 5 * n.toNat = q at *
          match l1, d3 with
          | [], d3 =>
            have e4 := rdByte_no (s := t) (p := q) (by rw [d3]; simp)
            simp [e4, rdByte_err, rdMany_err]
          | m :: l1, d3 =>
            obtain ⟨e4, d4⟩ := rdByte_ok d3
            have p4 : q + 1 ≤ t.length := by have := drop_le d3 p3; simp at this; omega
            have m2 := rdMany5 t m.toNat (q + 1) p4
            rw [d4] at m2
            simp only [e4, tn]
            unfold parse2
            cases h2 : rows5 m.toNat l1 with
            | none =>
              rw [h2] at m2
              simp only
              generalize rdMany (rdRow t) m.toNat ⟨q + 1, false⟩ = y at *
              obtain ⟨y1, ⟨q', e⟩⟩ := y
              simp only at m2
              subst m2
              simp [rdByte_err, rdMany_err]
            | some y =>
              rw [h2] at m2
              obtain ⟨S, l2⟩ := y
              obtain ⟨e5, d5, p5, _⟩ := m2
              simp only [e5]
              generalize q + 1 + 5 * m.toNat = q2 at *
              match l2, d5 with
              | [], d5 =>
                have e6 := rdByte_no (s := t) (p := q2) (by rw [d5]; simp)
                simp [e6, rdMany_err]
              | k :: l2, d5 =>
                obtain ⟨e6, d6⟩ := rdByte_ok d5
                have p6 : q2 + 1 ≤ t.length := by have := drop_le d5 p5; simp at this; omega
                have m3 := rdMany14 t k.toNat (q2 + 1) p6
                rw [d6] at m3
                simp only [e6, tn]
                unfold parse3
                cases h3 : rows14 k.toNat l2 with
                | none =>
                  rw [h3] at m3
                  simp only
                  generalize rdMany (rdCl t) k.toNat ⟨q2 + 1, false⟩ = y at *
                  obtain ⟨y1, ⟨q', e⟩⟩ := y
                  simp only at m3
                  subst m3
                  simp
                | some y =>
                  rw [h3] at m3
                  obtain ⟨C, l3⟩ := y
                  obtain ⟨e7, d7, p7, _⟩ := m3
                  simp only [e7]
                  have := drop_le d7 p7
                  match l3, this with
                  | [], this => simp at this; simp [this]
                  | _ :: l3, this => simp at this; simp; omega
    · simp [hc]
end Go.Proofs.YtaiiboplopljoaaGreat
end

section
namespace Go.Proofs.YtaiiboplopljoaaGreat
open Go Go.PS
def openC (s : List UInt8) : Int × List UInt8 := if s.length < 2 then (5, []) else if crcSeal (s.take (s.length - 2)) = s then (0, s.take (s.length - 2)) else (10, [])
theorem f48 (n : Nat) (s : List UInt8) (hp : Heap) (hl : s.length < n) (hn : 60 < n) (hb : s.length ≤ 100000) : evalCall Tryz.prog hints (n + 4) 48 [.str s] hp = some (.tup [.str (openC s).2, .int .i64 (openC s).1], hp, false) := by
  have e36 := f36 n (s.take (s.length - 2)) hp (by rw [List.length_take]; omega) hn (by rw [List.length_take]; omega)
  rw [evalCall_at _ _ _ hh48 rfl Tryz.func48 rfl (Nat.le_of_ble_eq_true rfl) rfl]
  unfold openC
  have w := wrap_id (x := (s.length : Int) - 2) (by omega)
  by_cases c : s.length < 2
  · have c' : (s.length : Int) - 2 < 0 := by omega
    simp [w, c, c']
  · have c' : ¬ ((s.length : Int) - 2 < 0) := by omega
    have c1 : (0 : Int) ≤ (s.length : Int) - 2 := by omega
    have c2 : ((s.length : Int) - 2).toNat = s.length - 2 := by omega
    have c3 : (s.length : Int) - 2 ≤ s.length := by omega
    have c4 : (2 : Int) ≤ s.length := by omega
    generalize hq : s.take (s.length - 2) = q at *
    by_cases d : crcSeal q = s
    · simp [w, c, c', c1, c2, c3, c4, hq, e36, d]
    · have d' : (crcSeal q == s) = false := by simpa using d
      simp [w, c, c', c1, c2, c3, c4, hq, e36, d, d']
/-- A reader's cells. -/
def rdC (s : List UInt8) (r : Rd) : List PV := [.int .i64 (cond r.e 5 0), .str s, .int .i64 r.p]
/-- Heaps that have a reader at j, and are alike but for it. -/
structure RdH (s : List UInt8) (j : Nat) (HP : Rd → Heap) : Prop where
  get : ∀ r, (HP r)[j]? = some (.cells (rdC s r))
  set : ∀ r x, (HP r).set j (.cells (rdC s x)) = HP x
theorem RdH.lt {s : List UInt8} {j : Nat} {HP : Rd → Heap} (h : RdH s j HP) (r : Rd) : j < (HP r).length := by
  rcases Nat.lt_or_ge j (HP r).length with c | c
  · exact c
  · have := h.get r
    rw [List.getElem?_eq_none c] at this; cases this
theorem f104 (n j p : Nat) (s : List UInt8) (HP : Rd → Heap) (h : RdH s j HP) : evalCall Tryz.prog hints (n + 1) 104 [.ptr (.heap j) none 0, .int .i64 5] (HP ⟨p, false⟩) = some (.tup [], HP ⟨p, true⟩, true) := by
  rw [evalCall_at _ _ _ hh104 rfl Tryz.func104 rfl (Nat.le_of_ble_eq_true rfl) rfl]
  have g := h.get ⟨p, false⟩
  have st := h.set ⟨p, false⟩ ⟨p, true⟩
  have hl := h.lt ⟨p, false⟩
  simp only [rdC, cond_true, cond_false] at g st
  simp [-getElem?_pos, List.getElem?_cons_zero, List.getElem?_cons_succ, g, st, hl]
set_option maxHeartbeats 1000000 in
theorem f82 (n j m : Nat) (s : List UInt8) (r : Rd) (HP : Rd → Heap) (h : RdH s j HP) (hr : r.p ≤ s.length) (hm : m ≤ 100) (hs : s.length ≤ 100000) : evalCall Tryz.prog hints (n + 2) 82 [.ptr (.heap j) none 0, .int .i64 m] (HP r) = some (.str (rdTake s r m).1, HP (rdTake s r m).2, !r.e) := by
  rw [evalCall_at _ _ _ hh82 rfl Tryz.func82 rfl (Nat.le_of_ble_eq_true rfl) rfl]
  obtain ⟨p, e⟩ := r
  have g := h.get ⟨p, e⟩
  have hl := h.lt ⟨p, e⟩
  unfold rdTake
  cases e with
  | true =>
    simp only [rdC, cond_true] at g
    simp [-getElem?_pos, List.getElem?_cons_zero, List.getElem?_cons_succ, g]
  | false =>
    have e104 := f104 n j p s HP h
    have st := h.set ⟨p, false⟩ ⟨p + m, false⟩
    simp only [rdC, cond_false] at g st
    have hr' : p ≤ s.length := hr
    have w1 := wrap_id (x := (s.length : Int) - p) (by omega)
    have w2 := wrap_id (x := (p : Int) + m) (by omega)
    have c0 : ¬ ((m : Int) < 0) := by omega
    by_cases c : s.length - p < m
    · have c' : (s.length : Int) - p < m := by omega
      simp [-getElem?_pos, List.getElem?_cons_zero, List.getElem?_cons_succ, g, w1, c0, c, c', e104]
    · have c' : ¬ ((s.length : Int) - p < m) := by omega
      have c1 : (p : Int) + m ≤ s.length := by omega
      have c2 : (0 : Int) ≤ (p : Int) + m := by omega
      have c3 : ((p : Int) + m).toNat = p + m := by omega
      have c4 : (p : Int) ≤ (p : Int) + m := by omega
      have c5 : p + m - p = m := by omega
      simp only [Int.natCast_add] at st
      simp [-getElem?_pos, List.getElem?_cons_zero, List.getElem?_cons_succ, g, w1, w2, c0, c, c', c1, c2, c3, c4, c5, st, hl]
end Go.Proofs.YtaiiboplopljoaaGreat
end

section
namespace Go.Proofs.YtaiiboplopljoaaGreat
open Go Go.PS
theorem or_two (x y : Nat) (hx : x < 256) : x ||| y * 256 = x + 256 * y := by
  have := Nat.shiftLeft_add_eq_or_of_lt (i := 8) hx y
  rw [Nat.shiftLeft_eq] at this
  rw [Nat.or_comm, ← this]; omega
theorem f116 (n : Nat) (x y : Nat) (hp : Heap) (hx : x < 256) (hy : y < 256) : evalCall Tryz.prog hints (n + 1) 116 [.int .i64 x, .int .i64 y] hp = some (.int .i64 ((x : Int) + 256 * y), hp, false) := by
  rw [evalCall_at _ _ _ hh116 rfl Tryz.func116 rfl (Nat.le_of_ble_eq_true rfl) rfl]
  have a1 := bi_and (A := (x : Int)) (B := 255) x 255 rfl rfl (by omega) (by omega)
  have a2 := bi_and (A := (y : Int)) (B := 255) y 255 rfl rfl (by omega) (by omega)
  rw [and_255, Nat.mod_eq_of_lt hx] at a1
  rw [and_255, Nat.mod_eq_of_lt hy] at a2
  have w := wrap_id (x := (y : Int) * 256) (by omega)
  have a3 := bi_or (A := (x : Int)) (B := (y : Int) * 256) x (y * 256) rfl (by simp) (by omega) (by omega)
  rw [or_two x y hx] at a3
  simp only [Int.natCast_add, Int.natCast_mul] at a3
  simp [-binI, a1, a2, w, a3]
set_option maxHeartbeats 1000000 in
theorem f84 (n j : Nat) (s : List UInt8) (r : Rd) (HP : Rd → Heap) (h : RdH s j HP) (hr : r.p ≤ s.length) (hs : s.length ≤ 100000) : evalCall Tryz.prog hints (n + 3) 84 [.ptr (.heap j) none 0] (HP r) = some (.int .i64 (rdByte s r).1, HP (rdByte s r).2, !r.e) := by
  have e := f82 n j 1 s r HP h hr (by omega) hs
  rw [show ((1 : Nat) : Int) = 1 from rfl] at e
  rw [evalCall_at _ _ _ hh84 rfl Tryz.func84 rfl (Nat.le_of_ble_eq_true rfl) rfl]
  obtain ⟨p, e'⟩ := r
  cases e' with
  | true =>
    rw [rdTake_err] at e
    rw [rdByte_err]
    simp [-getElem?_pos, e]
  | false =>
    match hd : s.drop p with
    | [] =>
      have h0 : (s.drop p).length < 1 := by rw [hd]; simp
      rw [rdTake_no h0] at e
      rw [rdByte_no h0]
      simp [-getElem?_pos, e]
    | a :: l =>
      rw [rdTake_ok (n := 1) (l1 := [a]) (l2 := l) hd rfl hr] at e
      rw [(rdByte_ok hd).1]
      have w := wrap_id (x := (a.toNat : Int)) (by have := a.toNat_lt; omega)
      simp [-getElem?_pos, List.getElem?_cons_zero, e, w]
set_option maxHeartbeats 1000000 in
theorem f83 (n j : Nat) (s : List UInt8) (r : Rd) (HP : Rd → Heap) (h : RdH s j HP) (hr : r.p ≤ s.length) (hs : s.length ≤ 100000) : evalCall Tryz.prog hints (n + 3) 83 [.ptr (.heap j) none 0] (HP r) = some (.int .i64 (rdTwo s r).1, HP (rdTwo s r).2, !r.e) := by
  have e := f82 n j 2 s r HP h hr (by omega) hs
  rw [show ((2 : Nat) : Int) = 2 from rfl] at e
  rw [evalCall_at _ _ _ hh83 rfl Tryz.func83 rfl (Nat.le_of_ble_eq_true rfl) rfl]
  obtain ⟨p, e'⟩ := r
  cases e' with
  | true =>
    rw [rdTake_err] at e
    rw [rdTwo_err]
    simp [-getElem?_pos, e]
  | false =>
    match hd : s.drop p with
    | [] =>
      have h0 : (s.drop p).length < 2 := by rw [hd]; simp
      rw [rdTake_no h0] at e
      rw [rdTwo_no h0]
      simp [-getElem?_pos, e]
    | [a] =>
      have h0 : (s.drop p).length < 2 := by rw [hd]; simp
      rw [rdTake_no h0] at e
      rw [rdTwo_no h0]
      simp [-getElem?_pos, e]
    | a :: b :: l =>
      rw [rdTake_ok (n := 2) (l1 := [a, b]) (l2 := l) hd rfl hr] at e
      rw [(rdTwo_ok hd).1]
      have w := wrap_id (x := (a.toNat : Int)) (by have := a.toNat_lt; omega)
      have w' := wrap_id (x := (b.toNat : Int)) (by have := b.toNat_lt; omega)
      have e116 := fun hp => f116 (n + 1) a.toNat b.toNat hp a.toNat_lt b.toNat_lt
      simp [-getElem?_pos, List.getElem?_cons_zero, List.getElem?_cons_succ, e, w, w', e116]
theorem f50 (n j m : Nat) (s : List UInt8) (r : Rd) (HP : Rd → Heap) (h : RdH s j HP) (hr : r.p ≤ s.length) (hm : m ≤ 100) (hs : s.length ≤ 100000) : evalCall Tryz.prog hints (n + 3) 50 [.ptr (.heap j) none 0, .int .i64 m] (HP r) = some (.str (rdTake s r m).1, HP (rdTake s r m).2, !r.e) := by
  have e := f82 n j m s r HP h hr hm hs
  rw [evalCall_at _ _ _ hh50 rfl Tryz.func50 rfl (Nat.le_of_ble_eq_true rfl) rfl]
  obtain ⟨p, e'⟩ := r
  cases e' with
  | true =>
    rw [rdTake_err] at *
    simp [-getElem?_pos, e]
  | false =>
    generalize rdTake s ⟨p, false⟩ m = x at *
    obtain ⟨x1, x2⟩ := x
    simp [-getElem?_pos, e]
theorem f51 (n j : Nat) (s : List UInt8) (r : Rd) (HP : Rd → Heap) (h : RdH s j HP) : evalCall Tryz.prog hints (n + 1) 51 [.ptr (.heap j) none 0] (HP r) = some (.int .i64 (cond r.e 5 0), HP r, false) := by
  have g := h.get r
  rw [evalCall_at _ _ _ hh51 rfl Tryz.func51 rfl (Nat.le_of_ble_eq_true rfl) rfl]
  simp only [rdC] at g
  simp [-getElem?_pos, List.getElem?_cons_zero, g]
theorem f53 (n j : Nat) (s : List UInt8) (p : Nat) (HP : Rd → Heap) (h : RdH s j HP) (hr : p ≤ s.length) (hs : s.length ≤ 100000) : evalCall Tryz.prog hints (n + 1) 53 [.ptr (.heap j) none 0] (HP ⟨p, false⟩) = some (.int .i64 (s.length - p : Nat), HP ⟨p, false⟩, false) := by
  have g := h.get ⟨p, false⟩
  rw [evalCall_at _ _ _ hh53 rfl Tryz.func53 rfl (Nat.le_of_ble_eq_true rfl) rfl]
  simp only [rdC, cond_false] at g
  have w := wrap_id (x := (s.length : Int) - p) (by omega)
  have e : (s.length : Int) - p = (s.length - p : Nat) := by omega
  have w2 := wrap_id (x := ((s.length - p : Nat) : Int)) (by omega)
  simp [-getElem?_pos, List.getElem?_cons_zero, List.getElem?_cons_succ, g, w, e, w2]
end Go.Proofs.YtaiiboplopljoaaGreat
end

section
namespace Go.PS
theorem scope_go {f : Option Nat → St → Option (Ex × St)} {has : Nat → Bool} {head : Nat → List Nat} {k l l' : Nat} {st st1 st2 : St} (h : f (some l) st = some (.goto l', st1)) (hh : has l' = true) (hc : canon (head (1000 + l')) st1 = st2) :
    scopeIter f has head (k + 1) (some l) st = scopeIter f has head k (some l') st2 := by
  simp only [scopeIter, h, hh, if_true, hc]
theorem scope_same {f : Option Nat → St → Option (Ex × St)} {has : Nat → Bool} {head : Nat → List Nat} {k l l' : Nat} {st st' : St} (h : f (some l) st = f (some l') st') : scopeIter f has head (k + 1) (some l) st = scopeIter f has head (k + 1) (some l') st' := by
  simp only [scopeIter, h]
def cK (hd : List Nat) (x : Option (Ex × St)) : Option (Ex × St) := match x with
  | some (e, st) => some (e, canon hd st)
  | none => none
@[congr] theorem cK_congr {hd : List Nat} {x y : Option (Ex × St)} (h : x = y) : cK hd x = cK hd y := by rw [h]
@[simp] theorem cK_some (hd : List Nat) (e : Ex) (st : St) : cK hd (some (e, st)) = some (e, canon hd st) := rfl
theorem scope_goK {f : Option Nat → St → Option (Ex × St)} {has : Nat → Bool} {head : Nat → List Nat} {k l l' : Nat} {st st2 : St} (h : cK (head (1000 + l')) (f (some l) st) = some (.goto l', st2)) (hh : has l' = true) :
    scopeIter f has head (k + 1) (some l) st = scopeIter f has head k (some l') st2 := by
  cases hx : f (some l) st with
  | none => rw [hx] at h; cases h
  | some x =>
    obtain ⟨e, st1⟩ := x
    rw [hx, cK_some] at h
    simp only [Option.some.injEq, Prod.mk.injEq] at h
    obtain ⟨rfl, h⟩ := h
    exact scope_go hx hh h
def noD (x : Option (PV × Heap × Bool)) : Option (PV × Heap) := match x with
  | some r => some (r.1, r.2.1)
  | none => none
@[congr] theorem noD_congr {x y : Option (PV × Heap × Bool)} (h : x = y) : noD x = noD y := by rw [h]
@[simp] theorem noD_some (r : PV × Heap × Bool) : noD (some r) = some (r.1, r.2.1) := rfl
end Go.PS
namespace Go.Proofs.YtaiiboplopljoaaGreat
open Go Go.PS
theorem rdTake_p {s : List UInt8} {r : Rd} {n : Nat} (h : r.p ≤ s.length) : (rdTake s r n).2.p ≤ s.length := by
  unfold rdTake
  split
  · exact h
  · split
    · exact h
    · simp only; omega
theorem rdTake_same {s : List UInt8} {r : Rd} {n : Nat} (h : r.e = true) : (rdTake s r n).2 = r := by unfold rdTake; rw [if_pos h]
theorem rdRow_p {s : List UInt8} {r : Rd} (h : r.p ≤ s.length) : (rdRow s r).2.p ≤ s.length := rdTake_p (rdTake_p (rdTake_p h))
/-- The state of the tables' reading. -/
def tS (j : Nat) (f : Int) (t1 t2 t3 : Nat) (W S : List R3) (C : List Cl) (m : Int) (H : Heap) (b : Nat) (d : Bool) : St :=
  { fr := [(0, .ptr (.heap j) none 0), (2, .box [.int .i64 0, .sl (.mu 0) 0 [], .sl (.mu 0) 0 [], .sl (.mu 0) 0 []]), (3, .box [.int .i64 f, .sl (.mu t1) W.length (W.flatMap R3.cells), .sl (.mu t2) S.length (S.flatMap R3.cells), .sl (.mu t3) C.length (C.flatMap Cl.cells)]), (4, .int .i64 m)], hp := H, base := b, dirty := d }
def scopeOf (c : Option Code) : Code := match c with
  | some (.seq _ (.scope b)) => b
  | _ => .skip
set_option maxHeartbeats 4000000 in
theorem step0 (n j : Nat) (s : List UInt8) (p : Nat) (HP : Rd → Heap) (h : RdH s j HP) (hr : p ≤ s.length) (hs : s.length ≤ 100000) (f : Int) (t1 t2 t3 : Nat) (W S : List R3) (C : List Cl) (ht : t1 = 3 ∨ t1 = 0 ∧ W = []) (hW : W.length ≤ 100000) (m : Nat) (b : Nat) (d : Bool) (hm : m ≤ 255) :
    cK (head52 1000) (evalCode Tryz.prog hint52 (fun f => (hints f).own) (evalCall Tryz.prog hints (n + 3)) (n + 3) (scopeOf Tryz.f52.body) (some 0) (tS j f t1 t2 t3 W S C ((m : Int) + 1) (HP ⟨p, false⟩) b d)) = some (.goto 0, tS j f 3 t2 t3 (W ++ [(rdRow s ⟨p, false⟩).1]) S C m (HP (rdRow s ⟨p, false⟩).2) b true) := by
  have e1 := f84 n j s ⟨p, false⟩ HP h hr hs
  have p1 : (rdByte s ⟨p, false⟩).2.p ≤ s.length := rdTake_p hr
  have e2 := f83 n j s (rdByte s ⟨p, false⟩).2 HP h p1 hs
  have p2 : (rdTwo s (rdByte s ⟨p, false⟩).2).2.p ≤ s.length := rdTake_p p1
  have e3 := f83 n j s (rdTwo s (rdByte s ⟨p, false⟩).2).2 HP h p2 hs
  have q2 : (rdByte s ⟨p, false⟩).2.e = true → rdTwo s (rdByte s ⟨p, false⟩).2 = (0, (rdByte s ⟨p, false⟩).2) := fun h => by
    generalize (rdByte s ⟨p, false⟩).2 = x at *
    obtain ⟨xp, xe⟩ := x
    simp only at h; subst h
    exact rdTwo_err _ _
  have q3 : (rdTwo s (rdByte s ⟨p, false⟩).2).2.e = true → rdTwo s (rdTwo s (rdByte s ⟨p, false⟩).2).2 = (0, (rdTwo s (rdByte s ⟨p, false⟩).2).2) := fun h => by
    generalize (rdTwo s (rdByte s ⟨p, false⟩).2).2 = x at *
    obtain ⟨xp, xe⟩ := x
    simp only at h; subst h
    exact rdTwo_err _ _
  have e51 := f51 (n + 2) j s ⟨p, false⟩ HP h
  have lW := flat_len R3.len W
  have aW : (W.flatMap R3.cells).all storable = true := flat_all (f := R3.cells) (fun _ => rfl) _
  have hfm : (W ++ [(rdRow s ⟨p, false⟩).1]).flatMap R3.cells = W.flatMap R3.cells ++ (rdRow s ⟨p, false⟩).1.cells := by rw [List.flatMap_append]; simp
  unfold tS
  rw [hfm, List.length_append, List.length_singleton]
  unfold rdRow
  have m0 : (0 : Int) < (m : Int) + 1 := by omega
  have w := wrap_id (x := (m : Int)) (by omega)
  have m1 : (W.length + 1) * 24 ≤ 140737488355328 := by omega
  generalize W.flatMap R3.cells = X at *
  generalize hr1 : rdByte s ⟨p, false⟩ = x1 at *
  obtain ⟨v1, ⟨p1', b1⟩⟩ := x1
  generalize hr2 : rdTwo s ⟨p1', b1⟩ = x2 at *
  obtain ⟨v2, ⟨p2', b2⟩⟩ := x2
  generalize hr3 : rdTwo s ⟨p2', b2⟩ = x3 at *
  obtain ⟨v3, r3⟩ := x3
  simp only at *
  simp only [Tryz.f52, scopeOf]
  have tt : t1 = 3 ∨ t1 = 0 ∧ W.length = 0 := by
    rcases ht with h | ⟨h1, h2⟩
    · exact .inl h
    · exact .inr ⟨h1, by rw [h2]; rfl⟩
  generalize S.flatMap R3.cells = Y at *
  generalize C.flatMap Cl.cells = Z at *
  generalize W.length = Wl at *
  generalize S.length = Sl at *
  generalize C.length = Cll at *
  cases b1 with
  | true =>
    have q := q2 rfl
    cases q
    have q3 := q3 rfl
    cases q3
    simp [-getElem?_pos, List.getElem?_cons_zero, List.getElem?_cons_succ, m0, w, e51, e1, e2, e3, lW, aW, m1, tt, R3.cells, hr2, hr3]
  | false =>
    cases b2 with
    | true =>
      have q3 := q3 rfl
      cases q3
      simp [-getElem?_pos, List.getElem?_cons_zero, List.getElem?_cons_succ, m0, w, e51, e1, e2, e3, lW, aW, m1, tt, R3.cells, hr2, hr3]
    | false =>
      simp [-getElem?_pos, List.getElem?_cons_zero, List.getElem?_cons_succ, m0, w, e51, e1, e2, e3, lW, aW, m1, tt, R3.cells, hr2, hr3]
end Go.Proofs.YtaiiboplopljoaaGreat
end

section
namespace Go.Proofs.YtaiiboplopljoaaGreat
open Go Go.PS
set_option maxHeartbeats 4000000 in
theorem step1 (n j : Nat) (s : List UInt8) (p : Nat) (HP : Rd → Heap) (h : RdH s j HP) (hr : p ≤ s.length) (hs : s.length ≤ 100000) (f : Int) (t1 t2 t3 : Nat) (W S : List R3) (C : List Cl) (ht : t2 = 3 ∨ t2 = 0 ∧ S = []) (hW : S.length ≤ 100000) (m : Nat) (b : Nat) (d : Bool) (hm : m ≤ 255) :
    cK (head52 1001) (evalCode Tryz.prog hint52 (fun f => (hints f).own) (evalCall Tryz.prog hints (n + 3)) (n + 3) (scopeOf Tryz.f52.body) (some 1) (tS j f t1 t2 t3 W S C ((m : Int) + 1) (HP ⟨p, false⟩) b d)) = some (.goto 1, tS j f t1 3 t3 W (S ++ [(rdRow s ⟨p, false⟩).1]) C m (HP (rdRow s ⟨p, false⟩).2) b true) := by
  have e1 := f84 n j s ⟨p, false⟩ HP h hr hs
  have p1 : (rdByte s ⟨p, false⟩).2.p ≤ s.length := rdTake_p hr
  have e2 := f83 n j s (rdByte s ⟨p, false⟩).2 HP h p1 hs
  have p2 : (rdTwo s (rdByte s ⟨p, false⟩).2).2.p ≤ s.length := rdTake_p p1
  have e3 := f83 n j s (rdTwo s (rdByte s ⟨p, false⟩).2).2 HP h p2 hs
  have q2 : (rdByte s ⟨p, false⟩).2.e = true → rdTwo s (rdByte s ⟨p, false⟩).2 = (0, (rdByte s ⟨p, false⟩).2) := fun h => by
    generalize (rdByte s ⟨p, false⟩).2 = x at *
    obtain ⟨xp, xe⟩ := x
    simp only at h; subst h
    exact rdTwo_err _ _
  have q3 : (rdTwo s (rdByte s ⟨p, false⟩).2).2.e = true → rdTwo s (rdTwo s (rdByte s ⟨p, false⟩).2).2 = (0, (rdTwo s (rdByte s ⟨p, false⟩).2).2) := fun h => by
    generalize (rdTwo s (rdByte s ⟨p, false⟩).2).2 = x at *
    obtain ⟨xp, xe⟩ := x
    simp only at h; subst h
    exact rdTwo_err _ _
  have e51 := f51 (n + 2) j s ⟨p, false⟩ HP h
  have lW := flat_len R3.len S
  have aW : (S.flatMap R3.cells).all storable = true := flat_all (f := R3.cells) (fun _ => rfl) _
  have hfm : (S ++ [(rdRow s ⟨p, false⟩).1]).flatMap R3.cells = S.flatMap R3.cells ++ (rdRow s ⟨p, false⟩).1.cells := by rw [List.flatMap_append]; simp
  unfold tS
  rw [hfm, List.length_append, List.length_singleton]
  unfold rdRow
  have m0 : (0 : Int) < (m : Int) + 1 := by omega
  have w := wrap_id (x := (m : Int)) (by omega)
  have m1 : (S.length + 1) * 24 ≤ 140737488355328 := by omega
  generalize W.flatMap R3.cells = X at *
  generalize hr1 : rdByte s ⟨p, false⟩ = x1 at *
  obtain ⟨v1, ⟨p1', b1⟩⟩ := x1
  generalize hr2 : rdTwo s ⟨p1', b1⟩ = x2 at *
  obtain ⟨v2, ⟨p2', b2⟩⟩ := x2
  generalize hr3 : rdTwo s ⟨p2', b2⟩ = x3 at *
  obtain ⟨v3, r3⟩ := x3
  simp only at *
  simp only [Tryz.f52, scopeOf]
  have tt : t2 = 3 ∨ t2 = 0 ∧ S.length = 0 := by
    rcases ht with h | ⟨h1, h2⟩
    · exact .inl h
    · exact .inr ⟨h1, by rw [h2]; rfl⟩
  generalize S.flatMap R3.cells = Y at *
  generalize C.flatMap Cl.cells = Z at *
  generalize W.length = Wl at *
  generalize S.length = Sl at *
  generalize C.length = Cll at *
  cases b1 with
  | true =>
    have q := q2 rfl
    cases q
    have q3 := q3 rfl
    cases q3
    simp [-getElem?_pos, List.getElem?_cons_zero, List.getElem?_cons_succ, m0, w, e51, e1, e2, e3, lW, aW, m1, tt, R3.cells, hr2, hr3]
  | false =>
    cases b2 with
    | true =>
      have q3 := q3 rfl
      cases q3
      simp [-getElem?_pos, List.getElem?_cons_zero, List.getElem?_cons_succ, m0, w, e51, e1, e2, e3, lW, aW, m1, tt, R3.cells, hr2, hr3]
    | false =>
      simp [-getElem?_pos, List.getElem?_cons_zero, List.getElem?_cons_succ, m0, w, e51, e1, e2, e3, lW, aW, m1, tt, R3.cells, hr2, hr3]
end Go.Proofs.YtaiiboplopljoaaGreat
end
