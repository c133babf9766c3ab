/-
  What functions of this program compute, as equations about the evaluator. No condition but those stated.
-/
import Derived.Test.YtehemoachikpgaaConfEqs5
set_option linter.all false
section
namespace Go.Proofs.Ytehemoachikpgaa
open Go Go.PS
theorem r3_of63 (r : List PV) (h : Ty Try.prog 63 r) : ∃ m : R3, r = m.cells ∧ True := by
  obtain ⟨parts, rfl, h1, h2⟩ := ty_struct Try.underlying63 h
  match parts, h1, h2 with
  | [p0, p1, p2], _, h2 =>
    obtain ⟨a, rfl, _⟩ := ty_int Try.underlying3 (h2 0 _ _ rfl rfl)
    obtain ⟨b, rfl, _⟩ := ty_int Try.underlying3 (h2 1 _ _ rfl rfl)
    obtain ⟨c, rfl, _⟩ := ty_int Try.underlying3 (h2 2 _ _ rfl rfl)
    exact ⟨⟨a, b, c⟩, rfl, trivial⟩
theorem r3_of64 (r : List PV) (h : Ty Try.prog 64 r) : ∃ m : R3, r = m.cells ∧ True := by
  obtain ⟨parts, rfl, h1, h2⟩ := ty_struct Try.underlying64 h
  match parts, h1, h2 with
  | [p0, p1, p2], _, h2 =>
    obtain ⟨a, rfl, _⟩ := ty_int Try.underlying3 (h2 0 _ _ rfl rfl)
    obtain ⟨b, rfl, _⟩ := ty_int Try.underlying3 (h2 1 _ _ rfl rfl)
    obtain ⟨c, rfl, _⟩ := ty_int Try.underlying3 (h2 2 _ _ rfl rfl)
    exact ⟨⟨a, b, c⟩, rfl, trivial⟩
theorem cl_of (r : List PV) (h : Ty Try.prog 58 r) : ∃ m : Cl, r = m.cells ∧ True := by
  obtain ⟨parts, rfl, h1, h2⟩ := ty_struct Try.underlying58 h
  match parts, h1, h2 with
  | [p0, p1, p2, p3, p4, p5, p6, p7, p8, p9], _, h2 =>
    obtain ⟨a0, rfl, _⟩ := ty_int Try.underlying3 (h2 0 _ _ rfl rfl)
    obtain ⟨a1, rfl, _⟩ := ty_int Try.underlying3 (h2 1 _ _ rfl rfl)
    obtain ⟨a2, rfl, _⟩ := ty_int Try.underlying3 (h2 2 _ _ rfl rfl)
    obtain ⟨a3, rfl, _⟩ := ty_int Try.underlying3 (h2 3 _ _ rfl rfl)
    obtain ⟨a4, rfl, _⟩ := ty_int Try.underlying3 (h2 4 _ _ rfl rfl)
    obtain ⟨a5, rfl, _⟩ := ty_int Try.underlying3 (h2 5 _ _ rfl rfl)
    obtain ⟨a6, rfl, _⟩ := ty_int Try.underlying3 (h2 6 _ _ rfl rfl)
    obtain ⟨a7, rfl, _⟩ := ty_int Try.underlying3 (h2 7 _ _ rfl rfl)
    obtain ⟨a8, rfl, _⟩ := ty_int Try.underlying3 (h2 8 _ _ rfl rfl)
    obtain ⟨a9, rfl, _⟩ := ty_int Try.underlying3 (h2 9 _ _ rfl rfl)
    exact ⟨⟨a0, a1, a2, a3, a4, a5, a6, a7, a8, a9⟩, rfl, trivial⟩
theorem tab_of (cs : List PV) (h : Ty Try.prog 53 cs) : ∃ t : Tab, cs = t.cells ∧ t.W.length ≤ maxLen ∧ t.S.length ≤ maxLen ∧ t.C.length ≤ maxLen := by
  obtain ⟨parts, rfl, h1, h2⟩ := ty_struct Try.underlying53 h
  match parts, h1, h2 with
  | [p0, p1, p2, p3], _, h2 =>
    obtain ⟨f, rfl, _⟩ := ty_int Try.underlying3 (h2 0 _ _ rfl rfl)
    obtain ⟨rW, rfl, lW, tW⟩ := ty_slice Try.underlying49 (h2 1 _ _ rfl rfl)
    obtain ⟨rS, rfl, lS, tS⟩ := ty_slice Try.underlying50 (h2 2 _ _ rfl rfl)
    obtain ⟨rC, rfl, lC, tC⟩ := ty_slice Try.underlying51 (h2 3 _ _ rfl rfl)
    obtain ⟨W, w1, w2, _⟩ := rows_map r3_of63 rW tW
    obtain ⟨S, s1, s2, _⟩ := rows_map r3_of64 rS tS
    obtain ⟨C, c1, c2, _⟩ := rows_map cl_of rC tC
    refine ⟨⟨f, W, S, C⟩, ?_, by show W.length ≤ _; omega, by show S.length ≤ _; omega, by show C.length ≤ _; omega⟩
    rw [w2, s2, c2, ← w1, ← s1, ← c1]; rfl
theorem u8_wf {v : Int} (h : (Lit.int .u8 v).wf = true) : 0 ≤ v ∧ v ≤ 255 := by
  simp [Lit.wf, IntKind.min, IntKind.max, IntKind.signed, IntKind.bits] at h
  omega
end Go.Proofs.Ytehemoachikpgaa
end

section
namespace Go.Proofs.Ytehemoachikpgaa
open Go Go.PS
theorem live27m (n : Nat) : (evalCall Try.prog hints (n + 100) 27 [] []).map (fun r => (r.1, r.2.2)) = some (.bool true, false) := by kernel_rfl
theorem live27 (n : Nat) : ∃ H, evalCall Try.prog hints (n + 100) 27 [] [] = some (.bool true, H, false) := by
  have h := live27m n
  cases he : evalCall Try.prog hints (n + 100) 27 [] [] with
  | none => rw [he] at h; cases h
  | some r =>
    rw [he] at h
    obtain ⟨v, H, d⟩ := r
    simp only [Option.map_some, Option.some.injEq, Prod.mk.injEq] at h
    exact ⟨H, by rw [h.1, h.2]⟩
end Go.Proofs.Ytehemoachikpgaa
end

section
namespace Go.Proofs.Ytehemoachikpgaa
open Go Go.PS
theorem stood24 : Try.prog.stoodInHeld 24 = false := by kernel_rfl
@[simp] theorem guard24 : Try.prog.eqGuardType Try.prog.depth 24 = false := by kernel_rfl
theorem stood36 : Try.prog.stoodInHeld 36 = false := by kernel_rfl
@[simp] theorem guard36 : Try.prog.eqGuardType Try.prog.depth 36 = false := by kernel_rfl
theorem stood58 : Try.prog.stoodInHeld 58 = false := by kernel_rfl
@[simp] theorem guard58 : Try.prog.eqGuardType Try.prog.depth 58 = false := by kernel_rfl
theorem eqi3 (d : Nat) (a b : Int) : eqT Try.prog (d + 1) 3 [.int .i64 a] [.int .i64 b] = some (a == b) := by simp only [eqT, Try.underlying3]; rfl
theorem eqT24 (a b c a' b' c' : Int) : eqT Try.prog 20 24 [.int .i64 a, .int .i64 b, .int .i64 c] [.int .i64 a', .int .i64 b', .int .i64 c'] = some (a == a' && (b == b' && c == c')) := by
  show eqT Try.prog (18 + 1 + 1) 24 _ _ = _
  unfold eqT
  rw [Try.underlying24]
  simp only [stood24]
  simp [eqi3, andL]
theorem eqT36 (a b a' b' : Int) : eqT Try.prog 20 36 [.int .i64 a, .int .i64 b] [.int .i64 a', .int .i64 b'] = some (a == a' && b == b') := by
  show eqT Try.prog (18 + 1 + 1) 36 _ _ = _
  unfold eqT
  rw [Try.underlying36]
  simp only [stood36]
  simp [eqi3, andL]
theorem eqT58 (a b c d e f g h i j a' b' c' d' e' f' g' h' i' j' : Int) : eqT Try.prog 20 58 [.int .i64 a, .int .i64 b, .int .i64 c, .int .i64 d, .int .i64 e, .int .i64 f, .int .i64 g, .int .i64 h, .int .i64 i, .int .i64 j] [.int .i64 a', .int .i64 b', .int .i64 c', .int .i64 d', .int .i64 e', .int .i64 f', .int .i64 g', .int .i64 h', .int .i64 i', .int .i64 j'] = some (a == a' && (b == b' && (c == c' && (d == d' && (e == e' && (f == f' && (g == g' && (h == h' && (i == i' && j == j'))))))))) := by
  show eqT Try.prog (18 + 1 + 1) 58 _ _ = _
  unfold eqT
  rw [Try.underlying58]
  simp only [stood58]
  simp [eqi3, andL]
end Go.Proofs.Ytehemoachikpgaa
end

section
namespace Go.PS
theorem iter_idxI {body : St → Option (Ex × St)} (s : Nat → St) (p : Nat → Bool) (hit : Nat → Ex × St) (out : Ex × St) : ∀ (N fuel : Nat) (st : St), st = s 0 → N < fuel →
    (∀ k, k < N → (∀ j, j < k → p j = false) → body (s k) = some (cond (p k) (hit k) (.normal, s (k + 1)))) → body (s N) = some out → (∀ k, (hit k).1 = .normal → False) → (out.1 = .normal → False) →
    iter body fuel st = some (match (List.range N).find? p with | some k => hit k | none => out)
  | _, 0, _, _, h, _, _, _, _ => by omega
  | 0, fuel + 1, st, h0, _, _, he, _, hn => by
    subst h0
    simp only [iter, he]
    split
    · rename_i h; cases h; exact (hn rfl).elim
    · rfl
  | N + 1, fuel + 1, st, h0, hf, hs, he, hn1, hn2 => by
    subst h0
    have h0 := hs 0 (by omega) (fun j hj => absurd hj (by omega))
    rw [find_succ]
    cases hp : p 0 with
    | true =>
      rw [hp] at h0
      simp only [cond_true] at h0
      simp only [iter, h0, if_true]
      split
      · rename_i h; exact (hn1 0 (by rw [Option.some.inj h])).elim
      · rfl
    | false =>
      rw [hp] at h0
      simp only [cond_false] at h0
      simp only [iter, h0, Bool.false_eq_true, if_false]
      rw [iter_idxI (fun k => s (k + 1)) (fun k => p (k + 1)) (fun k => hit (k + 1)) out N fuel _ rfl (by omega) (fun k hk hj => hs (k + 1) (by omega) (fun j hj' => by
        match j, hj' with
        | 0, _ => exact hp
        | j + 1, h => exact hj j (by omega))) he (fun k => hn1 (k + 1)) hn2]
      cases (List.range N).find? fun k => p (k + 1) <;> rfl
end Go.PS
namespace Go.Proofs.Ytehemoachikpgaa
open Go Go.PS
/-- Places. -/
structure Sp where
  a : Int
  b : Int
def Sp.cells (c : Sp) : List PV := [.int .i64 c.a, .int .i64 c.b]
theorem Sp.len (c : Sp) : c.cells.length = 2 := rfl
def Sp.is (c : Sp) : Bool := decide (0 ≤ c.a ∧ c.a < c.b)
def meetS (x y : Sp) : Bool := meets x.a x.b y.a y.b
def mayR (r : R3) : Bool := decide (1 ≤ r.o ∧ r.o ≤ 8 ∧ 128 ≤ r.a ∧ r.a < 16384 ∧ 1 ≤ r.b ∧ r.b ≤ 16384 - r.a)
def sp (r : R3) : Sp := ⟨r.a, r.a + r.b⟩
theorem f61 (n : Nat) (r : R3) (hp : Heap) : evalCall Try.prog hints (n + 1) 61 [.agg r.cells] hp = some (.bool (mayR r), hp, false) := by
  rw [evalCall_at _ _ _ hh61 rfl Try.func61 rfl (Nat.le_of_ble_eq_true rfl) rfl]
  unfold mayR
  obtain ⟨o, a, b⟩ := r
  simp only [R3.cells] at *
  by_cases c1 : 1 ≤ o
  · by_cases c2 : o ≤ 8
    · by_cases c3 : 128 ≤ a
      · by_cases c4 : a < 16384
        · have w := wrap_id (x := 16384 - a) (by omega)
          by_cases c5 : 1 ≤ b
          · simp [c1, c2, c3, c4, c5, w]
          · simp [c1, c2, c3, c4, c5]
        · simp [c1, c2, c3, c4]
      · simp [c1, c2, c3]
    · simp [c1, c2]
  · simp [c1]
theorem f57 (n : Nat) (r : R3) (hp : Heap) (h : mayR r = true) : evalCall Try.prog hints (n + 1) 57 [.agg r.cells] hp = some (.agg (sp r).cells, hp, false) := by
  unfold mayR at h; simp only [decide_eq_true_eq] at h
  have w := wrap_id (x := r.a + r.b) (by omega)
  rw [evalCall_at _ _ _ hh57 rfl Try.func57 rfl (Nat.le_of_ble_eq_true rfl) rfl]
  unfold sp Sp.cells
  clear h
  obtain ⟨o, a, b⟩ := r
  simp only [R3.cells] at *
  simp [w]
theorem f23 (n : Nat) (r : R3) (hp : Heap) (h : mayR r = true) : evalCall Try.prog hints (n + 1) 23 [.agg r.cells] hp = some (.agg (sp r).cells, hp, false) := by
  unfold mayR at h; simp only [decide_eq_true_eq] at h
  have w := wrap_id (x := r.a + r.b) (by omega)
  rw [evalCall_at _ _ _ hh23 rfl Try.func23 rfl (Nat.le_of_ble_eq_true rfl) rfl]
  unfold sp Sp.cells
  clear h
  obtain ⟨o, a, b⟩ := r
  simp only [R3.cells] at *
  simp [w]
theorem f85 (n : Nat) (s : Sp) (hp : Heap) : evalCall Try.prog hints (n + 2) 85 [.agg s.cells] hp = some (.bool (!s.is), hp, false) := by
  have e := fun hp => f79 n s.a s.b hp
  rw [evalCall_at _ _ _ hh85 rfl Try.func85 rfl (Nat.le_of_ble_eq_true rfl) rfl]
  unfold Sp.is Sp.cells
  generalize decide (0 ≤ s.a ∧ s.a < s.b) = d at *
  simp [e]
theorem f118 (n j : Nat) (x y : Sp) (hp : Heap) (hj : hp[j]? = some (.cells x.cells)) : evalCall Try.prog hints (n + 3) 118 [.agg y.cells, .ptr (.heap j) none 0] hp = some (.bool (meetS y x), hp, false) := by
  have e := fun hp => f103 n y.a y.b x.a x.b hp
  rw [evalCall_at _ _ _ hh118 rfl Try.func118 rfl (Nat.le_of_ble_eq_true rfl) rfl]
  unfold meetS
  obtain ⟨a, b⟩ := x
  obtain ⟨a', b'⟩ := y
  simp only [Sp.cells] at *
  generalize both a' b' a b = B at *
  generalize meets a' b' a b = m at *
  simp [-getElem?_pos, List.getElem?_cons_zero, hj, e]
set_option maxHeartbeats 1000000 in
theorem f117 (n g : Nat) (cap : List PV) (q : Sp → Bool) (l : List Sp) (hp : Heap) (hl : l.length ≤ 40) (hn : 60 < n) (ho : (hints g).own = none) (hg : ∀ x ∈ l, ∃ H, evalCall Try.prog hints n g (.agg x.cells :: cap) hp = some (.bool (q x), H, false)) :
    evalCall Try.prog hints (n + 1) 117 [.sl .sh l.length (l.flatMap Sp.cells), .fn g cap] hp = some (.int .i64 (idxI (idx q l)), hp, false) := by
  rw [evalCall_at _ _ _ hh117 rfl Try.func117 rfl (Nat.le_of_ble_eq_true rfl) rfl]
  have lX := flat_len Sp.len l
  have rr := fun k h => flat_row Sp.len l k h
  rw [← idx_range]
  generalize l.flatMap Sp.cells = X at *
  simp
  rw [iter_idx (fun k => { fr := [(0, .sl .sh l.length X), (1, .fn g cap), (7, .int .i64 l.length), (8, .int .i64 k)], hp := hp, base := hp.length, dirty := false }) (fun k => (l[k]?).any q) (fun k => (.ret, { fr := [(4, .int .i64 k)], hp := hp, base := hp.length, dirty := false })) (.exit 0, { fr := [(0, .sl .sh l.length X), (1, .fn g cap), (7, .int .i64 l.length), (8, .int .i64 l.length), (9, .bool false)], hp := hp, base := hp.length, dirty := false }) l.length]
  · cases (List.range l.length).find? _ <;> simp [idxI]
  · simp
  · omega
  · intro k hk
    have r := rr k hk
    obtain ⟨H, e⟩ := hg l[k] (List.getElem_mem hk)
    have z : k * 2 + 2 ≤ l.length * 2 := by omega
    have w := wrap_id (x := (k : Int) + 1) (by omega)
    rw [List.getElem?_eq_getElem hk]
    simp only [Option.any_some]
    generalize q l[k] = b at *
    generalize l[k] = x at *
    obtain ⟨f, c⟩ := x
    simp only [Sp.cells] at *
    cases b <;> simp [hk, lX, r, e, z, w, ho]
  · simp
  · simp
  · simp
theorem any_idxI' {α : Type} (q : α → Bool) (l : List α) : l.any q = decide (0 ≤ idxI (idx q l)) := by
  cases hi : idx q l with
  | none => rw [idx_none.1 hi]; simp [idxI]
  | some k =>
    obtain ⟨h1, h2⟩ := idx_lt hi
    rw [List.any_eq_true.2 ⟨_, List.getElem_mem h1, h2⟩]
    simp [idxI]
theorem f84 (n g : Nat) (cap : List PV) (q : Sp → Bool) (l : List Sp) (hp : Heap) (hl : l.length ≤ 40) (hn : 60 < n) (ho : (hints g).own = none) (hg : ∀ x ∈ l, ∃ H, evalCall Try.prog hints n g (.agg x.cells :: cap) hp = some (.bool (q x), H, false)) :
    evalCall Try.prog hints (n + 2) 84 [.sl .sh l.length (l.flatMap Sp.cells), .fn g cap] hp = some (.bool (l.any q), hp, false) := by
  have e := f117 n g cap q l hp hl hn ho hg
  rw [evalCall_at _ _ _ hh84 rfl Try.func84 rfl (Nat.le_of_ble_eq_true rfl) rfl]
  generalize l.flatMap Sp.cells = X at *
  rw [any_idxI']
  generalize idxI (idx q l) = i at *
  simp [e, ho]
end Go.Proofs.Ytehemoachikpgaa
end

section
namespace Go.Proofs.Ytehemoachikpgaa
open Go Go.PS
def meetAt (l : List Sp) (k : Nat) : Bool := (l[k]?).any fun x => (l.take k).any fun y => meetS y x
def fst83 (l : List Sp) : Int × Int := match (List.range l.length).find? (meetAt l) with
  | some k => ((l[k]?).elim (-1) fun x => idxI (idx (fun y => meetS y x) (l.take k)), k)
  | none => (-1, -1)
def hpS (hp : Heap) (l : List Sp) (k : Nat) : Heap := hp ++ (l.take k).map fun s => PS.Node.cells s.cells
theorem hpS_succ (hp : Heap) (l : List Sp) (k : Nat) (h : k < l.length) : hpS hp l (k + 1) = hpS hp l k ++ [PS.Node.cells l[k].cells] := by
  unfold hpS; rw [List.take_succ_eq_append_getElem h, List.map_append, ← List.append_assoc]; rfl
set_option maxHeartbeats 1000000 in
theorem f83 (n : Nat) (l : List Sp) (hp : Heap) (hl : l.length ≤ 40) (hn : 60 < n) :
    ∃ H, evalCall Try.prog hints (n + 5) 83 [.sl .sh l.length (l.flatMap Sp.cells)] hp = some (.tup [.int .i64 (fst83 l).1, .int .i64 (fst83 l).2], H, false) := by
  obtain ⟨HP, hHP⟩ : ∃ HP : Nat → Heap, HP = hpS hp l := ⟨_, rfl⟩
  have h0 : HP 0 = hp := by rw [hHP]; unfold hpS; simp
  have hS : ∀ k (h : k < l.length), HP k ++ [PS.Node.cells l[k].cells] = HP (k + 1) := fun k h => by rw [hHP]; exact (hpS_succ hp l k h).symm
  have e := fun k (h : k < l.length) => f117 (n + 3) 118 [.ptr (.heap (HP k).length) none 0] (fun y => meetS y l[k]) (l.take k) (HP (k + 1)) (by rw [List.length_take]; omega) (by omega) rfl (fun y _ => ⟨_, f118 n (HP k).length l[k] y _ (by rw [← hS k h]; simp)⟩)
  refine ⟨match (List.range l.length).find? (meetAt l) with | some k => HP (k + 1) | none => HP l.length, ?_⟩
  rw [evalCall_at _ _ _ hh83 rfl Try.func83 rfl (Nat.le_of_ble_eq_true rfl) rfl]
  have lX := flat_len Sp.len l
  have rr := fun k h => flat_row Sp.len l k h
  have ft := fun k => flat_take Sp.len l k
  generalize l.flatMap Sp.cells = X at *
  simp
  rw [iter_idx (fun k => { fr := [(0, .sl .sh l.length X), (7, .sl .sh l.length X), (8, .int .i64 l.length), (9, .int .i64 k)], hp := HP k, base := hp.length, dirty := false }) (meetAt l) (fun k => (.ret, { fr := [(2, .int .i64 ((l[k]?).elim (-1) fun x => idxI (idx (fun y => meetS y x) (l.take k)))), (3, .int .i64 k)], hp := HP (k + 1), base := hp.length, dirty := false })) (.exit 0, { fr := [(0, .sl .sh l.length X), (7, .sl .sh l.length X), (8, .int .i64 l.length), (9, .int .i64 l.length), (10, .bool false)], hp := HP l.length, base := hp.length, dirty := false }) l.length]
  · unfold fst83
    cases (List.range l.length).find? (meetAt l) <;> simp
  · simp [h0]
  · omega
  · intro k hk
    have r := rr k hk
    have e := e k hk
    have hS := hS k hk
    have hlast : ∀ c : PS.Node, (HP k ++ [c])[(HP k).length]? = some c := fun c => by simp
    have hb : ¬ (HP k).length < hp.length := by rw [hHP]; unfold hpS; simp
    have z : k * 2 + 2 ≤ l.length * 2 := by omega
    have w := wrap_id (x := (k : Int) + 1) (by omega)
    have k1 : (k : Int) ≤ l.length := by omega
    have hlt : (l.take k).length = k := by rw [List.length_take]; omega
    rw [← ft k, hlt] at e
    have hm : meetAt l k = decide (0 ≤ idxI (idx (fun y => meetS y l[k]) (l.take k))) := by
      unfold meetAt; rw [List.getElem?_eq_getElem hk]; exact any_idxI' _ _
    rw [hm, List.getElem?_eq_getElem hk]
    simp only [Option.elim_some]
    generalize idxI (idx (fun y => meetS y l[k]) (l.take k)) = i at *
    clear hm ft rr
    generalize l[k] = x at *
    obtain ⟨f, c⟩ := x
    simp only [Sp.cells] at *
    by_cases c : 0 ≤ i
    · simp [-getElem?_pos, List.getElem?_cons_zero, hk, k1, lX, r, e, z, w, hS, hlast, hb, c]
    · simp [-getElem?_pos, List.getElem?_cons_zero, hk, k1, lX, r, e, z, w, hS, hlast, hb, c]
  · simp
  · simp
  · simp
/-- No two spans meet, and all are spans. -/
def apartB (l : List Sp) : Bool := !((List.range l.length).any (meetAt l)) && !(l.any fun s => !s.is)
theorem find_lt {p : Nat → Bool} {N k : Nat} (h : (List.range N).find? p = some k) : k < N ∧ p k = true :=
  ⟨List.mem_range.1 (List.mem_of_find?_eq_some h), by simpa using List.find?_some h⟩
theorem fst83_lt (l : List Sp) : decide ((fst83 l).1 < 0) = !((List.range l.length).any (meetAt l)) := by
  unfold fst83
  cases h : (List.range l.length).find? (meetAt l) with
  | none =>
    have : (List.range l.length).any (meetAt l) = false := by
      rw [Bool.eq_false_iff]; intro c
      obtain ⟨k, hk, e⟩ := List.any_eq_true.1 c
      have := List.find?_eq_none.1 h k hk
      exact this e
    rw [this]; rfl
  | some k =>
    obtain ⟨h1, h2⟩ := find_lt h
    have : (List.range l.length).any (meetAt l) = true := List.any_eq_true.2 ⟨k, List.mem_range.2 h1, h2⟩
    rw [this]
    show decide (((l[k]?).elim (-1) fun x => idxI (idx (fun y => meetS y x) (l.take k))) < 0) = false
    unfold meetAt at h2
    rw [List.getElem?_eq_getElem h1] at h2 ⊢
    simp only [Option.any_some, Option.elim_some] at *
    rw [any_idxI', decide_eq_true_eq] at h2
    exact decide_eq_false (by omega)
theorem f62 (n : Nat) (l : List Sp) (hp : Heap) (hl : l.length ≤ 40) (hn : 60 < n) :
    evalCall Try.prog hints (n + 6) 62 [.sl .sh l.length (l.flatMap Sp.cells)] hp = some (.bool (apartB l), hp, false) := by
  obtain ⟨H, e1⟩ := f83 n l hp hl hn
  have e2 : evalCall Try.prog hints (n + 5) 84 [.sl .sh l.length (l.flatMap Sp.cells), .fn 85 []] hp = _ := f84 (n + 3) 85 [] (fun s => !s.is) l hp hl (by omega) rfl (fun x _ => ⟨_, f85 (n + 1) x hp⟩)
  rw [evalCall_at _ _ _ hh62 rfl Try.func62 rfl (Nat.le_of_ble_eq_true rfl) rfl]
  unfold apartB
  rw [← fst83_lt]
  generalize l.flatMap Sp.cells = X at *
  generalize l.any _ = b at *
  generalize (fst83 l).1 = i at *
  generalize (fst83 l).2 = i2 at *
  by_cases c : i < 0
  · simp [e1, e2, c]
  · simp [e1, e2, c]
end Go.Proofs.Ytehemoachikpgaa
end

section
namespace Go.Proofs.Ytehemoachikpgaa
open Go Go.PS
def rgOf (c : Cl) (i : Nat) : R3 := ⟨(i : Int) + 1, c.base, c.size⟩
/-- The clients' memories. -/
def rgsK (l : List Cl) : Nat → List R3
  | 0 => []
  | k + 1 => rgsK l k ++ match l[k]? with
    | some c => [rgOf c k]
    | none => []
theorem rgsK_succ {l : List Cl} {k : Nat} (h : k < l.length) : rgsK l (k + 1) = rgsK l k ++ [rgOf l[k] k] := by
  rw [rgsK, List.getElem?_eq_getElem h]
theorem rgsK_len {l : List Cl} : ∀ {k : Nat}, k ≤ l.length → (rgsK l k).length = k
  | 0, _ => rfl
  | k + 1, h => by rw [rgsK_succ (by omega), List.length_append, rgsK_len (by omega)]; rfl
theorem rgsK_at {l : List Cl} : ∀ {k : Nat}, k ≤ l.length → ∀ i (hi : i < l.length), i < k → (rgsK l k)[i]? = some (rgOf l[i] i)
  | 0, _, i, _, h => absurd h (by omega)
  | k + 1, hk, i, hi, h => by
    rw [rgsK_succ (by omega)]
    have hl := rgsK_len (l := l) (k := k) (by omega)
    by_cases c : i = k
    · subst c
      rw [List.getElem?_append_right (by omega), hl, Nat.sub_self]; rfl
    · rw [List.getElem?_append_left (by omega)]
      exact rgsK_at (by omega) i hi (by omega)
set_option maxHeartbeats 1000000 in
theorem f29 (n : Nat) (t : Tab) (hp : Heap) (hl : t.C.length ≤ 8) (h1 : t.C ≠ []) (hn : 60 < n) : evalCall Try.prog hints (n + 1) 29 [.agg t.cells] hp = some (.sl (.mu 3) t.C.length ((rgsK t.C t.C.length).flatMap R3.cells), hp, false) := by
  rw [evalCall_at _ _ _ hh29 rfl Try.func29 rfl (Nat.le_of_ble_eq_true rfl) rfl]
  have lX := flat_len Cl.len t.C
  have rr := fun k h => flat_row Cl.len t.C k h
  obtain ⟨G, hG⟩ : ∃ G : Nat → List PV, G = fun k => (rgsK t.C k).flatMap R3.cells := ⟨_, rfl⟩
  rw [show (rgsK t.C t.C.length).flatMap R3.cells = G t.C.length by rw [hG]]
  simp only [Tab.cells_eq]
  generalize t.S.flatMap R3.cells = Y at *
  generalize t.W.flatMap R3.cells = X at *
  generalize t.C.flatMap Cl.cells = Z at *
  simp
  rw [iter_count (fun k => { fr := [(3, .sl (.mu 3) k (G k)), (7, .sl .sh t.C.length Z), (8, .int .i64 t.C.length), (9, .int .i64 k)], hp := hp, base := hp.length, dirty := false }) (.exit 0, { fr := [(3, .sl (.mu 3) t.C.length (G t.C.length)), (7, .sl .sh t.C.length Z), (8, .int .i64 t.C.length), (9, .int .i64 t.C.length), (10, .bool false)], hp := hp, base := hp.length, dirty := false }) t.C.length]
  · simp
  · simp [hG, rgsK]
  · omega
  · intro k hk
    have r := rr k hk
    have z : k * 10 + 10 ≤ t.C.length * 10 := by omega
    have w := wrap_id (x := (k : Int) + 1) (by omega)
    have m1 : (k + 1) * 24 ≤ 140737488355328 := by omega
    have hS : G (k + 1) = G k ++ (rgOf t.C[k] k).cells := by
      rw [hG]; simp only
      rw [rgsK_succ hk, List.flatMap_append]; simp
    have lG : (G k).length = k * 3 := by
      rw [hG]; simp only
      rw [flat_len R3.len, rgsK_len (by omega)]
    have aG : (G k).all storable = true := by rw [hG]; exact flat_all (f := R3.cells) (fun _ => rfl) _
    rw [hS]
    clear hS hG
    generalize G k = g at *
    generalize t.C[k] = x at *
    obtain ⟨x1, x2, x3, x4, x5, x6, x7, x8, x9, x10⟩ := x
    simp only [Cl.cells, rgOf, R3.cells] at *
    simp [-getElem?_pos, List.getElem?_cons_zero, hk, lX, r, z, w, m1, lG, aG]
  · simp
  · simp
set_option maxHeartbeats 1000000 in
theorem f31 (n : Nat) (l : List Sp) (hp : Heap) (hl : l.length ≤ 40) (hn : 60 < n) (h : l.Pairwise fun y x => meetS y x = false) :
    evalCall Try.prog hints (n + 4) 31 [.sl .sh l.length (l.flatMap Sp.cells)] hp = some (.tup [.int .i64 (-1), .int .i64 (-1)], hp, false) := by
  have e63 := fun a b c d => f63 n a b c d hp
  rw [evalCall_at _ _ _ hh31 rfl Try.func31 rfl (Nat.le_of_ble_eq_true rfl) rfl]
  have lX := flat_len Sp.len l
  have rr := fun k h => flat_row Sp.len l k h
  generalize l.flatMap Sp.cells = X at *
  simp
  rw [iter_count (fun k => { fr := [(0, .sl .sh l.length X), (4, .int .i64 k)], hp := hp, base := hp.length, dirty := false }) (.exit 0, { fr := [(0, .sl .sh l.length X), (4, .int .i64 l.length), (9, .bool false)], hp := hp, base := hp.length, dirty := false }) l.length]
  · simp
  · simp
  · omega
  · intro k hk
    have r := rr k hk
    have z : k * 2 + 2 ≤ l.length * 2 := by omega
    have w := wrap_id (x := (k : Int) + 1) (by omega)
    simp [-getElem?_pos, List.getElem?_cons_zero, hk]
    rw [iter_count (fun j => { fr := [(0, .sl .sh l.length X), (4, .int .i64 k), (5, .int .i64 j)], hp := hp, base := hp.length, dirty := false }) (.exit 2, { fr := [(0, .sl .sh l.length X), (4, .int .i64 k), (5, .int .i64 k), (14, .bool false)], hp := hp, base := hp.length, dirty := false }) k]
    · simp [w]
    · simp
    · omega
    · intro j hj
      have hj' : j < l.length := by omega
      have rj := rr j hj'
      have zj : j * 2 + 2 ≤ l.length * 2 := by omega
      have wj := wrap_id (x := (j : Int) + 1) (by omega)
      have m := List.pairwise_iff_getElem.1 h j k hj' hk hj
      unfold meetS at m
      have e := e63 l[j].a l[j].b l[k].a l[k].b
      rw [m] at e
      clear m
      generalize l[j] = y at *
      generalize l[k] = x at *
      obtain ⟨x1, x2⟩ := x
      obtain ⟨y1, y2⟩ := y
      simp only [Sp.cells] at *
      simp [-getElem?_pos, List.getElem?_cons_zero, hj, hj', hk, lX, r, rj, z, zj, wj, e]
    · simp
    · simp
  · simp
  · simp
end Go.Proofs.Ytehemoachikpgaa
end

section
namespace Go.Proofs.Ytehemoachikpgaa
open Go Go.PS
def cntO (l : List R3) (o : Nat) : Int := ((l.filter fun w => decide (w.o = (o : Int))).length : Int)
def hvL (N : Nat) (l : List R3) : List PV := (List.range N).map fun o => .int .i64 (cntO l o)
theorem cntO_snoc (l : List R3) (w : R3) (o : Nat) : cntO (l ++ [w]) o = cntO l o + if w.o = (o : Int) then 1 else 0 := by
  unfold cntO
  rw [List.filter_append]
  by_cases c : w.o = (o : Int)
  · rw [if_pos c]; simp [c]
  · rw [if_neg c]; simp [c]
theorem cntO_le (l : List R3) (o : Nat) : 0 ≤ cntO l o ∧ cntO l o ≤ l.length := by
  unfold cntO
  have := List.length_filter_le (fun w : R3 => decide (w.o = (o : Int))) l
  omega
theorem hvL_get (N : Nat) (l : List R3) (j : Nat) (h : j < N) : (hvL N l)[j]? = some (.int .i64 (cntO l j)) := by
  unfold hvL; rw [List.getElem?_map, List.getElem?_range h]; rfl
theorem hvL_len (N : Nat) (l : List R3) : (hvL N l).length = N := by unfold hvL; simp
theorem hvL_set (N : Nat) (l : List R3) (w : R3) (j : Nat) (hw : w.o = (j : Int)) : (hvL N l).set j (.int .i64 (cntO l j + 1)) = hvL N (l ++ [w]) := by
  apply List.ext_getElem?
  intro i
  rw [List.getElem?_set]
  by_cases c : j = i
  · subst c
    rw [if_pos rfl, hvL_len]
    by_cases h : j < N
    · rw [if_pos h, hvL_get _ _ _ h, cntO_snoc, if_pos hw]
    · rw [if_neg h, List.getElem?_eq_none (by rw [hvL_len]; omega)]
  · rw [if_neg c]
    by_cases h : i < N
    · rw [hvL_get _ _ _ h, hvL_get _ _ _ h, cntO_snoc, if_neg (by omega), Int.add_zero]
    · rw [List.getElem?_eq_none (by rw [hvL_len]; omega), List.getElem?_eq_none (by rw [hvL_len]; omega)]
theorem hvL_nil (N : Nat) : hvL N [] = List.replicate N (.int .i64 0) := by
  show (List.range N).map (fun _ => PV.int .i64 0) = _
  rw [List.map_const', List.length_range]
theorem cntO_one {o : Nat} : ∀ {l : List R3}, l.Pairwise (fun y x => pairW x y = false) → (l.any fun w => decide (w.o = (o : Int))) = true → cntO l o = 1
  | [], _, h => by simp at h
  | w :: l, hp, h => by
    rw [List.pairwise_cons] at hp
    obtain ⟨h1, h2⟩ := hp
    by_cases c : w.o = (o : Int)
    · have hz : (l.filter fun w => decide (w.o = (o : Int))) = [] := by
        rw [List.filter_eq_nil_iff]
        intro x hx
        have := h1 x hx
        unfold pairW at this
        rw [Bool.or_eq_false_iff] at this
        have := of_decide_eq_false this.1
        simp only [decide_eq_true_eq]
        omega
      unfold cntO
      rw [List.filter_cons, if_pos (by simp [c]), hz]; rfl
    · rw [List.any_cons, decide_eq_false c, Bool.false_or] at h
      have := cntO_one h2 h
      unfold cntO at *
      rw [List.filter_cons, if_neg (by simp [c])]
      exact this
def wsp (w : R3) : Sp := ⟨w.a, w.b⟩
theorem meets_comm (a b c d : Int) : meets a b c d = meets c d a b := by
  rw [Bool.eq_iff_iff]
  unfold meets holds
  simp only [Bool.and_eq_true, Bool.or_eq_true, decide_eq_true_eq]
  omega
theorem wsp_apart {l : List R3} {p : R3 → R3 → Bool} (hp : ∀ x y, p x y = false → meets x.a x.b y.a y.b = false) (h : l.Pairwise fun y x => p x y = false) : (l.map wsp).Pairwise fun y x => meetS y x = false := by
  rw [List.pairwise_map]
  refine h.imp fun {y x} e => ?_
  show meets y.a y.b x.a x.b = false
  rw [meets_comm]; exact hp x y e
theorem rgs_apart (t : Tab) (g : Good t) : ((rgsK t.C t.C.length).map sp).Pairwise fun y x => meetS y x = false := by
  rw [List.pairwise_map, List.pairwise_iff_getElem]
  intro i j hi hj hij
  have hl := rgsK_len (l := t.C) (Nat.le_refl _)
  have hi' : i < t.C.length := by omega
  have hj' : j < t.C.length := by omega
  have ei := rgsK_at (l := t.C) (Nat.le_refl _) i hi' hi'
  have ej := rgsK_at (l := t.C) (Nat.le_refl _) j hj' hj'
  rw [List.getElem?_eq_getElem hi] at ei
  rw [List.getElem?_eq_getElem hj] at ej
  rw [Option.some.inj ei, Option.some.inj ej]
  have p := List.pairwise_iff_getElem.1 g.cpair i j hi' hj' hij
  have c1 := g.cok t.C[i] (List.getElem_mem hi')
  have c2 := g.cok t.C[j] (List.getElem_mem hj')
  rw [pairC_eq, decide_eq_true c1, decide_eq_true c2, Bool.true_and, Bool.true_and] at p
  unfold shareC at p
  simp only [Bool.or_eq_false_iff] at p
  show meets t.C[i].base (t.C[i].base + t.C[i].size) t.C[j].base (t.C[j].base + t.C[j].size) = false
  rw [meets_comm]; exact p.1.2
set_option maxHeartbeats 2000000 in
theorem f8 (n : Nat) (t : Tab) : fstR (evalCall Try.prog hints (n + 200) 8 [.agg t.cells] []) = some (.bool true) := by
  obtain ⟨H27, e27⟩ : ∃ H, evalCall Try.prog hints (n + 199) 27 [] [] = some (.bool true, H, false) := live27 (n + 99)
  obtain ⟨H28, e28⟩ : ∃ H, evalCall Try.prog hints (n + 199) 28 [.agg t.cells] [] = some (.bool (decide ((faults t).length = 0)), H, false) := f28 (n + 188) t [] (by omega)
  rw [evalCall_at _ _ _ hh8 rfl Try.func8 rfl (Nat.le_of_ble_eq_true rfl) rfl]
  by_cases h0 : faults t = []
  · have g := good_of h0
    have hf := g.frame
    unfold frameB at hf; simp only [decide_eq_true_eq] at hf
    rw [decide_eq_true (show (faults t).length = 0 by rw [h0]; rfl)] at e28
    have w1 := wrap_id (x := (t.C.length : Int) + 1) (by omega)
    obtain ⟨N, hN⟩ : ∃ N : Nat, N = t.C.length + 1 := ⟨_, rfl⟩
    have hN' : (t.C.length : Int) + 1 = (N : Int) := by omega
    rw [hN'] at w1
    obtain ⟨SW, hSW⟩ : ∃ SW : Nat → List PV, SW = fun k => ((t.W.take k).map wsp).flatMap Sp.cells := ⟨_, rfl⟩
    obtain ⟨SS, hSS⟩ : ∃ SS : Nat → List PV, SS = fun k => ((t.S.take k).map wsp).flatMap Sp.cells := ⟨_, rfl⟩
    obtain ⟨SR, hSR⟩ : ∃ SR : Nat → List PV, SR = fun k => ((rgsK t.C k).map sp).flatMap Sp.cells := ⟨_, rfl⟩
    obtain ⟨HV, hHV⟩ : ∃ HV : Nat → List PV, HV = fun k => hvL N (t.W.take k) := ⟨_, rfl⟩
    have hV0 : List.replicate N (PV.int .i64 0) = HV 0 := by rw [hHV]; exact (hvL_nil N).symm
    simp only [Tab.cells_eq] at e28 ⊢
    generalize hY : t.S.flatMap R3.cells = Y at *
    generalize hX : t.W.flatMap R3.cells = X at *
    generalize hZ : t.C.flatMap Cl.cells = Z at *
    have e29 : evalCall Try.prog hints (n + 199) 29 [.agg [.int .i64 t.f, .sl .sh t.W.length X, .sl .sh t.S.length Y, .sl .sh t.C.length Z]] [] = some (.sl (.mu 3) t.C.length ((rgsK t.C t.C.length).flatMap R3.cells), [], false) := by
      have := f29 (n + 198) t [] (by omega) (fun h => by rw [h] at hf; simp at hf) (by omega)
      rw [Tab.cells_eq, hX, hY, hZ] at this; exact this
    have e30 : ∀ r, evalCall Try.prog hints (n + 199) 30 [.agg [.int .i64 t.f, .sl .sh t.W.length X, .sl .sh t.S.length Y, .sl .sh t.C.length Z], .int .i64 r] [] = some (.int .i64 (units t r t.S), [], false) := fun r => by
      have := f30 (n + 195) t r [] g.frame (by omega)
      rw [Tab.cells_eq, hX, hY, hZ] at this; exact this
    obtain ⟨G, hG⟩ : ∃ G, G = (rgsK t.C t.C.length).flatMap R3.cells := ⟨_, rfl⟩
    rw [← hG] at e29
    have hrl := rgsK_len (l := t.C) (Nat.le_refl _)
    have pG : G.all plain1 = true := by rw [hG, List.all_flatMap]; simp [R3.cells, plain1]
    have rG : ∀ k (h : k < t.C.length), (G.drop (k * 3)).take 3 = (rgOf t.C[k] k).cells := fun k h => by
      have e := rgsK_at (l := t.C) (Nat.le_refl _) k h h
      have h' : k < (rgsK t.C t.C.length).length := by omega
      rw [List.getElem?_eq_getElem h'] at e
      rw [hG, flat_row R3.len _ k h', Option.some.inj e]
    have gG : ∀ k (h : k < t.C.length) c (hc : c < 3), G[k * 3 + c]? = (rgOf t.C[k] k).cells[c]? := fun k h c hc => by
      have e := rgsK_at (l := t.C) (Nat.le_refl _) k h h
      have h' : k < (rgsK t.C t.C.length).length := by omega
      rw [List.getElem?_eq_getElem h'] at e
      rw [hG, flat_get R3.len _ k h' c hc, Option.some.inj e]
    have lG : G.length = t.C.length * 3 := by rw [hG, flat_len R3.len, hrl]
    have lC := flat_len Cl.len t.C
    rw [hZ] at lC
    have vH : ∀ o, o < N → (HV t.W.length)[o]? = some (.int .i64 1) := fun o ho => by
      rw [hHV]; simp only
      rw [List.take_length, hvL_get N _ o ho, cntO_one g.wpair (g.own o (by omega))]
    have oS := fun k => flat_out (f := Sp.cells) (fun _ => rfl) ((t.S.take k).map wsp)
    have e31W : evalCall Try.prog hints (n + 199) 31 [.sl .sh t.W.length (SW t.W.length)] [] = some (.tup [.int .i64 (-1), .int .i64 (-1)], [], false) := by
      have := f31 (n + 195) (t.W.map wsp) [] (by rw [List.length_map]; omega) (by omega) (wsp_apart (fun x y h => by unfold pairW at h; exact (Bool.or_eq_false_iff.1 h).2) g.wpair)
      rw [List.length_map] at this
      rw [hSW]; simp only
      rw [List.take_length]; exact this
    have e31S : evalCall Try.prog hints (n + 199) 31 [.sl .sh t.S.length (SS t.S.length)] [] = some (.tup [.int .i64 (-1), .int .i64 (-1)], [], false) := by
      have := f31 (n + 195) (t.S.map wsp) [] (by rw [List.length_map]; omega) (by omega) (wsp_apart (fun x y h => h) g.spair)
      rw [List.length_map] at this
      rw [hSS]; simp only
      rw [List.take_length]; exact this
    have e31R : evalCall Try.prog hints (n + 199) 31 [.sl .sh t.C.length (SR t.C.length)] [] = some (.tup [.int .i64 (-1), .int .i64 (-1)], [], false) := by
      have := f31 (n + 195) ((rgsK t.C t.C.length).map sp) [] (by rw [List.length_map]; omega) (by omega) (rgs_apart t g)
      rw [List.length_map, hrl] at this
      rw [hSR]; exact this
    have oW : (SW t.W.length).map outCell = SW t.W.length := by rw [hSW]; exact flat_out (f := Sp.cells) (fun _ => rfl) _
    have oS : (SS t.S.length).map outCell = SS t.S.length := by rw [hSS]; exact flat_out (f := Sp.cells) (fun _ => rfl) _
    have oR : (SR t.C.length).map outCell = SR t.C.length := by rw [hSR]; exact flat_out (f := Sp.cells) (fun _ => rfl) _
    have mN : (N : Int) ≤ 140737488355328 := by omega
    have mN' : 8 * (N : Int) ≤ 140737488355328 := by omega
    simp [-getElem?_pos, List.getElem?_cons_zero, e28, hN', w1, hV0, mN, mN']
    rw [iter_count (fun k => { fr := [(1, .box [.int .i64 t.f, .sl .sh t.W.length X, .sl .sh t.S.length Y, .sl .sh t.C.length Z]), (3, .sl (.mu 2) k (SW k)), (4, .sl (.mu 2) 0 []), (5, .sl (.mu 2) 0 []), (6, .sl (.mu 1) N (HV k)), (7, .int .i64 k)], hp := [], base := 0, dirty := false }) (.exit 0, { fr := [(1, .box [.int .i64 t.f, .sl .sh t.W.length X, .sl .sh t.S.length Y, .sl .sh t.C.length Z]), (3, .sl (.mu 2) t.W.length (SW t.W.length)), (4, .sl (.mu 2) 0 []), (5, .sl (.mu 2) 0 []), (6, .sl (.mu 1) N (HV t.W.length)), (7, .int .i64 t.W.length), (39, .bool false)], hp := [], base := 0, dirty := false }) t.W.length]
    · simp [-getElem?_pos, List.getElem?_cons_zero]
      rw [iter_count (fun k => { fr := [(1, .box [.int .i64 t.f, .sl .sh t.W.length X, .sl .sh t.S.length Y, .sl .sh t.C.length Z]), (3, .sl (.mu 2) t.W.length (SW t.W.length)), (4, .sl (.mu 2) k (SS k)), (5, .sl (.mu 2) 0 []), (6, .sl (.mu 1) N (HV t.W.length)), (8, .int .i64 k)], hp := [], base := 0, dirty := false }) (.exit 2, { fr := [(1, .box [.int .i64 t.f, .sl .sh t.W.length X, .sl .sh t.S.length Y, .sl .sh t.C.length Z]), (3, .sl (.mu 2) t.W.length (SW t.W.length)), (4, .sl (.mu 2) t.S.length (SS t.S.length)), (5, .sl (.mu 2) 0 []), (6, .sl (.mu 1) N (HV t.W.length)), (8, .int .i64 t.S.length), (101, .bool false)], hp := [], base := 0, dirty := false }) t.S.length]
      · simp [-getElem?_pos, List.getElem?_cons_zero, e29, pG]
        rw [iter_count (fun k => { fr := [(1, .box [.int .i64 t.f, .sl .sh t.W.length X, .sl .sh t.S.length Y, .sl .sh t.C.length Z]), (3, .sl (.mu 2) t.W.length (SW t.W.length)), (4, .sl (.mu 2) t.S.length (SS t.S.length)), (5, .sl (.mu 2) k (SR k)), (6, .sl (.mu 1) N (HV t.W.length)), (9, .sl (.mu 3) t.C.length G), (10, .int .i64 k)], hp := [], base := 0, dirty := false }) (.exit 4, { fr := [(1, .box [.int .i64 t.f, .sl .sh t.W.length X, .sl .sh t.S.length Y, .sl .sh t.C.length Z]), (3, .sl (.mu 2) t.W.length (SW t.W.length)), (4, .sl (.mu 2) t.S.length (SS t.S.length)), (5, .sl (.mu 2) t.C.length (SR t.C.length)), (6, .sl (.mu 1) N (HV t.W.length)), (9, .sl (.mu 3) t.C.length G), (10, .int .i64 t.C.length), (131, .bool false)], hp := [], base := 0, dirty := false }) t.C.length]
        · have lH : (HV t.W.length).length = N := by rw [hHV]; exact hvL_len N _
          have v0 := vH 0 (by omega)
          have pN : 0 < N := by omega
          simp [-getElem?_pos, List.getElem?_cons_zero, e31W, e31S, e31R, e27, v0, lH, pN, oW, oS, oR]
        · simp [hSR, rgsK]
        · omega
        · intro k hk
          have r := rG k hk
          have rC := flat_get Cl.len t.C k hk
          rw [hZ] at rC
          have b0 := rC 0 (by omega)
          have b1 := rC 1 (by omega)
          have b4 := rC 4 (by omega)
          have ck := g.cok t.C[k] (List.getElem_mem hk)
          have qk := g.quota k hk
          unfold overU at qk
          have qk := of_decide_eq_false qk
          have e30 := e30 ((k : Int) + 1)
          have vk := vH (k + 1) (by omega)
          have lH : (HV t.W.length).length = N := by rw [hHV]; exact hvL_len N _
          have kN : k + 1 < N := by omega
          have k0 : (0 : Int) ≤ (k : Int) + 1 := by omega
          have kN2 : k + 1 + 1 ≤ N := by omega
          have kN3 : k + 2 ≤ N := by omega
          have kN' : (k : Int) + 1 < N := by omega
          have z : k * 3 + 3 ≤ t.C.length * 3 := by omega
          have z' : k * 10 + 10 ≤ t.C.length * 10 := by omega
          have w := wrap_id (x := (k : Int) + 1) (by omega)
          have m1 : (k + 1) * 16 ≤ 140737488355328 := by omega
          have ws := wrap_id (x := t.C[k].base + t.C[k].size) (by unfold Cl.ok at ck; omega)
          have hS : SR (k + 1) = SR k ++ (sp (rgOf t.C[k] k)).cells := by
            rw [hSR]; simp only
            rw [rgsK_succ hk, List.map_append, List.flatMap_append]; simp
          have lS : (SR k).length = k * 2 := by
            rw [hSR]; simp only
            rw [flat_len Sp.len, List.length_map, rgsK_len (by omega)]
          have aS : (SR k).all storable = true := by rw [hSR]; exact flat_all (f := Sp.cells) (fun _ => rfl) _
          have g1 := gG k hk 1 (by omega)
          have g2 := gG k hk 2 (by omega)
          generalize units t ((k : Int) + 1) t.S = u at *
          rw [hS]
          clear hS hSR hHV rC ck
          generalize t.C[k] = x at *
          obtain ⟨x1, x2, x3, x4, x5, x6, x7, x8, x9, x10⟩ := x
          simp only [Cl.cells, rgOf, R3.cells, sp, Sp.cells, Nat.add_zero, List.getElem?_cons_zero, List.getElem?_cons_succ] at *
          simp [-getElem?_pos, List.getElem?_cons_zero, hk, lC, lG, r, b0, b1, b4, g1, g2, e30, qk, vk, lH, k0, kN, kN', kN2, kN3, z, z', w, m1, ws, lS, aS, eqT24]
        · simp
        · simp
      · simp [hSS]
      · omega
      · intro k hk
        have r := flat_get R3.len t.S k hk
        rw [hY] at r
        have r1 := r 1 (by omega)
        have r2 := r 2 (by omega)
        have lX := flat_len R3.len t.S
        rw [hY] at lX
        have w := wrap_id (x := (k : Int) + 1) (by omega)
        have m1 : (k + 1) * 16 ≤ 140737488355328 := by omega
        have hS : SS (k + 1) = SS k ++ (wsp t.S[k]).cells := by
          rw [hSS]; simp only
          rw [List.take_succ_eq_append_getElem hk, List.map_append, List.flatMap_append]; simp
        have hlk : (t.S.take k).length = k := by rw [List.length_take]; omega
        have lS : (SS k).length = k * 2 := by
          rw [hSS]; simp only
          rw [flat_len Sp.len, List.length_map, hlk]
        have aS : (SS k).all storable = true := by rw [hSS]; exact flat_all (f := Sp.cells) (fun _ => rfl) _
        have z : k * 3 + 3 ≤ t.S.length * 3 := by omega
        rw [hS]
        clear hS hSS r
        generalize t.S[k] = x at *
        obtain ⟨o, a, b⟩ := x
        simp only [R3.cells, wsp, Sp.cells, Nat.add_zero, List.getElem?_cons_zero, List.getElem?_cons_succ] at *
        simp [-getElem?_pos, List.getElem?_cons_zero, hk, lX, r1, r2, z, w, m1, lS, aS]
      · simp
      · simp
    · simp [hSW]
    · omega
    · intro k hk
      have r := flat_get R3.len t.W k hk
      rw [hX] at r
      have r0 := r 0 (by omega)
      have r1 := r 1 (by omega)
      have r2 := r 2 (by omega)
      have lX := flat_len R3.len t.W
      rw [hX] at lX
      have wk := g.wok t.W[k] (List.getElem_mem hk)
      unfold okW at wk; simp only [decide_eq_true_eq] at wk
      obtain ⟨j, hj⟩ : ∃ j : Nat, (j : Int) = t.W[k].o := ⟨t.W[k].o.toNat, by omega⟩
      have hjN : j < N := by omega
      have z : k * 3 + 3 ≤ t.W.length * 3 := by omega
      have w := wrap_id (x := (k : Int) + 1) (by omega)
      have m1 : (k + 1) * 16 ≤ 140737488355328 := by omega
      have hS : SW (k + 1) = SW k ++ (wsp t.W[k]).cells := by
        rw [hSW]; simp only
        rw [List.take_succ_eq_append_getElem hk, List.map_append, List.flatMap_append]; simp
      have hlk : (t.W.take k).length = k := by rw [List.length_take]; omega
      have lS : (SW k).length = k * 2 := by
        rw [hSW]; simp only
        rw [flat_len Sp.len, List.length_map, hlk]
      have aS : (SW k).all storable = true := by rw [hSW]; exact flat_all (f := Sp.cells) (fun _ => rfl) _
      have gS : (SW k ++ (wsp t.W[k]).cells)[k * 2 + 1]? = some (.int .i64 t.W[k].b) := by
        rw [List.getElem?_append_right (by omega), lS]; simp [wsp, Sp.cells]
      have vH : (HV k)[j]? = some (.int .i64 (cntO (t.W.take k) j)) := by rw [hHV]; exact hvL_get N _ j hjN
      have lH : (HV k).length = N := by rw [hHV]; exact hvL_len N _
      have sH : (HV k).set j (.int .i64 (cntO (t.W.take k) j + 1)) = HV (k + 1) := by
        rw [hHV]; simp only
        rw [List.take_succ_eq_append_getElem hk]; exact hvL_set N _ _ j hj.symm
      have cb := cntO_le (t.W.take k) j
      rw [hlk] at cb
      have wc := wrap_id (x := cntO (t.W.take k) j + 1) (by omega)
      generalize cntO (t.W.take k) j = c at *
      rw [hS]
      clear hS hSW hHV r
      generalize t.W[k] = x at *
      obtain ⟨o, a, b⟩ := x
      simp only [R3.cells, wsp, Sp.cells, Nat.add_zero, List.getElem?_cons_zero, List.getElem?_cons_succ] at *
      subst hj
      have hjN1 : j + 1 ≤ N := by omega
      have hlt : (k : Int) < (k : Int) + 1 := by omega
      have ar := ar2 k
      have c1 : ¬ (j : Int) < 0 := by omega
      have c2 : ¬ N ≤ j := by omega
      have c3 : ¬ t.f < b := by omega
      simp [-getElem?_pos, List.getElem?_cons_zero, hk, lX, r0, r1, r2, z, w, m1, lS, aS, gS, vH, lH, sH, wc, c1, c2, c3, hjN, hlt, ar, hjN1]
    · simp
    · simp
  · have e26 : evalCall Try.prog hints (n + 199) 26 [.agg t.cells] [] = _ := f26' (n + 193) t [] (by omega)
    have px : ((faults t).flatMap F2.cells).all plain1 = true := by rw [List.all_flatMap]; simp [F2.cells, plain1]
    have hl : (faults t).length ≠ 0 := fun h => h0 (List.length_eq_zero_iff.1 h)
    rw [decide_eq_false hl] at e28
    have hp : 0 < ((faults t).length : Int) := by omega
    have hp' : 0 < (faults t).length := by omega
    clear h0 hl
    simp only [Tab.cells_eq] at *
    generalize (faults t).flatMap F2.cells = A at *
    generalize (faults t).length = a at *
    generalize t.S.flatMap R3.cells = Y at *
    generalize t.C.flatMap Cl.cells = Z at *
    generalize t.W.flatMap R3.cells = X at *
    simp [-getElem?_pos, -List.all_eq_true, List.getElem?_cons_zero, e26, e27, e28, px, hp, hp']
end Go.Proofs.Ytehemoachikpgaa
end
