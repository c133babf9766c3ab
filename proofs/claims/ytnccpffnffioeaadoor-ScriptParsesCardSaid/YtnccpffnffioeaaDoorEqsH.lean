/-
  What functions of this program compute, as equations about the evaluator. No condition but those stated.
-/
import Derived.Test.YtnccpffnffioeaaDoorEqsG

set_option linter.all false
section
namespace Go.PS
/- Numbers. -/
theorem valN_app (a : Nat) (l : List UInt8) (c : UInt8) : valN a (l ++ [c]) = 10 * valN a l + (c.toNat - 48) := by
  induction l generalizing a with
  | nil => rfl
  | cons b l ih => exact ih _
theorem valN_ge (a : Nat) (l : List UInt8) : a ≤ valN a l := by
  induction l generalizing a with
  | nil => exact Nat.le_refl _
  | cons b l ih => exact Nat.le_trans (by omega) (ih _)
theorem u48 {d : Nat} (h : d < 10) : (UInt8.ofNat (48 + d)).toNat = 48 + d := by
  rw [UInt8.toNat_ofNat']; omega
theorem dec_all (n : Nat) : (Lib.decDigits n).all isD = true := by
  induction n using Nat.strongRecOn with
  | _ n ih =>
    rw [Lib.decDigits]
    split
    · rename_i h
      simp [isD, u48 h]; omega
    · rename_i h
      rw [List.all_append, ih (n / 10) (by omega)]
      have := u48 (d := n % 10) (by omega)
      simp [isD, this]; omega
theorem dec_ne (n : Nat) : Lib.decDigits n ≠ [] := by
  rw [Lib.decDigits]
  split <;> simp
theorem dec_val (n : Nat) : valN 0 (Lib.decDigits n) = n := by
  induction n using Nat.strongRecOn with
  | _ n ih =>
    by_cases h : n < 10
    · have e := u48 h
      rewrite [Lib.decDigits_one h]
      show 10 * 0 + ((UInt8.ofNat (48 + n)).toNat - 48) = n
      rewrite [e]
      omega
    · have e1 := ih (n / 10) (by omega)
      have e2 := u48 (d := n % 10) (by omega)
      rewrite [Lib.decDigits, dif_neg h, valN_app, e1, e2]
      clear e1 e2 ih
      omega
theorem dec_head (n : Nat) (h : 1 ≤ n) : (Lib.decDigits n)[0]? ≠ some 48 := by
  induction n using Nat.strongRecOn with
  | _ n ih =>
    rw [Lib.decDigits]
    split
    · rename_i h2
      simp only [List.getElem?_cons_zero]
      intro e
      have e : UInt8.ofNat (48 + n) = 48 := by simpa using e
      have := congrArg UInt8.toNat e
      rw [u48 h2] at this
      have : 48 + n = 48 := this
      omega
    · rename_i h2
      have := ih (n / 10) (by omega) (by omega)
      have hne := dec_ne (n / 10)
      rw [List.getElem?_append_left (List.length_pos_iff.2 hne)]
      exact this
theorem snoc {α : Type} {l : List α} (h : l ≠ []) : ∃ u c, l = u ++ [c] := ⟨l.dropLast, l.getLast h, (List.dropLast_concat_getLast h).symm⟩
theorem dec_of : ∀ (k : Nat) (w : List UInt8), w.length = k → w ≠ [] → w.all isD = true → ¬ (1 < w.length ∧ w[0]? = some 48) → Lib.decDigits (valN 0 w) = w := by
  intro k
  induction k using Nat.strongRecOn with
  | _ k ih =>
    intro w hk hne hall hz
    obtain ⟨u, c, rfl⟩ := snoc hne
    rw [List.all_append] at hall
    simp only [Bool.and_eq_true] at hall
    have hc : isD c = true := by simpa using hall.2
    have hc' := hc
    unfold isD at hc'
    simp at hc'
    rw [valN_app]
    have hcc : UInt8.ofNat (48 + (c.toNat - 48)) = c := by
      rw [show 48 + (c.toNat - 48) = c.toNat by omega]; simp
    by_cases hu : u = []
    · subst hu
      have e1 : 10 * valN 0 [] + (c.toNat - 48) = c.toNat - 48 := by
        show 10 * 0 + (c.toNat - 48) = c.toNat - 48
        omega
      have e2 := Lib.decDigits_one (i := c.toNat - 48) (by omega)
      rewrite [e1, e2, hcc]
      rfl
    · have hlen : u.length + 1 = k := by rw [← hk]; simp
      have hpos : 1 ≤ u.length := List.length_pos_iff.2 hu
      have h0 : u[0]? ≠ some 48 := by
        intro e
        apply hz
        refine ⟨by rw [List.length_append]; simp only [List.length_cons, List.length_nil]; omega, ?_⟩
        rw [List.getElem?_append_left (by omega)]; exact e
      have hv : 1 ≤ valN 0 u := by
        cases u with
        | nil => exact (hu rfl).elim
        | cons b r =>
          have hb : isD b = true := by
            have := hall.1
            simp only [List.all_cons, Bool.and_eq_true] at this
            exact this.1
          unfold isD at hb
          simp at hb
          have hb2 : b.toNat ≠ 48 := by
            intro e
            apply h0
            have : b = 48 := UInt8.toNat_inj.1 e
            rw [this]; rfl
          have := valN_ge (10 * 0 + (b.toNat - 48)) r
          show 1 ≤ valN (10 * 0 + (b.toNat - 48)) r
          omega
      have hih := ih u.length (by omega) u rfl hu hall.1 (fun h => h0 h.2)
      rw [Lib.decDigits, dif_neg (by omega), show (10 * valN 0 u + (c.toNat - 48)) / 10 = valN 0 u by omega, show (10 * valN 0 u + (c.toNat - 48)) % 10 = c.toNat - 48 by omega, hih, hcc]
theorem num_iff (w : List UInt8) : (rng (numR w) = true ∧ decI (numR w) = w) ↔ (nm w).2 = true := by
  constructor
  · rintro ⟨h1, h2⟩
    have hl := decI_len h1
    rw [h2] at hl
    have h3 : Lib.decDigits (numR w).toNat = w := h2
    have hall := dec_all (numR w).toNat
    have hne := dec_ne (numR w).toNat
    have hval := dec_val (numR w).toNat
    have hhead := dec_head (numR w).toNat
    rw [h3] at hall hne hval hhead
    have hz : ¬ (1 < w.length ∧ w[0]? = some 48) := by
      rintro ⟨a, b⟩
      by_cases c : 1 ≤ (numR w).toNat
      · exact hhead c b
      · have c0 : (numR w).toNat = 0 := by omega
        rw [c0, Lib.decDigits_one (by omega)] at h3
        rw [← h3] at a
        simp at a
    have hn : numR w = valN 0 w := by unfold numR; rw [if_pos ⟨hall, hl⟩]
    unfold rng at h1
    simp at h1
    unfold nm
    rw [if_neg (by
      rintro (a | a | a)
      · exact hne a
      · omega
      · exact hz a), if_pos hall]
    simp; omega
  · intro h
    unfold nm at h
    split at h
    · cases h
    · rename_i hc
      split at h
      · rename_i hall
        have hc1 : w ≠ [] := fun e => hc (.inl e)
        have hc2 : w.length ≤ 10 := by
          rcases Nat.lt_or_ge 10 w.length with a | a
          · exact (hc (.inr (.inl a))).elim
          · exact a
        have hn : numR w = valN 0 w := by unfold numR; rw [if_pos ⟨hall, hc2⟩]
        have hle : valN 0 w ≤ 2147483647 := by simpa using h
        rw [hn]
        refine ⟨by unfold rng; simp; omega, ?_⟩
        unfold decI
        rw [Int.toNat_natCast]
        exact dec_of _ w rfl hc1 hall (fun e => hc (.inr (.inr e)))
      · cases h
theorem nm_num {w : List UInt8} (h : (nm w).2 = true) : (nm w).1 = numR w := by
  unfold nm at h ⊢
  split at h
  · cases h
  · rename_i hc
    split at h
    · rename_i hall
      rw [if_neg hc, if_pos hall]
      have hc2 : w.length ≤ 10 := by
        rcases Nat.lt_or_ge 10 w.length with a | a
        · exact (hc (.inr (.inl a))).elim
        · exact a
      unfold numR; rw [if_pos ⟨hall, hc2⟩]
    · cases h
/- Floats. -/
def hexK : Nat → Nat → List UInt8
  | 0, _ => []
  | k + 1, n => hexK k (n / 16) ++ [hexN (n % 16)]
theorem hexK_16 (n : Nat) : hex16 n = hexK 16 n := by
  simp [hex16, hexK, Nat.div_div_eq_div_mul, List.range_succ]
theorem hexV_app (a : Nat) (l : List UInt8) (c : UInt8) : hexV a (l ++ [c]) = (match hexV a l, digN c with | some v, some d => some (16 * v + d) | _, _ => none) := by
  induction l generalizing a with
  | nil =>
    show hexV a [c] = _
    rw [hexV]
    cases hc : digN c <;> simp [hexV, hc]
  | cons b l ih =>
    show hexV a (b :: (l ++ [c])) = _
    rw [hexV, hexV]
    cases digN b with
    | none => rfl
    | some d => exact ih _
theorem hexV_K : ∀ (k n : Nat), n < 16 ^ k → hexV 0 (hexK k n) = some n
  | 0, n, h => by
    have : n = 0 := by simpa using h
    subst this; rfl
  | k + 1, n, h => by
    rw [hexK, hexV_app, hexV_K k (n / 16) (by rw [Nat.pow_succ] at h; omega), hex_dig (by omega)]
    simp; omega
theorem hexK_of : ∀ (k : Nat) (w : List UInt8) (n : Nat), w.length = k → hexV 0 w = some n → n < 16 ^ k ∧ hexK k n = w
  | 0, w, n, hk, h => by
    have : w = [] := List.eq_nil_of_length_eq_zero hk
    subst this
    cases h
    exact ⟨by decide, rfl⟩
  | k + 1, w, n, hk, h => by
    obtain ⟨u, c, rfl⟩ := snoc (l := w) (fun e => by rw [e] at hk; cases hk)
    rw [hexV_app] at h
    rw [List.length_append] at hk
    simp only [List.length_cons, List.length_nil] at hk
    split at h
    · rename_i v d hv hd
      cases h
      obtain ⟨h1, h2⟩ := hexK_of k u v (by omega) hv
      obtain ⟨h3, h4⟩ := dig_hex c d hd
      refine ⟨by rw [Nat.pow_succ]; omega, ?_⟩
      rw [hexK, show (16 * v + d) / 16 = v by omega, show (16 * v + d) % 16 = d by omega, h2, h4]
    · cases h
theorem hexW_of (a : Nat) (l : List UInt8) (n : Nat) (h : hexV a l = some n) : hexW a l = n := by
  induction l generalizing a with
  | nil => cases h; rfl
  | cons c l ih =>
    rw [hexV] at h
    split at h
    · rename_i d hd
      have := ih _ h
      show hexW (16 * a + digV c) l = n
      rw [digV, hd]; exact this
    · cases h
theorem flt_iff (w : List UInt8) : bitsL (fltR w) = w ↔ (fl w).2 = true := by
  constructor
  · intro h
    have hlen := bitsL_len (fltR w)
    rw [h] at hlen
    have hx := fltR_lt w
    unfold bitsL at h
    generalize hm : (if nanB (fltR w) = true then nanC else fltR w) = m at h
    have hm2 : m < 18446744073709551616 := by
      rw [← hm]; split
      · decide
      · exact hx
    have e16 : (16 : Nat) ^ 16 = 18446744073709551616 := by decide
    have hv := hexV_K 16 m (by omega)
    rw [← hexK_16, h] at hv
    have hf : fltR w = m := by
      unfold fltR
      rw [List.take_of_length_le (by omega)]
      exact hexW_of 0 w m hv
    unfold fl
    rw [if_pos hlen, hv]
    simp only
    rw [hf] at hm
    by_cases c : nanB m = true
    · rw [if_pos c] at hm
      simp [← hm]
    · simp [c]
  · intro h
    unfold fl at h
    split at h
    · rename_i hlen
      split at h
      · rename_i n hn
        obtain ⟨h1, h2⟩ := hexK_of 16 w n hlen hn
        have hf : fltR w = n := by
          unfold fltR
          rw [List.take_of_length_le (by omega)]
          exact hexW_of 0 w n hn
        rw [hf]
        unfold bitsL
        have : (if nanB n = true then nanC else n) = n := by
          by_cases c : nanB n = true
          · rw [if_pos c]
            simp [c] at h
            exact h.symm
          · rw [if_neg c]
        rw [this, hexK_16, h2]
      · cases h
    · cases h
theorem fl_flt {w : List UInt8} (h : (fl w).2 = true) : (fl w).1 = fltR w := by
  unfold fl at h ⊢
  by_cases hlen : w.length = 16
  · rw [if_pos hlen] at h ⊢
    cases hn : hexV 0 w with
    | none => rw [hn] at h; cases h
    | some n =>
      simp only
      unfold fltR
      rw [List.take_of_length_le (by omega), hexW_of 0 w n hn]
  · rw [if_neg hlen] at h; cases h
end Go.PS
end

section
namespace Go.PS
/-- Pieces with marks between them. -/
def interL (c : UInt8) : List (List UInt8) → List UInt8
  | [] => []
  | [w] => w
  | w :: r => w ++ c :: interL c r
theorem inter_split (c : UInt8) (l : List UInt8) : interL c (splitL c l) = l := by
  induction l with
  | nil => rfl
  | cons b l ih =>
    have hne := splitL_ne c l
    rw [splitL]
    by_cases h : b = c
    · have h' : (b == c) = true := by simpa using h
      rw [if_pos h']
      cases hs : splitL c l with
      | nil => exact (hne hs).elim
      | cons w r =>
        rw [hs] at ih
        show [] ++ c :: interL c (w :: r) = b :: l
        rw [ih, h]; rfl
    · have h' : ¬ (b == c) = true := by simpa using h
      rw [if_neg h']
      cases hs : splitL c l with
      | nil => exact (hne hs).elim
      | cons w r =>
        rw [hs] at ih
        simp only
        cases r with
        | nil => show b :: w = b :: l; rw [← ih]; rfl
        | cons x r => show (b :: w) ++ c :: interL c (x :: r) = b :: l; rw [← ih]; rfl
theorem split_no (c : UInt8) (l w : List UInt8) (h : w ∈ splitL c l) : c ∉ w := by
  induction l generalizing w with
  | nil =>
    have : w = [] := by simpa [splitL] using h
    subst this; simp
  | cons b l ih =>
    rw [splitL] at h
    split at h
    · rcases List.mem_cons.1 h with rfl | h
      · simp
      · exact ih w h
    · rename_i hb
      have hb : ¬ b = c := by simpa using hb
      split at h
      · have : w = [b] := by simpa using h
        subst this
        simp; exact fun e => hb e.symm
      · rename_i x y hxy
        rw [hxy] at ih
        rcases List.mem_cons.1 h with rfl | h
        · have := ih x (by simp)
          simp; exact ⟨fun e => hb e.symm, this⟩
        · exact ih w (by simp [h])
/-- Texts without a mark, up to it. -/
theorem cut_eq {c : UInt8} {a b x y : List UInt8} (ha : c ∉ a) (hx : c ∉ x) : a ++ c :: b = x ++ c :: y ↔ a = x ∧ b = y := by
  constructor
  · intro h
    induction a generalizing x with
    | nil =>
      cases x with
      | nil => simpa using h
      | cons d x =>
        simp only [List.nil_append, List.cons_append, List.cons.injEq] at h
        exact (hx (by simp [h.1])).elim
    | cons e a ih =>
      cases x with
      | nil =>
        simp only [List.nil_append, List.cons_append, List.cons.injEq] at h
        exact (ha (by simp [h.1])).elim
      | cons d x =>
        simp only [List.cons_append, List.cons.injEq] at h
        obtain ⟨h1, h2⟩ := ih (fun e => ha (by simp [e])) (x := x) (fun e => hx (by simp [e])) h.2
        exact ⟨by rw [h.1, h1], h2⟩
  · rintro ⟨rfl, rfl⟩; rfl
theorem decI_no (x : Int) : (32 : UInt8) ∉ decI x := by
  intro h
  have := dec_all x.toNat
  rw [List.all_eq_true] at this
  have := this 32 h
  revert this; decide
theorem hex16_no (n : Nat) : (32 : UInt8) ∉ hex16 n := by
  have : ∀ d : Fin 16, hexN d.val ≠ 32 := by decide
  intro h
  simp only [hex16, List.mem_map] at h
  obtain ⟨i, _, h⟩ := h
  exact this ⟨n / 2 ^ (60 - 4 * i) % 16, by omega⟩ h
theorem bitsL_no (n : Nat) : (32 : UInt8) ∉ bitsL n := hex16_no _
/-- The document's words with bytes are the program's. -/
theorem blob_iff (l word : List UInt8) : ((blobR l word).2 = true ↔ (nth (splitL 32 l) 0 = word ∧ (splitL 32 l).length = 2) ∧ (unhexP (nth (splitL 32 l) 1)).isSome = true) ∧
    ((blobR l word).2 = true → unhexP (nth (splitL 32 l) 1) = some (blobR l word).1) := by
  have hj := inter_split 32 l
  unfold blobR
  generalize splitL 32 l = ws at *
  by_cases h2 : ws.length = 2
  · obtain ⟨a, b, rfl⟩ := twoW h2
    have hj : a ++ 32 :: b = l := hj
    by_cases ha : a = word
    · subst ha
      have e : blobW [a, b] l a = (dataL b, a ++ [32] ++ hexP (dataL b) == l) := by simp [blobW]
      rw [e, ← hj]
      have e2 : (a ++ [32] ++ hexP (dataL b) == a ++ 32 :: b) = true ↔ hexP (dataL b) = b := by simp
      have e3 : nth [a, b] 1 = b := rfl
      have e4 : nth [a, b] 0 = a := rfl
      have hd := hex_data b
      refine ⟨?_, fun h => ?_⟩
      · simp only [e2, e3, e4]
        constructor
        · intro h; rw [hd.1 h]; exact ⟨⟨trivial, rfl⟩, rfl⟩
        · rintro ⟨_, h⟩
          cases hu : unhexP b with
          | none => rw [hu] at h; cases h
          | some x => exact hd.2 (by rw [unhexP_data hu]; exact hu)
      · rw [e3]; exact hd.1 (e2.1 h)
    · have e : blobW [a, b] l word = ([], false) := by simp [blobW, ha]
      rw [e]
      refine ⟨⟨fun h => ?_, fun h => ?_⟩, fun h => ?_⟩
      · cases h
      · exact (ha h.1.1).elim
      · cases h
  · rw [blobW_ne h2]
    refine ⟨⟨fun h => ?_, fun h => (h2 h.1.2).elim⟩, fun h => ?_⟩
    · cases h
    · cases h
/-- The document's event of a line is the program's. -/
theorem event_iff (l : List UInt8) : (readR l).2 = (evE (splitL 32 l)).2 ∧ ((readR l).2 = true → (readR l).1 = (evE (splitL 32 l)).1) := by
  have hj := inter_split 32 l
  have hno := split_no 32 l
  unfold readR
  simp only
  generalize splitL 32 l = ws at *
  by_cases k2 : nth ws 0 = wPacket ∧ ws.length = 2
  · obtain ⟨w0, w1, rfl⟩ := twoW k2.2
    have h0 : w0 = wPacket := k2.1
    subst h0
    have hj : wPacket ++ 32 :: w1 = l := hj
    have he : rdE [wPacket, w1] = ⟨3, 0, 0, (0, 0), (0, 0), (0, 0), (0, 0), dataL w1⟩ := rfl
    have hv : evE [wPacket, w1] = (⟨3, 0, 0, (0, 0), (0, 0), (0, 0), (0, 0), (uh w1).1⟩, (uh w1).2) := rfl
    rw [he, hv, ← hj]
    have hmay : mayE ⟨3, 0, 0, (0, 0), (0, 0), (0, 0), (0, 0), dataL w1⟩ = true := by simp [mayE, zero4_0]
    have hline : lineE ⟨3, 0, 0, (0, 0), (0, 0), (0, 0), (0, 0), dataL w1⟩ = wPacket ++ 32 :: hexP (dataL w1) := by simp [lineE]
    rw [hmay, hline]
    have e2 : (wPacket ++ 32 :: hexP (dataL w1) == wPacket ++ 32 :: w1) = (uh w1).2 := by
      rw [Bool.eq_iff_iff]
      simp only [beq_iff_eq, List.append_cancel_left_eq, List.cons.injEq, true_and]
      rw [hex_data]
      unfold uh
      cases hu : unhexP w1 with
      | none => simp
      | some x => simp [unhexP_data hu]
    rw [Bool.true_and, e2]
    refine ⟨rfl, fun h => ?_⟩
    unfold uh at h ⊢
    cases hu : unhexP w1 with
    | none => rw [hu] at h; cases h
    | some x => simp [unhexP_data hu]
  · by_cases k1 : nth ws 0 = wByte ∧ ws.length = 3
    · obtain ⟨w0, w1, w2, rfl⟩ := threeW k1.2
      have h0 : w0 = wByte := k1.1
      subst h0
      have hj : wByte ++ 32 :: (w1 ++ 32 :: w2) = l := hj
      have he : rdE [wByte, w1, w2] = ⟨1, numR w1, numR w2, (0, 0), (0, 0), (0, 0), (0, 0), []⟩ := rfl
      have hv : evE [wByte, w1, w2] = (⟨1, (nm w1).1, (nm w2).1, (0, 0), (0, 0), (0, 0), (0, 0), []⟩, (nm w1).2 && (nm w2).2) := rfl
      rw [he, hv, ← hj]
      have n1 := num_iff w1
      have n2 := num_iff w2
      have m1 := @nm_num w1
      have m2 := @nm_num w2
      have hline : lineE ⟨1, numR w1, numR w2, (0, 0), (0, 0), (0, 0), (0, 0), []⟩ = wByte ++ 32 :: (decI (numR w1) ++ 32 :: decI (numR w2)) := by simp [lineE]
      have hmay : mayE ⟨1, numR w1, numR w2, (0, 0), (0, 0), (0, 0), (0, 0), []⟩ = (rng (numR w1) && rng (numR w2)) := by simp [mayE, zero4_0]
      have e2 : (rng (numR w1) && rng (numR w2) && (wByte ++ 32 :: (decI (numR w1) ++ 32 :: decI (numR w2)) == wByte ++ 32 :: (w1 ++ 32 :: w2))) = ((nm w1).2 && (nm w2).2) := by
        rw [Bool.eq_iff_iff]
        simp only [Bool.and_eq_true, beq_iff_eq, List.append_cancel_left_eq, List.cons.injEq, true_and]
        rw [cut_eq (decI_no _) (hno w1 (by simp)), ← n1, ← n2]
        constructor
        · rintro ⟨⟨a, b⟩, c, d⟩; exact ⟨⟨a, c⟩, b, d⟩
        · rintro ⟨⟨a, c⟩, b, d⟩; exact ⟨⟨a, b⟩, c, d⟩
      rw [hmay, hline, e2]
      refine ⟨rfl, fun h => ?_⟩
      simp only [Bool.and_eq_true] at h
      simp only [m1 h.1, m2 h.2]
    · by_cases k3 : nth ws 0 = wTone ∧ ws.length = 10
      · obtain ⟨w0, w1, w2, w3, w4, w5, w6, w7, w8, w9, rfl⟩ := ten k3.2
        have h0 : w0 = wTone := k3.1
        subst h0
        have hj : wTone ++ 32 :: (w1 ++ 32 :: (w2 ++ 32 :: (w3 ++ 32 :: (w4 ++ 32 :: (w5 ++ 32 :: (w6 ++ 32 :: (w7 ++ 32 :: (w8 ++ 32 :: w9)))))))) = l := hj
        have he : rdE [wTone, w1, w2, w3, w4, w5, w6, w7, w8, w9] = ⟨2, numR w1, 0, (fltR w2, fltR w3), (fltR w4, fltR w5), (fltR w6, fltR w7), (fltR w8, fltR w9), []⟩ := rfl
        have hv : evE [wTone, w1, w2, w3, w4, w5, w6, w7, w8, w9] = (⟨2, (nm w1).1, 0, ((fl w2).1, (fl w3).1), ((fl w4).1, (fl w5).1), ((fl w6).1, (fl w7).1), ((fl w8).1, (fl w9).1), []⟩,
          (nm w1).2 && ((fl w2).2 && (fl w3).2) && ((fl w4).2 && (fl w5).2) && ((fl w6).2 && (fl w7).2) && ((fl w8).2 && (fl w9).2)) := rfl
        rw [he, hv, ← hj]
        have n1 := num_iff w1
        have hline : lineE ⟨2, numR w1, 0, (fltR w2, fltR w3), (fltR w4, fltR w5), (fltR w6, fltR w7), (fltR w8, fltR w9), []⟩ = wTone ++ 32 :: (decI (numR w1) ++ 32 :: (bitsL (fltR w2) ++ 32 :: (bitsL (fltR w3) ++ 32 :: (bitsL (fltR w4) ++ 32 :: (bitsL (fltR w5) ++ 32 :: (bitsL (fltR w6) ++ 32 :: (bitsL (fltR w7) ++ 32 :: (bitsL (fltR w8) ++ 32 :: bitsL (fltR w9))))))))) := by simp [lineE, tones]
        have hmay : mayE ⟨2, numR w1, 0, (fltR w2, fltR w3), (fltR w4, fltR w5), (fltR w6, fltR w7), (fltR w8, fltR w9), []⟩ = rng (numR w1) := by simp [mayE]
        rw [hmay, hline]
        have e2 : (rng (numR w1) && (wTone ++ 32 :: (decI (numR w1) ++ 32 :: (bitsL (fltR w2) ++ 32 :: (bitsL (fltR w3) ++ 32 :: (bitsL (fltR w4) ++ 32 :: (bitsL (fltR w5) ++ 32 :: (bitsL (fltR w6) ++ 32 :: (bitsL (fltR w7) ++ 32 :: (bitsL (fltR w8) ++ 32 :: bitsL (fltR w9))))))))) ==
            wTone ++ 32 :: (w1 ++ 32 :: (w2 ++ 32 :: (w3 ++ 32 :: (w4 ++ 32 :: (w5 ++ 32 :: (w6 ++ 32 :: (w7 ++ 32 :: (w8 ++ 32 :: w9)))))))))) =
            ((nm w1).2 && ((fl w2).2 && (fl w3).2) && ((fl w4).2 && (fl w5).2) && ((fl w6).2 && (fl w7).2) && ((fl w8).2 && (fl w9).2)) := by
          rw [Bool.eq_iff_iff]
          simp only [Bool.and_eq_true, beq_iff_eq, List.append_cancel_left_eq, List.cons.injEq, true_and]
          rw [cut_eq (decI_no _) (hno w1 (by simp)), cut_eq (bitsL_no _) (hno w2 (by simp)), cut_eq (bitsL_no _) (hno w3 (by simp)), cut_eq (bitsL_no _) (hno w4 (by simp)), cut_eq (bitsL_no _) (hno w5 (by simp)), cut_eq (bitsL_no _) (hno w6 (by simp)), cut_eq (bitsL_no _) (hno w7 (by simp)), cut_eq (bitsL_no _) (hno w8 (by simp)),
            ← n1, flt_iff, flt_iff, flt_iff, flt_iff, flt_iff, flt_iff, flt_iff, flt_iff]
          constructor
          · rintro ⟨a, b, c2, c3, c4, c5, c6, c7, c8, c9⟩; exact ⟨⟨⟨⟨⟨a, b⟩, c2, c3⟩, c4, c5⟩, c6, c7⟩, c8, c9⟩
          · rintro ⟨⟨⟨⟨⟨a, b⟩, c2, c3⟩, c4, c5⟩, c6, c7⟩, c8, c9⟩; exact ⟨a, b, c2, c3, c4, c5, c6, c7, c8, c9⟩
        rw [e2]
        refine ⟨rfl, fun h => ?_⟩
        simp only [Bool.and_eq_true] at h
        obtain ⟨⟨⟨⟨a, c2, c3⟩, c4, c5⟩, c6, c7⟩, c8, c9⟩ := h
        simp only [nm_num a, fl_flt c2, fl_flt c3, fl_flt c4, fl_flt c5, fl_flt c6, fl_flt c7, fl_flt c8, fl_flt c9]
      · have he : rdE ws = E0 := by unfold rdE; rw [if_neg k1, if_neg k2, if_neg k3]
        have hv : evE ws = (E0, false) := by unfold evE; rw [if_neg k2, if_neg k1, if_neg k3]
        rw [he, hv, mayE_0]
        exact ⟨rfl, fun h => by cases h⟩
end Go.PS
end

section
namespace Go.PS
theorem A0_st : A0.st = 0 := rfl
theorem step_eq (a : Abs) (l : List UInt8) (h : a.st = 1 ∨ a.st = 2) : stepR a l = stepL a l := by
  unfold stepR stepL
  rw [if_neg (show ¬ a.st = 0 by omega)]
  by_cases ht : l = wTick
  · rw [if_pos ht, if_pos ht]
  · rw [if_neg ht, if_neg ht]
    by_cases s1 : a.st = 1
    · rw [if_pos s1, if_pos s1]
      obtain ⟨h1, h2⟩ := blob_iff l wProgram
      by_cases hb : (blobR l wProgram).2 = true
      · rw [if_pos hb, if_pos (h1.1 hb).1, h2 hb]
      · rw [if_neg hb]
        by_cases hc : nth (splitL 32 l) 0 = wProgram ∧ (splitL 32 l).length = 2
        · rw [if_pos hc]
          cases hu : unhexP (nth (splitL 32 l) 1) with
          | none => rfl
          | some b => exact (hb (h1.2 ⟨hc, by rw [hu]; rfl⟩)).elim
        · rw [if_neg hc]
    · rw [if_neg s1, if_neg s1]
      obtain ⟨h1, h2⟩ := event_iff l
      by_cases hb : (readR l).2 = true
      · rw [if_pos hb, if_pos (by rw [← h1]; exact hb), h2 hb]
      · rw [if_neg hb, if_neg (by rw [← h1]; exact hb)]
theorem step_st (a : Abs) (l : List UInt8) (h : a.st = 1 ∨ a.st = 2) (h0 : (stepL a l).2 = 0) : (stepL a l).1.st = 1 ∨ (stepL a l).1.st = 2 := by
  unfold stepL at h0 ⊢
  rw [if_neg (show ¬ a.st = 0 by omega)] at h0 ⊢
  by_cases ht : l = wTick
  · rw [if_pos ht]; exact .inr rfl
  · rw [if_neg ht] at h0 ⊢
    by_cases s1 : a.st = 1
    · rw [if_pos s1] at h0 ⊢
      by_cases hc : nth (splitL 32 l) 0 = wProgram ∧ (splitL 32 l).length = 2
      · rw [if_pos hc] at h0 ⊢
        cases hu : unhexP (nth (splitL 32 l) 1) with
        | none => exact .inl s1
        | some b =>
          simp only
          by_cases c8 : a.ps.length = 8
          · rw [if_pos c8]; exact .inl s1
          · rw [if_neg c8]; exact .inl s1
      · rw [if_neg hc]; exact .inl s1
    · rw [if_neg s1] at h0 ⊢
      by_cases he : (evE (splitL 32 l)).2 = true
      · rw [if_pos he]; exact h
      · rw [if_neg he]; exact h
theorem run_eq : ∀ (ls : List (List UInt8)) (a : Abs) (i : Nat), (a.st = 1 ∨ a.st = 2) → runR a i ls = runL a i ls
  | [], _, _, _ => rfl
  | l :: ls, a, i, h => by
    rw [runR, runL, step_eq a l h]
    by_cases h0 : (stepL a l).2 = 0
    · rw [if_pos h0, if_pos h0]
      exact run_eq ls _ _ (step_st a l h h0)
    · rw [if_neg h0, if_neg h0]
theorem run_st : ∀ (ls : List (List UInt8)) (a : Abs) (i : Nat), (a.st = 1 ∨ a.st = 2) → (runL a i ls).1.st = 1 ∨ (runL a i ls).1.st = 2
  | [], _, _, h => h
  | l :: ls, a, i, h => by
    rw [runL]
    by_cases h0 : (stepL a l).2 = 0
    · rw [if_pos h0]
      exact run_st ls _ _ (step_st a l h h0)
    · rw [if_neg h0]; exact h
/-- The document parses as the program. -/
theorem parse_eq (s : List UInt8) : parseR s = parseL s := by
  have hne := splitL_ne 10 s
  unfold parseR parseL
  generalize splitL 10 s = ws at *
  obtain ⟨ls, la, rfl⟩ := snoc hne
  rw [List.dropLast_concat]
  have hl : (ls ++ [la]).length = ls.length + 1 := by simp
  have hg : (ls ++ [la]).getLastD [] = la := by simp
  rw [hl, hg]
  cases ls with
  | nil =>
    simp [runL, A0_st]
  | cons l ls =>
    simp only
    rw [runL]
    obtain ⟨h1, h2⟩ := blob_iff l wImage
    by_cases hb : (blobR l wImage).2 = true
    · rw [if_pos hb]
      have hs : stepL A0 l = (⟨(blobR l wImage).1, [], [], 1⟩, 0) := by
        unfold stepL
        rw [if_pos A0_st, if_pos (h1.1 hb).1, h2 hb]; rfl
      rw [hs, if_pos rfl, run_eq _ _ _ (.inl rfl)]
      have hst := run_st ls ⟨(blobR l wImage).1, [], [], 1⟩ (0 + 1) (.inl rfl)
      rw [Nat.zero_add] at hst ⊢
      generalize runL ⟨(blobR l wImage).1, [], [], 1⟩ 1 ls = r at *
      have : ¬ r.1.st = 0 := by omega
      simp [this]
    · rw [if_neg hb]
      have hs : stepL A0 l = (A0, 3) := by
        unfold stepL
        rw [if_pos A0_st]
        by_cases hc : nth (splitL 32 l) 0 = wImage ∧ (splitL 32 l).length = 2
        · rw [if_pos hc]
          cases hu : unhexP (nth (splitL 32 l) 1) with
          | none => rfl
          | some b => exact (hb (h1.2 ⟨hc, by rw [hu]; rfl⟩)).elim
        · rw [if_neg hc]
      rw [hs]
      simp
/-- What was read is what is printed. -/
structure Good (a : Abs) (i : Nat) : Prop where
  st : a.st = 1 ∨ a.st = 2
  one : a.st = 1 → a.ts = []
  two : a.st = 2 → a.ts ≠ []
  ps : a.ps.length ≤ 8
  ts : a.ts.length ≤ i
  sum : sumE a.ts ≤ i
  img : a.img.length ≤ 3000
  pl : ∀ p, p ∈ a.ps → p.length ≤ 3000
  ok : ∀ t, t ∈ a.ts → ∀ e, e ∈ t → OkE e
theorem unhexL_len {w l : List UInt8} (h : unhexP w = some l) : l.length ≤ w.length := by
  have := unhexP_data h
  rw [← this]
  exact dataL_len w
theorem ev_ok {l : List UInt8} (hl : l.length ≤ 3000) (h : (readR l).2 = true) : OkE (readR l).1 ∧ lineE (readR l).1 = l := by
  have hm : ∀ w, w ∈ splitL 32 l → w.length ≤ 3000 := fun w h => Nat.le_trans (splitL_mem 32 l w h) hl
  unfold readR at h ⊢
  simp only [Bool.and_eq_true, beq_iff_eq] at h
  refine ⟨⟨h.1, ?_, ?_⟩, h.2⟩
  · simp only
    unfold rdE
    split
    · simp
    · split
      · rename_i h2
        obtain ⟨w0, w1, hw⟩ := twoW h2.2
        have := hm w1 (by rw [hw]; simp)
        have hd := dataL_len w1
        rw [hw]
        show (dataL w1).length ≤ 3000
        omega
      · split
        · simp
        · simp [E0]
  · simp only
    unfold rdE
    split
    · simp
    · split
      · simp
      · split
        · exact ⟨fltR_lt _, fltR_lt _, fltR_lt _, fltR_lt _, fltR_lt _, fltR_lt _, fltR_lt _, fltR_lt _⟩
        · simp [E0]
theorem sumE_app (ts : List (List Evt)) (t : List Evt) : sumE (ts ++ [t]) = sumE ts + t.length := by
  unfold sumE
  rw [List.map_append, List.sum_append_nat]; simp
theorem good_step {a : Abs} {i : Nat} {l : List UInt8} (hl : l.length ≤ 3000) (g : Good a i) (h0 : (stepL a l).2 = 0) : Good (stepL a l).1 (i + 1) ∧ printA (stepL a l).1 = printA a ++ (l ++ [10]) := by
  have hst2 := step_st a l g.st h0
  have hm : ∀ w, w ∈ splitL 32 l → w.length ≤ 3000 := fun w h => Nat.le_trans (splitL_mem 32 l w h) hl
  have hj := inter_split 32 l
  generalize hr : stepL a l = r at *
  unfold stepL at hr
  rw [if_neg (show ¬ a.st = 0 by have := g.st; omega)] at hr
  by_cases ht : l = wTick
  · rw [if_pos ht] at hr
    subst hr
    refine ⟨⟨.inr rfl, (fun h => by cases h), fun _ => by simp, g.ps, ?_, ?_, g.img, g.pl, ?_⟩, ?_⟩
    · show (a.ts ++ [[]]).length ≤ i + 1
      have := g.ts
      rw [List.length_append]; simp only [List.length_cons, List.length_nil]; omega
    · show sumE (a.ts ++ [[]]) ≤ i + 1
      have := g.sum
      rw [sumE_app, List.length_nil]; omega
    · intro t h e he
      rcases List.mem_append.1 h with h | h
      · exact g.ok t h e he
      · have : t = [] := by simpa using h
        subst this; cases he
    · subst ht
      unfold printA
      simp only [List.flatMap_append, List.flatMap_cons, List.flatMap_nil, List.append_nil, List.append_assoc]
      rfl
  · rw [if_neg ht] at hr
    by_cases s1 : a.st = 1
    · rw [if_pos s1] at hr
      by_cases hc : nth (splitL 32 l) 0 = wProgram ∧ (splitL 32 l).length = 2
      · rw [if_pos hc] at hr
        obtain ⟨w0, w1, hw⟩ := twoW hc.2
        have hw0 : w0 = wProgram := by have := hc.1; rw [hw] at this; exact this
        have hw1 : nth (splitL 32 l) 1 = w1 := by rw [hw]; rfl
        rw [hw1] at hr
        cases hu : unhexP w1 with
        | none => rw [hu] at hr; subst hr; cases h0
        | some b =>
          rw [hu] at hr
          simp only at hr
          by_cases c8 : a.ps.length = 8
          · rw [if_pos c8] at hr; subst hr; cases h0
          · rw [if_neg c8] at hr
            subst hr
            have hts := g.one s1
            refine ⟨⟨.inl s1, fun _ => hts, ?_, ?_, Nat.le_succ_of_le g.ts, Nat.le_succ_of_le g.sum, g.img, ?_, g.ok⟩, ?_⟩
            · intro h
              have h : a.st = 2 := h
              omega
            · show (a.ps ++ [b]).length ≤ 8
              have := g.ps
              rw [List.length_append]; simp only [List.length_cons, List.length_nil]; omega
            · intro p hp
              rcases List.mem_append.1 hp with hp | hp
              · exact g.pl p hp
              · have : p = b := by simpa using hp
                subst this
                have := unhexL_len hu
                have := hm w1 (by rw [hw]; simp)
                omega
            · unfold printA
              simp only [hts]
              have hx := (unhexP_iff w1 b).1 hu
              rw [hw, hw0] at hj
              have hj : wProgram ++ 32 :: w1 = l := hj
              simp only [List.flatMap_append, List.flatMap_cons, List.flatMap_nil, List.append_nil, List.append_assoc, printP, hx]
              rw [← hj]; simp
      · rw [if_neg hc] at hr; subst hr; cases h0
    · rw [if_neg s1] at hr
      have s2 : a.st = 2 := by have := g.st; omega
      obtain ⟨e1, e2⟩ := event_iff l
      by_cases he : (evE (splitL 32 l)).2 = true
      · rw [if_pos he] at hr
        have hrd : (readR l).2 = true := by rw [e1]; exact he
        have hev := ev_ok hl hrd
        rw [e2 hrd] at hev
        generalize (evE (splitL 32 l)).1 = e at *
        subst hr
        obtain ⟨pre, t, hts⟩ := snoc (g.two s2)
        have hadd : addLast a.ts e = pre ++ [t ++ [e]] := by rw [hts, addLast_app]
        refine ⟨⟨.inr s2, fun h => (s1 h).elim, fun _ => ?_, g.ps, ?_, ?_, g.img, g.pl, ?_⟩, ?_⟩
        · show addLast a.ts e ≠ []
          rw [hadd]; simp
        · show (addLast a.ts e).length ≤ i + 1
          have := g.ts
          rw [hts] at this
          rw [hadd]
          rw [List.length_append] at this ⊢
          simp only [List.length_cons, List.length_nil] at this ⊢; omega
        · show sumE (addLast a.ts e) ≤ i + 1
          have := g.sum
          rw [hts, sumE_app] at this
          rw [hadd, sumE_app, List.length_append]
          simp only [List.length_cons, List.length_nil]; omega
        · intro u hu x hx
          have hu : u ∈ addLast a.ts e := hu
          rw [hadd] at hu
          rcases List.mem_append.1 hu with hu | hu
          · exact g.ok u (by rw [hts]; simp [hu]) x hx
          · have hu : u = t ++ [e] := by simpa using hu
            subst hu
            rcases List.mem_append.1 hx with hx | hx
            · exact g.ok t (by rw [hts]; simp) x hx
            · have hx : x = e := by simpa using hx
              subst hx; exact hev.1
        · unfold printA
          simp only [hadd]
          rw [hts]
          have hpe : printE e = l ++ [10] := by unfold printE; rw [hev.2]
          simp only [List.flatMap_append, List.flatMap_cons, List.flatMap_nil, List.append_nil, List.append_assoc, printT, hpe]
      · rw [if_neg he] at hr; subst hr; cases h0
theorem good_run : ∀ (ls : List (List UInt8)) (a : Abs) (i : Nat), (∀ l, l ∈ ls → l.length ≤ 3000) → Good a i → (runL a i ls).2.2 = 0 → Good (runL a i ls).1 (i + ls.length) ∧ printA (runL a i ls).1 = printA a ++ ls.flatMap (· ++ [10])
  | [], a, i, _, g, _ => ⟨g, by simp [runL]⟩
  | l :: ls, a, i, hl, g, h => by
    rw [runL] at h ⊢
    by_cases h0 : (stepL a l).2 = 0
    · rw [if_pos h0] at h ⊢
      obtain ⟨g2, p2⟩ := good_step (hl l (by simp)) g h0
      obtain ⟨g3, p3⟩ := good_run ls _ (i + 1) (fun l h => hl l (by simp [h])) g2 h
      refine ⟨?_, ?_⟩
      · rw [List.length_cons, show i + (ls.length + 1) = i + 1 + ls.length by omega]; exact g3
      · rw [p3, p2]; simp
    · rw [if_neg h0] at h
      exact (h0 h).elim
theorem inter_last : ∀ (ls : List (List UInt8)) (la : List UInt8), interL 10 (ls ++ [la]) = ls.flatMap (· ++ [10]) ++ la
  | [], _ => rfl
  | [l], la => by simp [interL]
  | l :: m :: ls, la => by
    have := inter_last (m :: ls) la
    show l ++ 10 :: interL 10 (m :: ls ++ [la]) = _
    rw [this]; simp
theorem good_parse (s : List UInt8) (hs : s.length ≤ 3000) (h : (parseL s).2.2 = 0) : Good (parseL s).1 3000 ∧ printA (parseL s).1 = s := by
  have hne := splitL_ne 10 s
  have hj := inter_split 10 s
  have hm : ∀ w, w ∈ splitL 10 s → w.length ≤ 3000 := fun w h => Nat.le_trans (splitL_mem 10 s w h) hs
  have hlen := splitL_len 10 s
  unfold parseL at h ⊢
  generalize splitL 10 s = ws at *
  obtain ⟨ls, la, rfl⟩ := snoc hne
  rw [List.dropLast_concat] at h ⊢
  have hl : (ls ++ [la]).length = ls.length + 1 := by simp
  have hg : (ls ++ [la]).getLastD [] = la := by simp
  rw [hl] at hlen
  rw [hl, hg] at h ⊢
  rw [inter_last] at hj
  simp only at h ⊢
  by_cases h0 : (runL A0 0 ls).2.2 = 0
  · rw [if_neg (by simp [h0])] at h ⊢
    by_cases hc : la ≠ [] ∨ (runL A0 0 ls).1.st = 0
    · rw [if_pos hc] at h; cases h
    · rw [if_neg hc]
      simp only
      have hla : la = [] := by
        by_cases e : la = []
        · exact e
        · exact (hc (.inl e)).elim
      subst hla
      cases ls with
      | nil => exact (hc (.inr rfl)).elim
      | cons l ls =>
        rw [runL] at h0 ⊢
        by_cases hs0 : (stepL A0 l).2 = 0
        · rw [if_pos hs0] at h0 ⊢
          have hll := hm l (by simp)
          have hm2 : ∀ w, w ∈ splitL 32 l → w.length ≤ 3000 := fun w h => Nat.le_trans (splitL_mem 32 l w h) hll
          have hj2 := inter_split 32 l
          have key : ∃ b, stepL A0 l = (⟨b, [], [], 1⟩, 0) ∧ b.length ≤ 3000 ∧ printI b = l ++ [10] := by
            unfold stepL at hs0 ⊢
            rw [if_pos A0_st] at hs0 ⊢
            by_cases hcc : nth (splitL 32 l) 0 = wImage ∧ (splitL 32 l).length = 2
            · rw [if_pos hcc] at hs0 ⊢
              obtain ⟨w0, w1, hw⟩ := twoW hcc.2
              have hw0 : w0 = wImage := by have := hcc.1; rw [hw] at this; exact this
              have hw1 : nth (splitL 32 l) 1 = w1 := by rw [hw]; rfl
              rw [hw1] at hs0 ⊢
              cases hu : unhexP w1 with
              | none => rw [hu] at hs0; cases hs0
              | some b =>
                refine ⟨b, rfl, ?_, ?_⟩
                · have := unhexL_len hu
                  have := hm2 w1 (by rw [hw]; simp)
                  omega
                · have hx := (unhexP_iff w1 b).1 hu
                  rw [hw, hw0] at hj2
                  have hj2 : wImage ++ 32 :: w1 = l := hj2
                  unfold printI
                  rw [hx, ← hj2]; simp
            · rw [if_neg hcc] at hs0; cases hs0
          obtain ⟨b, hb, hbl, hbp⟩ := key
          rw [hb] at h0 ⊢
          have g0 : Good ⟨b, [], [], 1⟩ 1 := ⟨.inl rfl, fun _ => rfl, (fun h => by cases h), Nat.zero_le _, Nat.zero_le _, Nat.zero_le _, hbl, (fun p h => by cases h), (fun t h => by cases h)⟩
          obtain ⟨g1, p1⟩ := good_run ls _ (0 + 1) (fun l h => hm l (by simp [h])) g0 h0
          have hls : 0 + 1 + ls.length ≤ 3000 := by simp only [List.length_cons] at hlen; omega
          refine ⟨⟨g1.st, g1.one, g1.two, g1.ps, Nat.le_trans g1.ts hls, Nat.le_trans g1.sum hls, g1.img, g1.pl, g1.ok⟩, ?_⟩
          rw [p1, ← hj]
          unfold printA
          simp [hbp]
        · rw [if_neg hs0] at h0
          exact (hs0 h0).elim
  · rw [if_pos h0] at h
    exact (h0 h).elim
end Go.PS
end
