/-
  What functions of this program compute, as equations about the evaluator. No condition but those stated.
-/
import Derived.Test.YtaiiboplopljoaaGreatFacts
import Derived.Test.YtaiiboplopljoaaGreatPsD

set_option linter.all false
section
namespace Go.PS
/-- One shift of the check. -/
def crcP (s : Nat) : Nat := if s.testBit 15 = true then (s * 2 % 65536) ^^^ 4129 else s * 2 % 65536
/-- The document's step: one bit more. -/
def crcPush (s b : Nat) : Nat := if s / 32768 = b then s * 2 % 65536 else (s * 2 % 65536) ^^^ 4129
theorem xor_shl (a b : Nat) : ((a ^^^ b) * 2) % 65536 = (a * 2 % 65536) ^^^ (b * 2 % 65536) := by
  have e : ∀ x : Nat, x * 2 % 65536 = (x <<< 1) % 2 ^ 16 := fun x => by rw [Nat.shiftLeft_eq]
  rw [e, e, e, Nat.shiftLeft_xor_distrib, Nat.xor_mod_two_pow]
theorem crcP_lt (s : Nat) : crcP s < 65536 := by
  unfold crcP
  have h : s * 2 % 65536 < 2 ^ 16 := Nat.mod_lt _ (by omega)
  split
  · exact Nat.xor_lt_two_pow h (by decide)
  · exact h
theorem testBit15 {s : Nat} (h : s < 65536) : s.testBit 15 = decide (s / 32768 = 1) := by
  rw [Nat.testBit_eq_decide_div_mod_eq]
  have : s / 2 ^ 15 < 2 := by omega
  rw [decide_eq_decide]
  show s / 32768 % 2 = 1 ↔ _
  omega
theorem crcPush_eq {s b : Nat} (h : s < 65536) (hb : b < 2) : crcPush s b = crcP (s ^^^ (b * 32768)) := by
  have h2 : s / 32768 < 2 := by omega
  have t := testBit15 h
  unfold crcPush crcP
  rw [xor_shl, Nat.testBit_xor, t]
  rcases (show b = 0 ∨ b = 1 by omega) with rfl | rfl
  · by_cases c : s / 32768 = 0
    · simp [c]
    · have c1 : s / 32768 = 1 := by omega
      simp [c1]
  · by_cases c : s / 32768 = 0
    · have : Nat.testBit 32768 15 = true := by decide
      simp [c, this]
    · have c1 : s / 32768 = 1 := by omega
      have : Nat.testBit 32768 15 = true := by decide
      simp [c1, this]
theorem crcP_xor (s r : Nat) (hr : r < 128) : crcP (s ^^^ (r * 256)) = crcP s ^^^ (r * 2 * 256) := by
  unfold crcP
  have t : (r * 256).testBit 15 = false := by
    rw [testBit15 (by omega)]; simp; omega
  have e : r * 256 * 2 % 65536 = r * 2 * 256 := by omega
  rw [xor_shl, Nat.testBit_xor, t, Bool.xor_false, e]
  split
  · rw [Nat.xor_assoc, Nat.xor_assoc, Nat.xor_comm 4129]
  · rfl
/-- A byte's bit, from the highest on. -/
def bitOf (b k : Nat) : Nat := b / 2 ^ (7 - k) % 2
def crcStep (s b : Nat) : Nat := crcP (crcP (crcP (crcP (crcP (crcP (crcP (crcP (s ^^^ (b * 256)))))))))
def crcBits (s b : Nat) : Nat := crcPush (crcPush (crcPush (crcPush (crcPush (crcPush (crcPush (crcPush s (bitOf b 0)) (bitOf b 1)) (bitOf b 2)) (bitOf b 3)) (bitOf b 4)) (bitOf b 5)) (bitOf b 6)) (bitOf b 7)
theorem xor_hi (x : Nat) (hx : x < 256) : x * 256 = (x / 128 * 32768) ^^^ (x % 128 * 256) := by
  have h1 : x * 256 = (x / 128) <<< 15 + x % 128 * 256 := by rw [Nat.shiftLeft_eq]; omega
  have h2 : x / 128 * 32768 = (x / 128) <<< 15 := by rw [Nat.shiftLeft_eq]
  rw [h1, h2, Nat.shiftLeft_add_eq_or_of_lt (by omega)]
  apply Nat.eq_of_testBit_eq
  intro i
  rw [Nat.testBit_or, Nat.testBit_xor, Nat.testBit_shiftLeft]
  by_cases hi : 15 ≤ i
  · have : (x % 128 * 256).testBit i = false := Nat.testBit_lt_two_pow (Nat.lt_of_lt_of_le (show x % 128 * 256 < 2 ^ 15 by omega) (Nat.pow_le_pow_right (by omega) hi))
    simp [this]
  · simp [hi]
/-- The bits that are left go ahead. -/
theorem crc_one {s x : Nat} (hs : s < 65536) (hx : x < 256) : crcP (s ^^^ (x * 256)) = crcPush s (x / 128) ^^^ (x % 128 * 2 * 256) := by
  rw [xor_hi x hx, ← Nat.xor_assoc, crcP_xor _ _ (by omega), crcPush_eq hs (by omega)]
theorem crcPush_lt {s b : Nat} : crcPush s b < 65536 := by
  unfold crcPush
  have h : s * 2 % 65536 < 2 ^ 16 := Nat.mod_lt _ (by omega)
  split
  · exact h
  · exact Nat.xor_lt_two_pow h (by decide)
theorem crc_same {s b : Nat} (hs : s < 65536) (hb : b < 256) : crcStep s b = crcBits s b := by
  unfold crcStep crcBits
  rw [crc_one hs hb, crc_one crcPush_lt (by omega), crc_one crcPush_lt (by omega), crc_one crcPush_lt (by omega), crc_one crcPush_lt (by omega), crc_one crcPush_lt (by omega), crc_one crcPush_lt (by omega), crc_one crcPush_lt (by omega)]
  have e0 : bitOf b 0 = b / 128 := by unfold bitOf; omega
  have e1 : bitOf b 1 = b % 128 * 2 / 128 := by unfold bitOf; omega
  have e2 : bitOf b 2 = b % 128 * 2 % 128 * 2 / 128 := by unfold bitOf; omega
  have e3 : bitOf b 3 = b % 128 * 2 % 128 * 2 % 128 * 2 / 128 := by unfold bitOf; omega
  have e4 : bitOf b 4 = b % 128 * 2 % 128 * 2 % 128 * 2 % 128 * 2 / 128 := by unfold bitOf; omega
  have e5 : bitOf b 5 = b % 128 * 2 % 128 * 2 % 128 * 2 % 128 * 2 % 128 * 2 / 128 := by unfold bitOf; omega
  have e6 : bitOf b 6 = b % 128 * 2 % 128 * 2 % 128 * 2 % 128 * 2 % 128 * 2 % 128 * 2 / 128 := by unfold bitOf; omega
  have e7 : bitOf b 7 = b % 128 * 2 % 128 * 2 % 128 * 2 % 128 * 2 % 128 * 2 % 128 * 2 % 128 * 2 / 128 := by unfold bitOf; omega
  have z : b % 128 * 2 % 128 * 2 % 128 * 2 % 128 * 2 % 128 * 2 % 128 * 2 % 128 * 2 % 128 * 2 * 256 = 0 := by omega
  rw [e0, e1, e2, e3, e4, e5, e6, e7, z, Nat.xor_zero]
end Go.PS
end

section
namespace Go.PS
def crcN : Nat → Nat → Nat
  | 0, s => s
  | k + 1, s => crcP (crcN k s)
theorem crcN_lt {s : Nat} (h : s < 65536) : ∀ k, crcN k s < 65536
  | 0 => h
  | k + 1 => crcP_lt _
theorem crc0_lt {s b : Nat} (h : s < 65536) (hb : b < 256) : s ^^^ (b * 256) < 65536 := Nat.xor_lt_two_pow (n := 16) h (by omega)
end Go.PS
namespace Go.Proofs.YtaiiboplopljoaaGreat
open Go Go.PS
set_option maxHeartbeats 1000000 in
theorem f105 (n : Nat) (s b : Nat) (hp : Heap) (hs : s < 65536) (hb : b < 256) (hn : 60 < n) : evalCall Tryz.prog hints (n + 1) 105 [.int .i64 s, .int .i64 b] hp = some (.int .i64 (crcStep s b : Nat), hp, false) := by
  rw [evalCall_at _ _ _ hh105 rfl Tryz.func105 rfl (Nat.le_of_ble_eq_true rfl) rfl]
  have a1 := bi_and (A := (s : Int)) (B := 65535) s 65535 rfl rfl (by omega) (by omega)
  have a2 := bi_and (A := (b : Int)) (B := 255) b 255 rfl rfl (by omega) (by omega)
  have a3 := bi_xor (A := (s : Int)) (B := (b : Int) * 256) s (b * 256) rfl (by simp) (by omega) (by omega)
  rw [and_65535, Nat.mod_eq_of_lt hs] at a1
  rw [and_255, Nat.mod_eq_of_lt hb] at a2
  have w1 := wrap_id (x := (b : Int) * 256) (by omega)
  have h0 := crc0_lt hs hb
  have hx : crcStep s b = crcN 8 (s ^^^ (b * 256)) := rfl
  rw [hx]
  generalize s ^^^ (b * 256) = r at *
  simp [-binI, bi_lss, bi_add, bi_neq, a1, a2, a3, w1]
  rw [iter_count (fun k => { fr := [(0, .int .i64 (crcN k r : Nat)), (12, .int .i64 k)], hp := hp, base := hp.length, dirty := false }) (.exit 0, { fr := [(0, .int .i64 (crcN 8 r : Nat)), (12, .int .i64 8), (13, .bool false)], hp := hp, base := hp.length, dirty := false }) 8]
  · simp
  · simp [crcN]
  · omega
  · intro k hk
    have hq := crcN_lt h0 k
    have hk' : (k : Int) < 8 := by omega
    have w := wrap_id (x := (k : Int) + 1) (by omega)
    have hS : crcN (k + 1) r = crcP (crcN k r) := rfl
    rw [hS]
    generalize crcN k r = q at *
    have a1 := bi_and (A := (q : Int)) (B := 32768) q 32768 rfl rfl (by omega) (by omega)
    have a2 := bi_and (A := (q : Int) * 2) (B := 65535) (q * 2) 65535 (by simp) rfl (by omega) (by omega)
    have a3 := bi_xor (A := ((q * 2 % 65536 : Nat) : Int)) (B := 4129) (q * 2 % 65536) 4129 rfl rfl (by omega) (by omega)
    have w2 := wrap_id (x := (q : Int) * 2) (by omega)
    rw [and_32768] at a1
    rw [and_65535] at a2
    unfold crcP
    generalize hz : q * 2 % 65536 = z at *
    generalize q.testBit 15 = t at *
    cases t with
    | true =>
      simp only [if_true] at a1 ⊢
      simp [-binI, bi_lss, bi_add, bi_neq, a1, a2, a3, w, w2, hk']
    | false =>
      simp only [Bool.false_eq_true, if_false] at a1 ⊢
      simp [-binI, bi_lss, bi_add, bi_neq, a1, a2, a3, w, w2, hk']
  · simp [-binI, bi_lss]
  · simp
end Go.Proofs.YtaiiboplopljoaaGreat
end

section
namespace Go.PS
/-- The check of bytes. -/
def crcS (s : List UInt8) : Nat := s.foldl (fun a b => crcStep a b.toNat) 65535
def crcSeal (s : List UInt8) : List UInt8 := s ++ [UInt8.ofNat (crcS s / 256), UInt8.ofNat (crcS s % 256)]
theorem crcStep_lt (s b : Nat) : crcStep s b < 65536 := crcP_lt _
theorem fold_lt : ∀ (s : List UInt8) (a : Nat), a < 65536 → s.foldl (fun a b => crcStep a b.toNat) a < 65536
  | [], _, h => h
  | b :: s, a, _ => fold_lt s _ (crcStep_lt a b.toNat)
theorem crcS_lt (s : List UInt8) : crcS s < 65536 := fold_lt s _ (by omega)
theorem crcS_succ (s : List UInt8) (k : Nat) (h : k < s.length) : crcS (s.take (k + 1)) = crcStep (crcS (s.take k)) (s[k]).toNat := by
  unfold crcS
  rw [List.take_succ_eq_append_getElem h, List.foldl_append]; rfl
/-- The document's bits of a byte, one behind the other. -/
def crcB (s b : Nat) : Nat → Nat
  | 0 => s
  | k + 1 => crcPush (crcB s b k) (bitOf b k)
theorem crcB_lt {s b : Nat} (h : s < 65536) : ∀ k, crcB s b k < 65536
  | 0 => h
  | _ + 1 => crcPush_lt
theorem crcB_8 {s b : Nat} (hs : s < 65536) (hb : b < 256) : crcB s b 8 = crcStep s b := (crc_same hs hb).symm
end Go.PS
namespace Go.Proofs.YtaiiboplopljoaaGreat
open Go Go.PS
set_option maxHeartbeats 1000000 in
theorem f62 (n : Nat) (s : List UInt8) (hp : Heap) (hl : s.length < n) (hn : 60 < n) (hb : s.length ≤ 100000) : evalCall Tryz.prog hints (n + 2) 62 [.str s] hp = some (.int .i64 (crcS s : Nat), hp, false) := by
  rw [evalCall_at _ _ _ hh62 rfl Tryz.func62 rfl (Nat.le_of_ble_eq_true rfl) rfl]
  have e := fun a b h1 h2 => f105 n a b hp h1 h2 hn
  simp
  rw [iter_count (fun k => { fr := [(0, .str s), (3, .int .i64 (crcS (s.take k) : Nat)), (6, .int .i64 s.length), (7, .int .i64 k)], hp := hp, base := hp.length, dirty := false }) (.exit 0, { fr := [(0, .str s), (3, .int .i64 (crcS s : Nat)), (6, .int .i64 s.length), (7, .int .i64 s.length), (8, .bool false)], hp := hp, base := hp.length, dirty := false }) s.length]
  · simp
  · simp [crcS]
  · omega
  · intro k hk
    have hk' : (k : Int) < s.length := by omega
    have w := wrap_id (x := (k : Int) + 1) (by omega)
    have hS := crcS_succ s k hk
    have e := e (crcS (s.take k)) (s[k]).toNat (crcS_lt _) (s[k]).toNat_lt
    have w3 := wrap_id (x := ((s[k]).toNat : Int)) (by have := (s[k]).toNat_lt; omega)
    rw [hS]
    generalize crcS (s.take k) = q at *
    simp [hk, w, e, w3]
  · simp
  · simp
theorem f63 (n : Nat) (s : Nat) (hp : Heap) (hs : s < 65536) : evalCall Tryz.prog hints (n + 1) 63 [.int .i64 s] hp = some (.int .i64 (s / 256 : Nat), hp, false) := by
  rw [evalCall_at _ _ _ hh63 rfl Tryz.func63 rfl (Nat.le_of_ble_eq_true rfl) rfl]
  have e1 : (s : Int).fdiv 256 = ((s / 256 : Nat) : Int) := by rw [fd (by omega)]; omega
  have a1 := bi_and (A := ((s / 256 : Nat) : Int)) (B := 255) (s / 256) 255 rfl rfl (by omega) (by omega)
  rw [and_255, Nat.mod_eq_of_lt (by omega)] at a1
  generalize s / 256 = q at *
  simp [-binI, e1, a1]
theorem f64 (n : Nat) (s : Nat) (hp : Heap) (hs : s < 65536) : evalCall Tryz.prog hints (n + 1) 64 [.int .i64 s] hp = some (.int .i64 (s % 256 : Nat), hp, false) := by
  rw [evalCall_at _ _ _ hh64 rfl Tryz.func64 rfl (Nat.le_of_ble_eq_true rfl) rfl]
  have a1 := bi_and (A := (s : Int)) (B := 255) s 255 rfl rfl (by omega) (by omega)
  rw [and_255] at a1
  generalize s % 256 = q at *
  simp [-binI, a1]
theorem u8_nat (q : Nat) (h : q < 256) : ((q : Int) % 256).toNat = q := by omega
theorem f36 (n : Nat) (s : List UInt8) (hp : Heap) (hl : s.length < n) (hn : 60 < n) (hb : s.length ≤ 100000) : evalCall Tryz.prog hints (n + 3) 36 [.str s] hp = some (.str (crcSeal s), hp, false) := by
  have e62 := f62 n s hp hl hn hb
  have hc := crcS_lt s
  have e63 := f63 (n + 1) (crcS s) hp hc
  have e64 := f64 (n + 1) (crcS s) hp hc
  rw [evalCall_at _ _ _ hh36 rfl Tryz.func36 rfl (Nat.le_of_ble_eq_true rfl) rfl]
  unfold crcSeal
  have u1 := u8_nat (crcS s / 256) (by omega)
  have u2 := u8_nat (crcS s % 256) (by omega)
  generalize hq1 : crcS s / 256 = q1 at *
  generalize hq2 : crcS s % 256 = q2 at *
  generalize crcS s = c at *
  have hb' : s.length + 2 ≤ 9223372036854775807 := by omega
  simp [e62, e63, e64, bytesOf, u1, u2, hb']
theorem f106 (n : Nat) (s b : Nat) (hp : Heap) (hs : s < 65536) (hb : b < 2) : evalCall Tryz.prog hints (n + 1) 106 [.int .i64 s, .int .i64 b] hp = some (.int .i64 (crcPush s b : Nat), hp, false) := by
  rw [evalCall_at _ _ _ hh106 rfl Tryz.func106 rfl (Nat.le_of_ble_eq_true rfl) rfl]
  have e1 : (s : Int).tdiv 32768 = ((s / 32768 : Nat) : Int) := by rw [td _ (by omega)]; omega
  have w1 := wrap_id (x := ((s / 32768 : Nat) : Int)) (by omega)
  have w2 := wrap_id (x := (s : Int) * 2) (by omega)
  have e2 : ((s : Int) * 2).tmod 65536 = ((s * 2 % 65536 : Nat) : Int) := by rw [tm _ (by omega)]; omega
  have a3 := bi_xor (A := ((s * 2 % 65536 : Nat) : Int)) (B := 4129) (s * 2 % 65536) 4129 rfl rfl (by omega) (by omega)
  unfold crcPush
  have bq : binI .quo .i64 (s : Int) 32768 = some (.int .i64 ((s / 32768 : Nat) : Int)) := by
    show (if (32768 : Int) = 0 then none else some (PV.int .i64 (IntKind.i64.wrap ((s : Int).tdiv 32768)))) = _
    rw [if_neg (by decide), e1, w1]
  have br : binI .rem .i64 ((s : Int) * 2) 65536 = some (.int .i64 ((s * 2 % 65536 : Nat) : Int)) := by
    show (if (65536 : Int) = 0 then none else some (PV.int .i64 (((s : Int) * 2).tmod 65536))) = _
    rw [if_neg (by decide), e2]
  generalize s / 32768 = h at *
  generalize s * 2 % 65536 = r at *
  by_cases c : h = b
  · have c' : ((h : Int) != (b : Int)) = false := by simp [c]
    rw [if_pos c]
    simp [-binI, bi_mul, bi_neq, bq, br, w2, c']
  · have c' : ((h : Int) != (b : Int)) = true := by simp; omega
    rw [if_neg c]
    simp [-binI, bi_mul, bi_neq, bq, br, w2, c', a3]
end Go.Proofs.YtaiiboplopljoaaGreat
end

section
namespace Go.Proofs.YtaiiboplopljoaaGreat
open Go Go.PS
theorem n_tdiv (q d : Nat) : (q : Int).tdiv (d : Int) = ((q / d : Nat) : Int) := by rw [td _ (by omega)]; rfl
theorem n_tmod (q d : Nat) : (q : Int).tmod (d : Int) = ((q % d : Nat) : Int) := by rw [tm _ (by omega)]; rfl
theorem div_pow_succ (b m : Nat) : b / 2 ^ m / 2 = b / 2 ^ (m + 1) := by rw [Nat.div_div_eq_div_mul, Nat.pow_succ]
theorem f107 (n : Nat) (b i : Nat) (hp : Heap) (hb : b < 256) (hi : i < 8) (hn : 60 < n) : evalCall Tryz.prog hints (n + 1) 107 [.int .u8 b, .int .i64 i] hp = some (.int .i64 (bitOf b i : Nat), hp, false) := by
  rw [evalCall_at _ _ _ hh107 rfl Tryz.func107 rfl (Nat.le_of_ble_eq_true rfl) rfl]
  have w0 := wrap_id (x := (b : Int)) (by omega)
  simp [w0]
  rw [iter_count (fun m => { fr := [(1, .int .i64 i), (5, .int .i64 (b / 2 ^ m : Nat)), (6, .int .i64 (7 - m : Nat))], hp := hp, base := hp.length, dirty := false }) (.exit 0, { fr := [(1, .int .i64 i), (5, .int .i64 (b / 2 ^ (7 - i) : Nat)), (6, .int .i64 i), (11, .bool false)], hp := hp, base := hp.length, dirty := false }) (7 - i)]
  · have e : ((b / 2 ^ (7 - i) : Nat) : Int).tmod 2 = (bitOf b i : Nat) := n_tmod _ 2
    generalize b / 2 ^ (7 - i) = q at *
    generalize bitOf b i = r at *
    have br : binI .rem .i64 (q : Int) 2 = some (.int .i64 (r : Int)) := by
      show (if (2 : Int) = 0 then none else some (PV.int .i64 ((q : Int).tmod 2))) = _
      rw [if_neg (by decide), e]
    simp [-binI, br]
  · simp
  · omega
  · intro m hm
    have hlt : b / 2 ^ m ≤ b := Nat.div_le_self _ _
    have hS := div_pow_succ b m
    have e : ((b / 2 ^ m : Nat) : Int).tdiv 2 = (b / 2 ^ (m + 1) : Nat) := by rw [← hS]; exact n_tdiv _ 2
    have hlt2 : b / 2 ^ (m + 1) ≤ b := Nat.div_le_self _ _
    generalize b / 2 ^ m = q at *
    generalize b / 2 ^ (m + 1) = q' at *
    have w1 := wrap_id (x := (q' : Int)) (by omega)
    have bq : binI .quo .i64 (q : Int) 2 = some (.int .i64 (q' : Int)) := by
      show (if (2 : Int) = 0 then none else some (PV.int .i64 (IntKind.i64.wrap ((q : Int).tdiv 2)))) = _
      rw [if_neg (by decide), e, w1]
    obtain ⟨c, hc⟩ : ∃ c, 7 - m = c + 1 := ⟨6 - m, by omega⟩
    have hc' : 7 - (m + 1) = c := by omega
    have hic : i < c + 1 := by omega
    have hic' : (i : Int) < c + 1 := by omega
    have w2 := wrap_id (x := (c : Int)) (by omega)
    rw [hc, hc']
    simp [-binI, bi_gtr, bi_sub, bq, hic', w2]
  · have : 7 - (7 - i) = i := by omega
    rw [this]
    simp
  · simp
set_option maxHeartbeats 1000000 in
theorem f65 (n : Nat) (s : List UInt8) (hp : Heap) (hl : s.length < n) (hn : 60 < n) (hb : s.length ≤ 100000) : evalCall Tryz.prog hints (n + 2) 65 [.int .i64 65535, .str s] hp = some (.int .i64 (crcS s : Nat), hp, false) := by
  rw [evalCall_at _ _ _ hh65 rfl Tryz.func65 rfl (Nat.le_of_ble_eq_true rfl) rfl]
  have e106 := fun a b h1 h2 => f106 n a b hp h1 h2
  have e107 := fun a b h1 h2 => f107 n a b hp h1 h2 hn
  simp
  rw [iter_count (fun k => { fr := [(0, .int .i64 (crcS (s.take k) : Nat)), (1, .str s), (5, .int .i64 k)], hp := hp, base := hp.length, dirty := false }) (.exit 0, { fr := [(0, .int .i64 (crcS s : Nat)), (1, .str s), (5, .int .i64 s.length), (10, .bool false)], hp := hp, base := hp.length, dirty := false }) s.length]
  · simp
  · simp [crcS]
  · omega
  · intro k hk
    have hk' : (k : Int) < s.length := by omega
    have w := wrap_id (x := (k : Int) + 1) (by omega)
    have hS := crcS_succ s k hk
    have hq := crcS_lt (s.take k)
    have hc1 : s[k]? = some s[k] := List.getElem?_eq_getElem hk
    have hby := (s[k]).toNat_lt
    generalize s[k] = c at *
    have h8 := crcB_8 hq hby
    rw [hS, ← h8]
    have e107 := fun i h => e107 c.toNat i hby h
    generalize crcS (s.take k) = q at *
    have hlt := fun i => crcB_lt (b := c.toNat) hq i
    simp [-getElem?_pos, hk, hc1]
    rw [iter_count (fun i => { fr := [(0, .int .i64 (crcB q c.toNat i : Nat)), (1, .str s), (5, .int .i64 k), (6, .int .i64 i)], hp := hp, base := hp.length, dirty := false }) (.exit 2, { fr := [(0, .int .i64 (crcB q c.toNat 8 : Nat)), (1, .str s), (5, .int .i64 k), (6, .int .i64 8), (14, .bool false)], hp := hp, base := hp.length, dirty := false }) 8]
    · simp [w]
    · simp [crcB]
    · omega
    · intro i hi
      have hi' : (i : Int) < 8 := by omega
      have w := wrap_id (x := (i : Int) + 1) (by omega)
      have e107 := e107 i hi
      have hb2 : bitOf c.toNat i < 2 := by unfold bitOf; omega
      have e106 := e106 (crcB q c.toNat i) (bitOf c.toNat i) (hlt i) hb2
      have hS : crcB q c.toNat (i + 1) = crcPush (crcB q c.toNat i) (bitOf c.toNat i) := rfl
      rw [hS]
      generalize crcB q c.toNat i = r at *
      generalize bitOf c.toNat i = b at *
      simp [-getElem?_pos, hk, hc1, hi', e107, e106, w]
    · simp
    · simp
  · simp
  · simp
theorem f38 (n : Nat) (s : List UInt8) (hp : Heap) (hl : s.length < n) (hn : 60 < n) (hb : s.length ≤ 100000) : evalCall Tryz.prog hints (n + 3) 38 [.str s] hp = some (.int .i64 (crcS s : Nat), hp, false) := by
  have e := f65 n s hp hl hn hb
  rw [evalCall_at _ _ _ hh38 rfl Tryz.func38 rfl (Nat.le_of_ble_eq_true rfl) rfl]
  simp [e]
theorem f15 (n : Nat) (s : List UInt8) (hp : Heap) (hl : s.length < n) (hn : 60 < n) (hb : s.length ≤ 100000) : evalCall Tryz.prog hints (n + 4) 15 [.str s] hp = some (.str (crcSeal s), hp, false) := by
  have e := f38 n s hp hl hn hb
  have hc := crcS_lt s
  rw [evalCall_at _ _ _ hh15 rfl Tryz.func15 rfl (Nat.le_of_ble_eq_true rfl) rfl]
  unfold crcSeal
  have u1 := u8_nat (crcS s / 256) (by omega)
  have u2 := u8_nat (crcS s % 256) (by omega)
  have e1 : ((crcS s : Nat) : Int).tdiv 256 = ((crcS s / 256 : Nat) : Int) := by rw [td _ (by omega)]; omega
  have e2 : ((crcS s : Nat) : Int).tmod 256 = ((crcS s % 256 : Nat) : Int) := by rw [tm _ (by omega)]; omega
  have w1 := wrap_id (x := ((crcS s / 256 : Nat) : Int)) (by omega)
  have bq : binI .quo .i64 ((crcS s : Nat) : Int) 256 = some (.int .i64 ((crcS s / 256 : Nat) : Int)) := by
    show (if (256 : Int) = 0 then none else some (PV.int .i64 (IntKind.i64.wrap (((crcS s : Nat) : Int).tdiv 256)))) = _
    rw [if_neg (by decide), e1, w1]
  have br : binI .rem .i64 ((crcS s : Nat) : Int) 256 = some (.int .i64 ((crcS s % 256 : Nat) : Int)) := by
    show (if (256 : Int) = 0 then none else some (PV.int .i64 (((crcS s : Nat) : Int).tmod 256))) = _
    rw [if_neg (by decide), e2]
  generalize hq1 : crcS s / 256 = q1 at *
  generalize hq2 : crcS s % 256 = q2 at *
  generalize crcS s = c at *
  have hb' : s.length + 2 ≤ 9223372036854775807 := by omega
  simp [-binI, e, bq, br, bytesOf, u1, u2, hb']
end Go.Proofs.YtaiiboplopljoaaGreat
end
