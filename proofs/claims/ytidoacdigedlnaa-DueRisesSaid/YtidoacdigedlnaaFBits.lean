/- Bits of a float, as plain numbers. -/
import Derived.Test.YtidoacdigedlnaaFMath
import Derived.RowKit
namespace Go.Proofs.Ytidoacdigedlnaa
namespace FM
open Go.RowKit

theorem bits_and (n c : Nat) (h : n < 18446744073709551616) (hc : c < 18446744073709551616) : bits .and .u64 (n : Int) (c : Int) = ((n &&& c : Nat) : Int) := by
  unfold bits
  simp only [BitVec.ofInt_natCast]
  have e : (BitVec.ofNat IntKind.u64.bits n &&& BitVec.ofNat IntKind.u64.bits c).toNat = n &&& c := by
    show (BitVec.ofNat 64 n &&& BitVec.ofNat 64 c).toNat = _
    rw [BitVec.toNat_and, BitVec.toNat_ofNat, BitVec.toNat_ofNat, Nat.mod_eq_of_lt (by omega), Nat.mod_eq_of_lt (by omega)]
  rw [e]
  have := @Nat.and_le_left n c
  show ((n &&& c : Nat) : Int) % 18446744073709551616 = _
  omega
theorem bits_or (n c : Nat) (h : n < 18446744073709551616) (hc : c < 18446744073709551616) : bits .or .u64 (n : Int) (c : Int) = ((n ||| c : Nat) : Int) := by
  unfold bits
  simp only [BitVec.ofInt_natCast]
  have e : (BitVec.ofNat IntKind.u64.bits n ||| BitVec.ofNat IntKind.u64.bits c).toNat = n ||| c := by
    show (BitVec.ofNat 64 n ||| BitVec.ofNat 64 c).toNat = _
    rw [BitVec.toNat_or, BitVec.toNat_ofNat, BitVec.toNat_ofNat, Nat.mod_eq_of_lt (by omega), Nat.mod_eq_of_lt (by omega)]
  rw [e]
  have : n ||| c < 2 ^ 64 := Nat.or_lt_two_pow h hc
  show ((n ||| c : Nat) : Int) % 18446744073709551616 = _
  omega
theorem and_low (n : Nat) : n &&& 4503599627370495 = n % 4503599627370496 := Nat.and_two_pow_sub_one_eq_mod n 52
theorem and_high (n : Nat) : n &&& 9218868437227405312 = n / 4503599627370496 % 2048 * 4503599627370496 := by
  have e : (9218868437227405312 : Nat) = 2047 * 2 ^ 52 := by decide
  apply Nat.eq_of_testBit_eq
  intro i
  rw [e, Nat.testBit_and, show (4503599627370496 : Nat) = 2 ^ 52 from rfl, Nat.testBit_mul_two_pow, Nat.testBit_mul_two_pow, show (2048 : Nat) = 2 ^ 11 from rfl, Nat.testBit_mod_two_pow, Nat.testBit_div_two_pow]
  by_cases h : 52 ≤ i
  · simp only [h, decide_true, Bool.true_and]
    rw [show (2047 : Nat) = 2 ^ 11 - 1 from rfl, Nat.testBit_two_pow_sub_one]
    have e : 52 + (i - 52) = i := by omega
    rw [show i - 52 + 52 = i from by omega, Bool.and_comm]
  · simp [h]
theorem and_sign (n : Nat) : n &&& 9223372036854775808 = n / 9223372036854775808 % 2 * 9223372036854775808 := by
  apply Nat.eq_of_testBit_eq
  intro i
  rw [Nat.testBit_and, show (9223372036854775808 : Nat) = 2 ^ 63 from rfl, Nat.testBit_two_pow, Nat.testBit_mul_two_pow]
  by_cases h : i = 63
  · subst h; simp [Nat.testBit, Nat.shiftRight_eq_div_pow, Nat.one_and_eq_mod_two]
  · by_cases h' : 63 ≤ i
    · have e : (n / 2 ^ 63 % 2).testBit (i - 63) = false := Nat.testBit_lt_two_pow (Nat.lt_of_lt_of_le (Nat.mod_lt _ (by decide)) (by
        have := Nat.pow_le_pow_right (n := 2) (by decide) (show 1 ≤ i - 63 by omega); simpa using this))
      simp [e]; omega
    · simp [h']; omega
theorem or_disj (a k b : Nat) (h : b < 2 ^ k) : b ||| a * 2 ^ k = b + a * 2 ^ k := by
  rw [Nat.mul_comm, Nat.or_comm, ← Nat.two_pow_add_eq_or_of_lt h, Nat.add_comm]
theorem or_one (m : Nat) (h : m < 4503599627370496) : m ||| 4503599627370496 = m + 4503599627370496 := by
  have := or_disj 1 52 m h
  simpa using this
theorem or_sign (n : Nat) (h : n < 9223372036854775808) : n ||| 9223372036854775808 = n + 9223372036854775808 := by
  have := or_disj 1 63 n h
  simpa using this

def cH : Int := 9218868437227405312
def cL : Int := 4503599627370495
def cS : Int := 9223372036854775808
theorem hi_eq (n : Nat) (h : n < 18446744073709551616) : bits .and .u64 (n : Int) 9218868437227405312 = ((n / 4503599627370496 % 2048 * 4503599627370496 : Nat) : Int) := by
  have := bits_and n 9218868437227405312 h (by decide)
  rw [and_high] at this; exact this
theorem lo_eq (n : Nat) (h : n < 18446744073709551616) : bits .and .u64 (n : Int) 4503599627370495 = ((n % 4503599627370496 : Nat) : Int) := by
  have := bits_and n 4503599627370495 h (by decide)
  rw [and_low] at this; exact this
theorem sign_eq (n : Nat) (h : n < 18446744073709551616) : bits .and .u64 (n : Int) 9223372036854775808 = ((n / 9223372036854775808 % 2 * 9223372036854775808 : Nat) : Int) := by
  have := bits_and n 9223372036854775808 h (by decide)
  rw [and_sign] at this; exact this
theorem top_eq (n : Nat) (h : n < 9223372036854775808) : bits .or .u64 (n : Int) 9223372036854775808 = ((n + 9223372036854775808 : Nat) : Int) := by
  have := bits_or n 9223372036854775808 (by omega) (by decide)
  rw [or_sign n h] at this; exact this
theorem one_eq (n : Nat) (h : n < 4503599627370496) : bits .or .u64 (n : Int) 4503599627370496 = ((n + 4503599627370496 : Nat) : Int) := by
  have := bits_or n 4503599627370496 (by omega) (by decide)
  rw [or_one n h] at this; exact this

/-- of which kind a word is -/
def kN (n : Nat) : Int := if isN n then 1 else if rg n = 9218868437227405312 then 2 else if rg n = 0 then 3 else if rg n < 4503599627370496 then 4 else 5
def kI (x : Int) : Int :=
  if bits .and .u64 x 9218868437227405312 = 9218868437227405312 then (if bits .and .u64 x 4503599627370495 = 0 then 2 else 1)
  else if bits .and .u64 x 9218868437227405312 = 0 then (if bits .and .u64 x 4503599627370495 = 0 then 3 else 4) else 5
theorem kI_eq (n : Nat) (h : n < 18446744073709551616) : kI n = kN n := by
  unfold kI kN
  rw [hi_eq n h, lo_eq n h]
  unfold isN
  rw [rg_eq]
  have hm : n % 4503599627370496 < 4503599627370496 := Nat.mod_lt _ (by decide)
  have he : n / 4503599627370496 % 2048 < 2048 := Nat.mod_lt _ (by decide)
  generalize n / 4503599627370496 % 2048 = e at *
  generalize n % 4503599627370496 = m at *
  by_cases h1 : e = 2047
  · rw [if_pos (by omega)]
    by_cases h2 : m = 0
    · rw [if_pos (by omega), if_neg (by omega), if_pos (by omega)]
    · rw [if_neg (by omega), if_pos (by omega)]
  · rw [if_neg (by omega)]
    by_cases h3 : e = 0
    · rw [if_pos (by omega)]
      by_cases h2 : m = 0
      · rw [if_pos (by omega), if_neg (by omega), if_neg (by omega), if_pos (by omega)]
      · rw [if_neg (by omega), if_neg (by omega), if_neg (by omega), if_neg (by omega), if_pos (by omega)]
    · rw [if_neg (by omega), if_neg (by omega), if_neg (by omega), if_neg (by omega), if_neg (by omega)]
theorem kN_nan (n : Nat) : kN n = 1 ↔ isN n := by
  unfold kN
  by_cases h : isN n
  · rw [if_pos h]; simp [h]
  · rw [if_neg h]
    refine ⟨fun e => ?_, fun e => absurd e h⟩
    revert e
    split
    · simp
    split
    · simp
    split <;> simp
theorem kN_zero (n : Nat) : kN n = 3 ↔ rg n = 0 := by
  unfold kN isN
  split
  · simp; omega
  split
  · simp; omega
  split
  · simp; omega
  split <;> simp <;> omega
theorem ne_self (n : Nat) : (Ieee.double.order n n != some Ordering.eq) = decide (isN n) := by
  rw [order_eq]
  by_cases hn : isN n
  · simp [hn]
  · simp [hn]
def cN (n : Nat) : Nat := if isN n then 9221120237041090560 else n
theorem cN_lt (n : Nat) (h : n < 18446744073709551616) : cN n < 18446744073709551616 := by unfold cN; split <;> omega
theorem cN_one (n : Nat) : cN n = 9221120237041090560 ↔ isN n := by
  unfold cN
  constructor
  · intro h
    split at h
    · assumption
    · subst h; decide
  · intro h; rw [if_pos h]
/-- A WORD's PARTS, SO THAT omega SEES THEM. -/
theorem parts (n : Nat) (h : n < 18446744073709551616) : (sg n = true ∧ 9223372036854775808 ≤ n ∧ rg n = n - 9223372036854775808 ∧ sr n = 9223372036854775808 - n) ∨ (sg n = false ∧ n < 9223372036854775808 ∧ rg n = n ∧ sr n = n) := by
  unfold sr
  by_cases h' : n < 9223372036854775808
  · have e1 : sg n = false := by unfold sg; rw [beq_eq_false_iff_ne]; omega
    have e2 : rg n = n := by unfold rg; omega
    rw [e1, e2]; exact .inr ⟨rfl, h', rfl, rfl⟩
  · have e1 : sg n = true := by unfold sg; rw [beq_iff_eq]; omega
    have e2 : rg n = n - 9223372036854775808 := by unfold rg; omega
    rw [e1, e2]; refine .inl ⟨rfl, by omega, rfl, ?_⟩
    simp only [if_true]; omega
/-- a word's key -/
def kyN (n : Nat) : Nat := if isN n then 18446744073709551615 else if 9223372036854775808 ≤ n then 18446744073709551615 - n else n + 9223372036854775808
def ordN (a b : Nat) : Int := if (kyN a : Int) < (kyN b : Int) then -1 else if (kyN b : Int) < (kyN a : Int) then 1 else 0
def lessN (a b : Nat) : Bool := decide (¬ isN a ∧ ¬ isN b ∧ sr a < sr b)
theorem order_lt (a b : Nat) : FloatKind.f64.format.order a b = some Ordering.lt ↔ ¬ isN a ∧ ¬ isN b ∧ sr a < sr b := by
  show Ieee.double.order a b = _ ↔ _
  rw [order_eq]
  by_cases h : isN a ∨ isN b
  · rw [if_pos h]; simp; omega
  · rw [if_neg h]; simp only [Option.some.injEq, Int.compare_eq_lt]; omega
theorem order_gt (a b : Nat) : FloatKind.f64.format.order a b = some Ordering.gt ↔ ¬ isN a ∧ ¬ isN b ∧ sr b < sr a := by
  show Ieee.double.order a b = _ ↔ _
  rw [order_eq]
  by_cases h : isN a ∨ isN b
  · rw [if_pos h]; simp; omega
  · rw [if_neg h]; simp only [Option.some.injEq, Int.compare_eq_gt]; omega
theorem order_is (a b : Nat) : FloatKind.f64.format.order a b = some Ordering.eq ↔ ¬ isN a ∧ ¬ isN b ∧ sr a = sr b := by
  show Ieee.double.order a b = _ ↔ _
  rw [order_eq]
  by_cases h : isN a ∨ isN b
  · rw [if_pos h]; simp; omega
  · rw [if_neg h]; simp only [Option.some.injEq, Int.compare_eq_eq]; omega
theorem sr_zero : sr 0 = 0 := by decide
theorem sr_one : sr 4607182418800017408 = 4607182418800017408 := by decide
theorem sr_63 : sr 4890909195324358656 = 4890909195324358656 := by decide
theorem n_zero : ¬ isN 0 := by decide
theorem n_one : ¬ isN 4607182418800017408 := by decide
theorem n_63 : ¬ isN 4890909195324358656 := by decide

/-- the whole number below a word from 1 on -/
def whN (n : Nat) : Nat := if 1075 ≤ n / 4503599627370496 % 2048 then (n % 4503599627370496 + 4503599627370496) * 2 ^ (n / 4503599627370496 % 2048 - 1075) else (n % 4503599627370496 + 4503599627370496) / 2 ^ (1075 - n / 4503599627370496 % 2048)
def wF (n : Nat) (most : Int) : Int := if isN n ∨ most < 0 then 0 else if sr n < 4607182418800017408 then 0 else if 4890909195324358656 ≤ sr n then most else min (whN n : Int) most
def eF (n : Nat) (most : Int) : Int := if isN n ∨ most < 0 then 1 else 0
theorem cut_zero (s : Bool) (n d : Nat) : Ieee.Toward.zero.cut s n d = n / 2 ^ d := by
  unfold Ieee.Toward.cut
  simp only [Bool.toNat_false, Nat.add_zero]
  rw [Nat.one_shiftLeft]
  by_cases h : d ≤ n.log2 + 2
  · rw [Nat.min_eq_left h]
  · rw [Nat.min_eq_right (by omega)]
    have h1 : n < 2 ^ (n.log2 + 2) := Nat.lt_of_lt_of_le Nat.lt_log2_self (Nat.pow_le_pow_right (by decide) (by omega))
    have h2 : n < 2 ^ d := Nat.lt_of_lt_of_le h1 (Nat.pow_le_pow_right (by decide) (by omega))
    rw [Nat.div_eq_of_lt h1, Nat.div_eq_of_lt h2]
theorem pow_bound (a k : Nat) (ha : a < 9007199254740992) (hk : k ≤ 10) : a * 2 ^ k < 9223372036854775808 := by
  have h1 : 2 ^ k ≤ 2 ^ 10 := Nat.pow_le_pow_right (by decide) hk
  have h2 : a * 2 ^ k ≤ a * 2 ^ 10 := Nat.mul_le_mul_left _ h1
  omega
theorem to_int (n : Nat) (h : n < 4890909195324358656) : floatToIntVal .f64 n .i64 = some (if n < 4607182418800017408 then 0 else (whN n : Int)) := by
  have e1 : rg n = n := by unfold rg; omega
  have e2 : sg n = false := by unfold sg; rw [beq_eq_false_iff_ne]; omega
  have hr : FloatKind.f64.decode n = .number (sg n) (mg (rg n)) (-1074 + (ex (rg n) : Nat)) := read_num n (by omega)
  have hm : n % 4503599627370496 < 4503599627370496 := Nat.mod_lt _ (by decide)
  unfold floatToIntVal
  rw [hr, e1, e2]
  unfold Ieee.Datum.toInt Ieee.Datum.integral
  simp only [cut_zero]
  have key : Ieee.signed false (mg n <<< (-1074 + (ex n : Int)).toNat / 2 ^ (-(-1074 + (ex n : Int))).toNat) 0 = if n < 4607182418800017408 then 0 else (whN n : Int) := by
    unfold Ieee.signed
    simp only [Bool.false_eq_true, if_false, Nat.shiftLeft_eq, Nat.pow_zero, Nat.mul_one]
    unfold mg ex whN
    have em : n / 4503599627370496 % 2048 = n / 4503599627370496 := Nat.mod_eq_of_lt (by omega)
    rw [em]
    by_cases h1 : n < 4607182418800017408
    · rw [if_pos h1]
      have a1 : (-1074 + ((n / 4503599627370496 - 1 : Nat) : Int)).toNat = 0 := by omega
      rw [a1, Nat.pow_zero, Nat.mul_one]
      have a2 : (if n < 4503599627370496 then n else 4503599627370496 + n % 4503599627370496) < 2 ^ 53 := by split <;> omega
      have a3 : 2 ^ 53 ≤ 2 ^ (-(-1074 + ((n / 4503599627370496 - 1 : Nat) : Int))).toNat := Nat.pow_le_pow_right (by decide) (by omega)
      rw [Nat.div_eq_of_lt (Nat.lt_of_lt_of_le a2 a3)]; rfl
    · rw [if_neg h1, if_neg (by omega)]
      congr 1
      by_cases h2 : 1075 ≤ n / 4503599627370496
      · rw [if_pos h2]
        have a1 : (-1074 + ((n / 4503599627370496 - 1 : Nat) : Int)).toNat = n / 4503599627370496 - 1075 := by omega
        have a2 : (-(-1074 + ((n / 4503599627370496 - 1 : Nat) : Int))).toNat = 0 := by omega
        rw [a1, a2, Nat.pow_zero, Nat.div_one, Nat.add_comm]
      · rw [if_neg h2]
        have a1 : (-1074 + ((n / 4503599627370496 - 1 : Nat) : Int)).toNat = 0 := by omega
        have a2 : (-(-1074 + ((n / 4503599627370496 - 1 : Nat) : Int))).toNat = 1075 - n / 4503599627370496 := by omega
        rw [a1, a2, Nat.pow_zero, Nat.mul_one, Nat.add_comm]
  rw [key]
  have hb : (if n < 4607182418800017408 then 0 else (whN n : Int)) < 9223372036854775808 := by
    split
    · decide
    · unfold whN
      have em : n / 4503599627370496 % 2048 ≤ 1085 := by
        have : n / 4503599627370496 % 2048 = n / 4503599627370496 := Nat.mod_eq_of_lt (by omega)
        omega
      split
      · have := pow_bound (n % 4503599627370496 + 4503599627370496) (n / 4503599627370496 % 2048 - 1075) (by omega) (by omega)
        omega
      · have := Nat.div_le_self (n % 4503599627370496 + 4503599627370496) (2 ^ (1075 - n / 4503599627370496 % 2048))
        omega
  have hc : 0 ≤ (if n < 4607182418800017408 then 0 else (whN n : Int)) := by split <;> omega
  rw [if_pos]
  exact ⟨Int.le_trans (by decide) hc, by show _ ≤ (9223372036854775807 : Int); omega⟩
end FM
end Go.Proofs.Ytidoacdigedlnaa
