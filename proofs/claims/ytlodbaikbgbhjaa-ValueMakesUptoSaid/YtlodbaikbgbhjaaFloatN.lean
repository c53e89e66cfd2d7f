/- The bits of a float: exponent, mantissa; the one NaN as the reference has it; keys. -/
import Derived.Test.YtlodbaikbgbhjaaFloatM
import Derived.Test.YtlodbaikbgbhjaaValueF
set_option linter.unusedVariables false
set_option linter.unusedSimpArgs false
set_option maxRecDepth 20000
namespace Go.Proofs.Ytlodbaikbgbhjaa
open Go Go.Vm

theorem u64_wrap' {n : Nat} (h : n < 18446744073709551616) : IntKind.u64.wrap (n : Int) = n := by
  simp only [IntKind.wrap, IntKind.signed, IntKind.bits]
  simp
  omega
theorem ofInt_toNat' {n : Nat} (h : n < 18446744073709551616) : (BitVec.ofInt 64 (n : Int)).toNat = n := by
  rw [BitVec.ofInt_natCast, BitVec.toNat_ofNat]
  omega
theorem and_u64 {n m : Nat} (hn : n < 18446744073709551616) (hm : m < 18446744073709551616) : bitsI .and .u64 (n : Int) (m : Int) = ((n &&& m : Nat) : Int) := by
  show IntKind.u64.wrap ((BitVec.ofInt 64 (n : Int) &&& BitVec.ofInt 64 (m : Int)).toNat : Int) = _
  rw [BitVec.toNat_and, ofInt_toNat' hn, ofInt_toNat' hm, u64_wrap' (Nat.lt_of_le_of_lt Nat.and_le_left hn)]
theorem and_low (n : Nat) : n &&& 4503599627370495 = n % 4503599627370496 := by
  have := Nat.and_two_pow_sub_one_eq_mod n 52
  simpa using this
theorem and_high (n : Nat) : n &&& 9218868437227405312 = (n / 4503599627370496 % 2048) * 4503599627370496 := by
  apply Nat.eq_of_testBit_eq
  intro i
  have e1 : (9218868437227405312 : Nat) = (2 ^ 11 - 1) <<< 52 := by decide
  have e2 : (n / 4503599627370496 % 2048) * 4503599627370496 = ((n / 2 ^ 52) % 2 ^ 11) <<< 52 := by rw [Nat.shiftLeft_eq]
  rw [e1, e2, Nat.testBit_and, Nat.testBit_shiftLeft, Nat.testBit_shiftLeft, Nat.testBit_two_pow_sub_one, Nat.testBit_mod_two_pow, Nat.testBit_div_two_pow]
  by_cases h : 52 ≤ i
  · rw [show i - 52 + 52 = i from by omega]
    simp [h, Bool.and_comm]
  · simp [h]
theorem kind_nan {n : Nat} (h : n < 18446744073709551616) : kindI (n : Int) = 1 ↔ 9218868437227405312 < rg n := by
  unfold kindI hiF loF
  rw [show (9218868437227405312 : Int) = ((9218868437227405312 : Nat) : Int) from rfl, show (4503599627370495 : Int) = ((4503599627370495 : Nat) : Int) from rfl, and_u64 h (by omega), and_u64 h (by omega), and_low, and_high]
  unfold rg
  constructor
  · intro k
    split at k
    · split at k
      · omega
      · omega
    · split at k
      · split at k <;> omega
      · omega
  · intro k
    rw [if_pos (by omega), if_pos (by omega)]
/-- is it one? as floats that are not the same as themselves tell -/
theorem self_ne {n : Nat} : (Ieee.double.order n n != some .eq) = decide (9218868437227405312 < rg n) := by
  by_cases h : 9218868437227405312 < rg n
  · rw [order_nan (.inl h)]; simp [h]
  · rw [order_some (by omega) (by omega), Int.compare_eq_eq.2 rfl]; simp [h]
theorem canon_ref {n : Nat} (h : n < 18446744073709551616) : canonI (n : Int) = if 9218868437227405312 < rg n then 9221120237041090560 else (n : Int) := by
  unfold canonI
  by_cases k : 9218868437227405312 < rg n
  · rw [if_pos ((kind_nan h).2 k), if_pos k]
  · rw [if_neg (fun q => k ((kind_nan h).1 q)), if_neg k]
end Go.Proofs.Ytlodbaikbgbhjaa
