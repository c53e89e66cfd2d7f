/- Two floats, held against each other: as their bits stand. -/
import Derived.Test.YtlodbaikbgbhjaaVmV
import Ieee.Arith
set_option linter.unusedVariables false
set_option linter.unusedSimpArgs false
set_option maxRecDepth 20000
namespace Go.Proofs.Ytlodbaikbgbhjaa
open Go Go.Vm

/-! ### what stands for a number -/
def mg (r : Nat) : Nat := if r < 4503599627370496 then r else (4503599627370496 + r % 4503599627370496) * 2 ^ (r / 4503599627370496 - 1)
theorem mg_lt {r s : Nat} (h : r < s) : mg r < mg s := by
  unfold mg
  by_cases h1 : s < 4503599627370496
  · rw [if_pos (by omega), if_pos h1]; exact h
  · rw [if_neg h1]
    have hs : 4503599627370496 ≤ (4503599627370496 + s % 4503599627370496) * 2 ^ (s / 4503599627370496 - 1) := by
      have : 1 ≤ 2 ^ (s / 4503599627370496 - 1) := Nat.one_le_two_pow
      calc 4503599627370496 = 4503599627370496 * 1 := by omega
        _ ≤ (4503599627370496 + s % 4503599627370496) * 2 ^ (s / 4503599627370496 - 1) := Nat.mul_le_mul (by omega) this
    by_cases h2 : r < 4503599627370496
    · rw [if_pos h2]; omega
    · rw [if_neg h2]
      by_cases h3 : r / 4503599627370496 = s / 4503599627370496
      · rw [h3]
        exact Nat.mul_lt_mul_of_pos_right (by omega) (Nat.two_pow_pos _)
      · have h4 : r / 4503599627370496 < s / 4503599627370496 := by
          have := Nat.div_le_div_right (c := 4503599627370496) (Nat.le_of_lt h)
          omega
        obtain ⟨e, he⟩ : ∃ e, r / 4503599627370496 = e + 1 := ⟨r / 4503599627370496 - 1, by omega⟩
        obtain ⟨d, hd⟩ : ∃ d, s / 4503599627370496 = e + 2 + d := ⟨s / 4503599627370496 - (e + 2), by omega⟩
        rw [he, hd, Nat.add_sub_cancel, show e + 2 + d - 1 = (e + 1) + d from by omega]
        have h5 : (4503599627370496 + r % 4503599627370496) * 2 ^ e < 9007199254740992 * 2 ^ e := Nat.mul_lt_mul_of_pos_right (by omega) (Nat.two_pow_pos _)
        have h6 : 9007199254740992 * 2 ^ e = 4503599627370496 * 2 ^ (e + 1) := by rw [Nat.pow_succ]; omega
        have h7 : 4503599627370496 * 2 ^ (e + 1) ≤ 4503599627370496 * 2 ^ (e + 1 + d) := Nat.mul_le_mul_left _ (Nat.pow_le_pow_right (by omega) (by omega))
        have h8 : 4503599627370496 * 2 ^ (e + 1 + d) ≤ (4503599627370496 + s % 4503599627370496) * 2 ^ (e + 1 + d) := Nat.mul_le_mul_right _ (by omega)
        omega
theorem mg_lt_iff {r s : Nat} : mg r < mg s ↔ r < s := by
  refine ⟨fun h => ?_, mg_lt⟩
  rcases Nat.lt_trichotomy r s with q | q | q
  · exact q
  · subst q; omega
  · have := mg_lt q; omega
theorem mg_eq_iff {r s : Nat} : mg r = mg s ↔ r = s := by
  refine ⟨fun h => ?_, fun h => by rw [h]⟩
  rcases Nat.lt_trichotomy r s with q | q | q
  · have := mg_lt q; omega
  · exact q
  · have := mg_lt q; omega
/-- a number's magnitude and place above the least -/
theorem mg_parts {r : Nat} (h : r < 9218868437227405312) : ∃ m a : Nat, mg r = m * 2 ^ a ∧ ∀ neg, (if r < 4503599627370496 then Ieee.Datum.number neg r Ieee.double.leastPlace else .number neg (4503599627370496 + r % 4503599627370496) (Ieee.double.leastPlace + (r / 4503599627370496 - 1 : Nat))) = .number neg m (Ieee.double.leastPlace + (a : Nat)) := by
  unfold mg
  by_cases h1 : r < 4503599627370496
  · exact ⟨r, 0, by rw [if_pos h1]; simp, fun neg => by rw [if_pos h1]; simp⟩
  · exact ⟨_, _, by rw [if_neg h1], fun neg => by rw [if_neg h1]⟩
def sgn (neg : Bool) (n : Nat) : Int := if neg then -(n : Int) else n
theorem sgn_mul (neg : Bool) (n c : Nat) : sgn neg (n * c) = sgn neg n * c := by
  unfold sgn
  cases neg <;> simp [Int.neg_mul]
theorem cmp_mul {a b : Int} {c : Nat} (h : 0 < c) : compare (a * c) (b * c) = compare a b := by
  have hc : (0 : Int) < c := by omega
  rcases Int.lt_trichotomy a b with q | q | q
  · rw [Int.compare_eq_lt.2 q, Int.compare_eq_lt.2 (Int.mul_lt_mul_of_pos_right q hc)]
  · subst q; simp
  · rw [Int.compare_eq_gt.2 q, Int.compare_eq_gt.2 (Int.mul_lt_mul_of_pos_right q hc)]
theorem cmp_congr {a b c d : Int} (h1 : a < b ↔ c < d) (h2 : a = b ↔ c = d) : compare a b = compare c d := by
  rcases Int.lt_trichotomy a b with q | q | q
  · rw [Int.compare_eq_lt.2 q, Int.compare_eq_lt.2 (h1.1 q)]
  · rw [Int.compare_eq_eq.2 q, Int.compare_eq_eq.2 (h2.1 q)]
  · rw [Int.compare_eq_gt.2 q]
    rcases Int.lt_trichotomy c d with p | p | p
    · have := h1.2 p; omega
    · have := h2.2 p; omega
    · rw [Int.compare_eq_gt.2 p]
theorem mg_zero : mg 0 = 0 := by unfold mg; rfl
theorem cmp_mg (s t : Bool) (r q : Nat) : compare (sgn s (mg r)) (sgn t (mg q)) = compare (sgn s r) (sgn t q) := by
  have h1 := @mg_lt_iff r q
  have h2 := @mg_lt_iff q r
  have h3 := @mg_eq_iff r q
  have h4 := @mg_eq_iff r 0
  have h5 := @mg_eq_iff q 0
  rw [mg_zero] at h4 h5
  apply cmp_congr <;> (unfold sgn; cases s <;> cases t <;> simp only [if_true, if_false, Bool.false_eq_true] <;> omega)
def rg (x : Nat) : Nat := x % 9223372036854775808
def ng (x : Nat) : Bool := x / 9223372036854775808 % 2 == 1
theorem read_eq (x : Nat) : Ieee.double.read x = if rg x < 4503599627370496 then .number (ng x) (rg x) Ieee.double.leastPlace else if rg x < 9218868437227405312 then .number (ng x) (4503599627370496 + rg x % 4503599627370496) (Ieee.double.leastPlace + (rg x / 4503599627370496 - 1 : Nat)) else if rg x = 9218868437227405312 then .infinity (ng x) else .nan (ng x) (rg x - 9218868437227405312) := rfl
theorem read_num {x : Nat} (h : rg x < 9218868437227405312) : ∃ m a : Nat, mg (rg x) = m * 2 ^ a ∧ Ieee.double.read x = .number (ng x) m (Ieee.double.leastPlace + (a : Nat)) := by
  obtain ⟨m, a, h1, h2⟩ := mg_parts h
  refine ⟨m, a, h1, ?_⟩
  rw [read_eq, ← h2]
  by_cases h3 : rg x < 4503599627370496
  · rw [if_pos h3, if_pos h3]
  · rw [if_neg h3, if_neg h3, if_pos h]
def sv (x : Nat) : Int := sgn (ng x) (rg x)
theorem signed_eq (s : Bool) (m u : Nat) : Ieee.signed s m u = sgn s (m * 2 ^ u) := by
  unfold Ieee.signed sgn
  rw [Nat.shiftLeft_eq]
theorem order_num {x y : Nat} (hx : rg x < 9218868437227405312) (hy : rg y < 9218868437227405312) : Ieee.double.order x y = some (compare (sv x) (sv y)) := by
  obtain ⟨m, a, h1, h2⟩ := read_num hx
  obtain ⟨n, b, h3, h4⟩ := read_num hy
  unfold Ieee.Format.order
  rw [h2, h4]
  show some (compare (Ieee.signed (ng x) m ((Ieee.double.leastPlace + (a : Int)) - min (Ieee.double.leastPlace + (a : Int)) (Ieee.double.leastPlace + (b : Int))).toNat) (Ieee.signed (ng y) n ((Ieee.double.leastPlace + (b : Int)) - min (Ieee.double.leastPlace + (a : Int)) (Ieee.double.leastPlace + (b : Int))).toNat)) = _
  rw [show ((Ieee.double.leastPlace + (a : Int)) - min (Ieee.double.leastPlace + (a : Int)) (Ieee.double.leastPlace + (b : Int))).toNat = a - min a b from by omega, show ((Ieee.double.leastPlace + (b : Int)) - min (Ieee.double.leastPlace + (a : Int)) (Ieee.double.leastPlace + (b : Int))).toNat = b - min a b from by omega]
  rw [signed_eq, signed_eq, ← cmp_mul (c := 2 ^ min a b) (Nat.two_pow_pos _), ← sgn_mul, ← sgn_mul, Nat.mul_assoc, Nat.mul_assoc, ← Nat.pow_add, ← Nat.pow_add, Nat.sub_add_cancel (Nat.min_le_left a b), Nat.sub_add_cancel (Nat.min_le_right a b), ← h1, ← h3, cmp_mg]
  rfl
theorem order_some {x y : Nat} (hx : rg x ≤ 9218868437227405312) (hy : rg y ≤ 9218868437227405312) : Ieee.double.order x y = some (compare (sv x) (sv y)) := by
  rcases Nat.lt_or_ge (rg x) 9218868437227405312 with h1 | h1
  · rcases Nat.lt_or_ge (rg y) 9218868437227405312 with h2 | h2
    · exact order_num h1 h2
    · obtain ⟨m, a, h3, h4⟩ := read_num h1
      have h5 : Ieee.double.read y = .infinity (ng y) := by rw [read_eq, if_neg (by omega), if_neg (by omega), if_pos (by omega)]
      unfold Ieee.Format.order
      rw [h4, h5]
      show some (if ng y then Ordering.gt else .lt) = _
      unfold sv sgn
      cases hn : ng y
      · rw [Int.compare_eq_lt.2 (by simp only [Bool.false_eq_true, if_false]; split <;> omega)]; rfl
      · rw [Int.compare_eq_gt.2 (by simp only [if_true]; split <;> omega)]; rfl
  · have h5 : Ieee.double.read x = .infinity (ng x) := by rw [read_eq, if_neg (by omega), if_neg (by omega), if_pos (by omega)]
    rcases Nat.lt_or_ge (rg y) 9218868437227405312 with h2 | h2
    · obtain ⟨m, a, h3, h4⟩ := read_num h2
      unfold Ieee.Format.order
      rw [h4, h5]
      show some (if ng x then Ordering.lt else .gt) = _
      unfold sv sgn
      cases hn : ng x
      · rw [Int.compare_eq_gt.2 (by simp only [Bool.false_eq_true, if_false]; split <;> omega)]; rfl
      · rw [Int.compare_eq_lt.2 (by simp only [if_true]; split <;> omega)]; rfl
    · have h6 : Ieee.double.read y = .infinity (ng y) := by rw [read_eq, if_neg (by omega), if_neg (by omega), if_pos (by omega)]
      unfold Ieee.Format.order
      rw [h6, h5]
      have e1 : rg x = 9218868437227405312 := by omega
      have e2 : rg y = 9218868437227405312 := by omega
      unfold sv
      rw [e1, e2]
      cases ng x <;> cases ng y <;> rfl
theorem order_nan {x y : Nat} (h : 9218868437227405312 < rg x ∨ 9218868437227405312 < rg y) : Ieee.double.order x y = none := by
  have key : ∀ z, 9218868437227405312 < rg z → ∃ f, Ieee.double.read z = .nan (ng z) f := fun z hz => ⟨_, by rw [read_eq, if_neg (by omega), if_neg (by omega), if_neg (by omega)]⟩
  unfold Ieee.Format.order
  rcases h with h | h
  · obtain ⟨f, hf⟩ := key x h
    rw [hf]
    cases Ieee.double.read y <;> rfl
  · obtain ⟨f, hf⟩ := key y h
    rw [hf]
    cases Ieee.double.read x <;> rfl
end Go.Proofs.Ytlodbaikbgbhjaa
