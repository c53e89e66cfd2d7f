/- The order of values is one: plain laws. -/
import Derived.Test.YtlodbaikbgbhjaaValueO
import Derived.Test.YtlodbaikbgbhjaaValueC
set_option linter.unusedVariables false
set_option linter.unusedSimpArgs false
set_option maxRecDepth 20000
namespace Go.Proofs.Ytlodbaikbgbhjaa
open Go Go.Vm

def Q3 (x y z : Int) : Prop := (x ≤ 0 → y ≤ 0 → z ≤ 0) ∧ (x ≤ 0 → y < 0 → z < 0) ∧ (x < 0 → y ≤ 0 → z < 0) ∧ (0 ≤ x → 0 ≤ y → 0 ≤ z) ∧ (0 ≤ x → 0 < y → 0 < z) ∧ (0 < x → 0 ≤ y → 0 < z)
def lx (x y : Int) : Int := if x = 0 then y else x
theorem Q3.lx {x y z u v w : Int} (h : Q3 x y z) (k : Q3 u v w) : Q3 (lx x u) (lx y v) (lx z w) := by
  unfold Go.Proofs.Ytlodbaikbgbhjaa.lx
  unfold Q3 at *
  split <;> split <;> split <;> omega
theorem orI_lx (x : Int) (r : List Int) : orI (x :: r) = lx x (orI r) := rfl
theorem cmpI_Q (a b c : Int) : Q3 (cmpI a b) (cmpI b c) (cmpI a c) := by
  unfold Q3 cmpI
  omega
theorem cmpI_anti (a b : Int) : cmpI a b = - cmpI b a := by
  unfold cmpI
  omega
theorem cmpI_range (a b : Int) : -1 ≤ cmpI a b ∧ cmpI a b ≤ 1 := by
  unfold cmpI
  omega
theorem cmpI_zero (a b : Int) : cmpI a b = 0 ↔ a = b := by
  unfold cmpI
  omega
theorem cmpB_cons (a b : Int) (u v : List Int) : cmpB (a :: u) (b :: v) = lx (cmpI a b) (cmpB u v) := by
  rw [cmpB]
  unfold lx cmpI
  by_cases h1 : a < b
  · simp [h1]
  · by_cases h2 : b < a
    · simp [h1, h2]
    · simp [h1, h2]
theorem cmpB_Q : ∀ (a b c : List Int), Q3 (cmpB a b) (cmpB b c) (cmpB a c)
  | [], [], [] => by simp [cmpB, Q3]
  | [], [], _ :: _ => by simp [cmpB, Q3]
  | [], _ :: _, [] => by simp [cmpB, Q3]
  | [], y :: b, z :: c => by simp only [cmpB, Q3]; omega
  | _ :: _, [], [] => by simp [cmpB, Q3]
  | _ :: _, [], _ :: _ => by simp [cmpB, Q3]
  | x :: a, y :: b, [] => by simp only [cmpB, Q3]; omega
  | x :: a, y :: b, z :: c => by
    rw [cmpB_cons, cmpB_cons, cmpB_cons]
    exact (cmpI_Q x y z).lx (cmpB_Q a b c)
theorem lx_anti {x y u v : Int} (h : x = - y) (k : u = - v) : lx x u = - lx y v := by
  unfold lx
  split <;> split <;> omega
theorem lx_range {x y : Int} (h : -1 ≤ x ∧ x ≤ 1) (k : -1 ≤ y ∧ y ≤ 1) : -1 ≤ lx x y ∧ lx x y ≤ 1 := by
  unfold lx
  split <;> omega
theorem lx_zero {x y : Int} : lx x y = 0 ↔ x = 0 ∧ y = 0 := by
  unfold lx
  split <;> omega
theorem cmpB_anti : ∀ (a b : List Int), cmpB a b = - cmpB b a
  | [], [] => rfl
  | [], _ :: _ => rfl
  | _ :: _, [] => rfl
  | x :: a, y :: b => by rw [cmpB_cons, cmpB_cons]; exact lx_anti (cmpI_anti x y) (cmpB_anti a b)
theorem cmpB_range : ∀ (a b : List Int), -1 ≤ cmpB a b ∧ cmpB a b ≤ 1
  | [], [] => by decide
  | [], _ :: _ => by rw [cmpB]; decide
  | _ :: _, [] => by rw [cmpB]; decide
  | x :: a, y :: b => by rw [cmpB_cons]; exact lx_range (cmpI_range x y) (cmpB_range a b)
theorem cmpB_zero : ∀ (a b : List Int), cmpB a b = 0 ↔ a = b
  | [], [] => by simp [cmpB]
  | [], _ :: _ => by simp [cmpB]
  | _ :: _, [] => by simp [cmpB]
  | x :: a, y :: b => by rw [cmpB_cons, lx_zero, cmpI_zero, cmpB_zero a b]; simp
theorem ordV_lx {k i b k' i' b' : Int} {s s' : ByteArray} {l l' : List V} : ordV (.mk k i b s l) (.mk k' i' b' s' l') = lx (cmpI k k') (lx (cmpI i i') (lx (cmpI (keyI b) (keyI b')) (lx (cmpS s s') (lx (ordL l l') 0)))) := by
  rw [ordV_mk, orI_lx, orI_lx, orI_lx, orI_lx, orI_lx]; rfl
theorem ordL_cons (v w : V) (l m : List V) : ordL (v :: l) (w :: m) = lx (ordV v w) (ordL l m) := by rw [ordL]; rfl
theorem Q3_0 : Q3 0 0 0 := by unfold Q3; omega
mutual
theorem ordV_Q : ∀ (a b c : V), Q3 (ordV a b) (ordV b c) (ordV a c)
  | .mk k i b s l, .mk k' i' b' s' l', .mk k2 i2 b2 s2 l2 => by
    rw [ordV_lx, ordV_lx, ordV_lx]
    exact (cmpI_Q _ _ _).lx ((cmpI_Q _ _ _).lx ((cmpI_Q _ _ _).lx ((cmpB_Q _ _ _).lx ((ordL_Q l l' l2).lx Q3_0))))
theorem ordL_Q : ∀ (a b c : List V), Q3 (ordL a b) (ordL b c) (ordL a c)
  | [], [], [] => by simp [ordL, Q3]
  | [], [], _ :: _ => by simp [ordL, Q3]
  | [], _ :: _, [] => by simp [ordL, Q3]
  | [], y :: b, z :: c => by rw [show ordL ([] : List V) (y :: b) = -1 by rw [ordL], show ordL ([] : List V) (z :: c) = -1 by rw [ordL]]; unfold Q3; omega
  | _ :: _, [], [] => by simp [ordL, Q3]
  | _ :: _, [], _ :: _ => by simp [ordL, Q3]
  | x :: a, y :: b, [] => by rw [show ordL (y :: b) ([] : List V) = 1 by rw [ordL], show ordL (x :: a) ([] : List V) = 1 by rw [ordL]]; unfold Q3; omega
  | x :: a, y :: b, z :: c => by
    rw [ordL_cons, ordL_cons, ordL_cons]
    exact (ordV_Q x y z).lx (ordL_Q a b c)
end
mutual
theorem ordV_anti : ∀ (a b : V), ordV a b = - ordV b a
  | .mk k i b s l, .mk k' i' b' s' l' => by
    rw [ordV_lx, ordV_lx]
    exact lx_anti (cmpI_anti _ _) (lx_anti (cmpI_anti _ _) (lx_anti (cmpI_anti _ _) (lx_anti (cmpB_anti _ _) (lx_anti (ordL_anti l l') (by omega)))))
theorem ordL_anti : ∀ (a b : List V), ordL a b = - ordL b a
  | [], [] => by rw [ordL]; rfl
  | [], _ :: _ => by rw [ordL, ordL]
  | _ :: _, [] => by rw [ordL, ordL]; rfl
  | x :: a, y :: b => by rw [ordL_cons, ordL_cons]; exact lx_anti (ordV_anti x y) (ordL_anti a b)
end
mutual
theorem ordV_range : ∀ (a b : V), -1 ≤ ordV a b ∧ ordV a b ≤ 1
  | .mk k i b s l, .mk k' i' b' s' l' => by
    rw [ordV_lx]
    exact lx_range (cmpI_range _ _) (lx_range (cmpI_range _ _) (lx_range (cmpI_range _ _) (lx_range (cmpB_range _ _) (lx_range (ordL_range l l') (by omega)))))
theorem ordL_range : ∀ (a b : List V), -1 ≤ ordL a b ∧ ordL a b ≤ 1
  | [], [] => by rw [ordL]; omega
  | [], _ :: _ => by rw [ordL]; omega
  | _ :: _, [] => by rw [ordL]; omega
  | x :: a, y :: b => by rw [ordL_cons]; exact lx_range (ordV_range x y) (ordL_range a b)
end
/-! ### keys of floats -/
theorem u64_wrap {n : Nat} (h : n < 18446744073709551616) : IntKind.u64.wrap (n : Int) = n := by
  simp only [IntKind.wrap, IntKind.signed, IntKind.bits]
  simp
  omega
theorem ofInt_toNat {n : Nat} (h : n < 18446744073709551616) : (BitVec.ofInt 64 (n : Int)).toNat = n := by
  rw [BitVec.ofInt_natCast, BitVec.toNat_ofNat]
  omega
theorem and_63 {n : Nat} (h : n < 18446744073709551616) : bitsI .and .u64 (n : Int) 9223372036854775808 = if n < 9223372036854775808 then 0 else 9223372036854775808 := by
  show IntKind.u64.wrap ((BitVec.ofInt 64 (n : Int) &&& BitVec.ofInt 64 ((9223372036854775808 : Nat) : Int)).toNat : Int) = _
  rw [BitVec.toNat_and, ofInt_toNat h, ofInt_toNat (by omega)]
  by_cases hn : n < 9223372036854775808
  · have e : n &&& 9223372036854775808 = 0 := by
      apply Nat.eq_of_testBit_eq
      intro i
      rw [Nat.testBit_and, show 9223372036854775808 = 2 ^ 63 from rfl, Nat.testBit_two_pow, Nat.zero_testBit]
      by_cases hi : 63 = i
      · subst hi
        rw [Nat.testBit_lt_two_pow hn]
        rfl
      · simp [hi]
    rw [e, if_pos hn]
    rfl
  · have e : n &&& 9223372036854775808 = 9223372036854775808 := by
      apply Nat.eq_of_testBit_eq
      intro i
      rw [Nat.testBit_and, show 9223372036854775808 = 2 ^ 63 from rfl, Nat.testBit_two_pow]
      by_cases hi : 63 = i
      · subst hi
        have : n.testBit 63 = true := by
          rw [Nat.testBit_eq_decide_div_mod_eq, decide_eq_true_eq]
          omega
        rw [this]
        rfl
      · simp [hi]
    rw [e, if_neg hn]
    rfl
theorem or_63 {n : Nat} (h : n < 9223372036854775808) : bitsI .or .u64 (n : Int) 9223372036854775808 = (n : Int) + 9223372036854775808 := by
  show IntKind.u64.wrap ((BitVec.ofInt 64 (n : Int) ||| BitVec.ofInt 64 ((9223372036854775808 : Nat) : Int)).toNat : Int) = _
  rw [BitVec.toNat_or, ofInt_toNat (by omega), ofInt_toNat (by omega)]
  have := Nat.two_pow_add_eq_or_of_lt (i := 63) (b := n) h 1
  rw [Nat.or_comm, show 9223372036854775808 = 2 ^ 63 * 1 from rfl, ← this, u64_wrap (by omega)]
  omega
theorem not_63 {n : Nat} (h : n < 18446744073709551616) : bitsI .xor .u64 IntKind.u64.max (n : Int) = 18446744073709551615 - (n : Int) := by
  show IntKind.u64.wrap ((BitVec.ofInt 64 ((18446744073709551615 : Nat) : Int) ^^^ BitVec.ofInt 64 (n : Int)).toNat : Int) = _
  have e : BitVec.ofInt 64 ((18446744073709551615 : Nat) : Int) = BitVec.allOnes 64 := by decide
  rw [e, BitVec.allOnes_xor, BitVec.toNat_not, ofInt_toNat h, u64_wrap (by omega)]
  omega
theorem canonI_max : canonI 9223372036854775807 = 9221120237041090560 := by decide +kernel
theorem canonI_idem (x : Int) : canonI (canonI x) = canonI x := by
  by_cases h : kindI x = 1
  · have : canonI x = 9221120237041090560 := by unfold canonI; rw [if_pos h]
    rw [this]
    decide +kernel
  · have : canonI x = x := by unfold canonI; rw [if_neg h]
    rw [this, this]
theorem keyI_inj {x y : Int} (hx : 0 ≤ x ∧ x ≤ 18446744073709551615) (hy : 0 ≤ y ∧ y ≤ 18446744073709551615) (cx : canonI x = x) (cy : canonI y = y) (h : keyI x = keyI y) : x = y := by
  obtain ⟨n, rfl⟩ : ∃ n : Nat, x = n := ⟨x.toNat, by omega⟩
  obtain ⟨m, rfl⟩ : ∃ m : Nat, y = m := ⟨y.toNat, by omega⟩
  have key : ∀ n : Nat, n ≤ 18446744073709551615 → canonI (n : Int) = n → (n : Int) ≠ 9223372036854775807 ∧ keyI (n : Int) = if (n : Int) = 9221120237041090560 then 18446744073709551615 else if n < 9223372036854775808 then (n : Int) + 9223372036854775808 else 18446744073709551615 - (n : Int) := by
    intro n hn hc
    refine ⟨fun e => ?_, ?_⟩
    · rw [e, canonI_max] at hc; omega
    · unfold keyI
      rw [hc, and_63 (by omega)]
      by_cases h1 : (n : Int) = 9221120237041090560
      · rw [if_pos h1, if_pos h1]
      · rw [if_neg h1, if_neg h1]
        by_cases h2 : n < 9223372036854775808
        · rw [if_pos h2, if_pos h2, if_neg (by omega), or_63 h2]
        · rw [if_neg h2, if_neg h2, if_pos (by omega), not_63 (by omega)]
  obtain ⟨a1, a2⟩ := key n (by omega) cx
  obtain ⟨b1, b2⟩ := key m (by omega) cy
  rw [a2, b2] at h
  split at h <;> split at h <;> (try split at h) <;> (try split at h) <;> omega
/-! ### the order and sameness -/
theorem strEq_dec (s t : ByteArray) : strEq s t = true ↔ s = t := by
  rw [strEq_bytes, decide_eq_true_eq]
  exact ⟨bytesOf_inj, fun h => by rw [h]⟩
theorem sizeL_head {v : V} {l : List V} {d : Nat} {n : Int} (h : 0 ≤ sizeL (v :: l) d n) : 0 ≤ sizeV v d ∧ 0 ≤ sizeL l d (n + sizeV v d) := by
  rw [sizeL] at h
  split at h
  · omega
  · exact ⟨by omega, h⟩
theorem sizeV_parts {k i b : Int} {s : ByteArray} {l : List V} {d : Nat} (h : 0 ≤ sizeV (.mk k i b s l) d) : canonI b = b ∧ (l = [] ∨ ∃ d' n, 0 ≤ sizeL l d' n) := by
  rw [sizeV_mk] at h
  split at h
  · omega
  · rename_i hn
    simp only [not_or, Decidable.not_not] at hn
    refine ⟨hn.2.2.2, ?_⟩
    by_cases q : k = 4
    · rw [if_neg (by omega), if_neg (by omega), if_pos q] at h
      split at h
      · omega
      · exact .inr ⟨_, _, h⟩
    · left
      have h1 : onlyB k i b s l.length = true := by simpa using hn.1
      simp only [onlyB, Bool.and_eq_true, decide_eq_true_eq] at h1
      exact List.eq_nil_of_length_eq_zero (by omega)
mutual
theorem ordV_same : ∀ (a b : V) (d e : Nat), okV a → okV b → 0 ≤ sizeV a d → 0 ≤ sizeV b e → (ordV a b = 0 ↔ sameV a b = true)
  | .mk k i b s l, .mk k' i' b' s' l', d, e, ok, ok', h, h' => by
    obtain ⟨c1, c2⟩ := sizeV_parts h
    obtain ⟨c1', c2'⟩ := sizeV_parts h'
    rw [okV_mk] at ok ok'
    have hl : ordL l l' = 0 ↔ l.length = l'.length ∧ sameL l l' = true := by
      rcases c2 with rfl | ⟨d1, n1, q1⟩
      · cases l' with
        | nil => simp [ordL, sameL]
        | cons => simp [ordL, sameL]
      · rcases c2' with rfl | ⟨d2, n2, q2⟩
        · cases l with
          | nil => simp [ordL, sameL]
          | cons => simp [ordL, sameL]
        · exact ordL_same l l' d1 d2 n1 n2 ok.2.2.2.2.2 ok'.2.2.2.2.2 q1 q2
    rw [ordV_lx, lx_zero, lx_zero, lx_zero, lx_zero, lx_zero, hl, cmpI_zero, cmpI_zero, cmpI_zero, sameV_mk]
    have hk : keyI b = keyI b' ↔ b = b' := ⟨keyI_inj ok.2.2.1 ok'.2.2.1 c1 c1', fun h => by rw [h]⟩
    have hs : cmpS s s' = 0 ↔ strEq s s' = true := by
      unfold cmpS
      rw [cmpB_zero, strEq_bytes, decide_eq_true_eq]
    rw [hk, hs]
    simp only [Bool.and_eq_true, beq_iff_eq]
    constructor
    · rintro ⟨a1, a2, a3, a4, ⟨a5, a6⟩, _⟩
      exact ⟨⟨⟨⟨⟨a1, a2⟩, a3⟩, a4⟩, a5⟩, a6⟩
    · rintro ⟨⟨⟨⟨⟨a1, a2⟩, a3⟩, a4⟩, a5⟩, a6⟩
      exact ⟨a1, a2, a3, a4, ⟨a5, a6⟩, trivial⟩
theorem ordL_same : ∀ (l m : List V) (d e : Nat) (n n' : Int), okL l → okL m → 0 ≤ sizeL l d n → 0 ≤ sizeL m e n' → (ordL l m = 0 ↔ l.length = m.length ∧ sameL l m = true)
  | [], [], _, _, _, _, _, _, _, _ => by simp [ordL, sameL]
  | [], _ :: _, _, _, _, _, _, _, _, _ => by simp [ordL, sameL]
  | _ :: _, [], _, _, _, _, _, _, _, _ => by simp [ordL, sameL]
  | v :: l, w :: m, d, e, n, n', ok, ok', h, h' => by
    obtain ⟨q1, q2⟩ := sizeL_head h
    obtain ⟨q3, q4⟩ := sizeL_head h'
    rw [okL] at ok ok'
    rw [ordL_cons, lx_zero, ordV_same v w d e ok.1 ok'.1 q1 q3, ordL_same l m d e _ _ ok.2 ok'.2 q2 q4, sameL]
    simp only [Bool.and_eq_true, List.length_cons, Nat.add_right_cancel_iff]
    constructor
    · rintro ⟨a, b, c⟩; exact ⟨b, a, c⟩
    · rintro ⟨b, a, c⟩; exact ⟨a, b, c⟩
end
end Go.Proofs.Ytlodbaikbgbhjaa
