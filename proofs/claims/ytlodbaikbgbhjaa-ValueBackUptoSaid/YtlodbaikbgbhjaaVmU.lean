/- Vm, part U: what a reader of bytes answers: plain functions. -/
import Derived.Test.YtlodbaikbgbhjaaVmT
set_option linter.unusedVariables false
set_option linter.unusedSimpArgs false
namespace Go.Vm
open Go Go.RowKit Go.IntWalk

theorem vcall_id {Rs : Spec} {by_ : List Bool} {as : List AV} {σ : St} {Q : AV → St → Prop} (h : VCall Rs by_ as σ Q) : VCall Rs by_ as σ Q := h
/-- What a reader has: the bytes that are left, its first error (0: none). -/
abbrev R := List Int × Int
def r0 (xs : List Int) : R := (xs, 0)
/-- a reader's bytes as a slice -/
def rp (r : R) : PV := if r.2 = 0 then bsl r.1 else nilS
def okR (r : R) : Prop := okB r.1 ∧ r.1.length ≤ 1099511627776 ∧ (r.2 ≠ 0 → r.1 = [])
theorem rp_ok {xs : List Int} : rp (xs, 0) = bsl xs := rfl
theorem rp_bad {r : R} (h : r.2 ≠ 0) : rp r = nilS := by unfold rp; rw [if_neg h]
theorem asB_rp {r : R} (h : okR r) : asB (rp r) = some r.1 := by
  unfold rp
  split
  · exact asB_sl _
  · rename_i e
    rw [h.2.2 e]
    rfl
theorem okR_0 {xs : List Int} (h : okB xs) (h1 : xs.length ≤ 1099511627776) : okR (r0 xs) := ⟨h, h1, fun e => absurd rfl e⟩
theorem okR_bad (e : Int) : okR ([], e) := ⟨by simp [okB], by simp, fun _ => rfl⟩
theorem okB_drop {xs : List Int} (h : okB xs) (n : Nat) : okB (xs.drop n) := fun x hx => h x (List.mem_of_mem_drop hx)
theorem okB_take {xs : List Int} (h : okB xs) (n : Nat) : okB (xs.take n) := fun x hx => h x (List.mem_of_mem_take hx)
theorem okB_append {xs ys : List Int} (h : okB xs) (k : okB ys) : okB (xs ++ ys) := fun x hx => by rcases List.mem_append.1 hx with q | q; exact h x q; exact k x q
def rFail (e : Int) (r : R) : R := if r.2 = 0 ∧ e ≠ 0 then ([], e) else r
theorem okR_fail {e : Int} {r : R} (h : okR r) : okR (rFail e r) := by unfold rFail; split; exact okR_bad e; exact h
def rTake (n : Nat) (r : R) : Nat × R := if r.2 = 0 then (if r.1.length < n then (0, ([], 4)) else (bev (r.1.take n), (r.1.drop n, 0))) else (0, r)
theorem okR_take {n : Nat} {r : R} (h : okR r) : okR (rTake n r).2 := by
  unfold rTake
  split
  · split
    · exact okR_bad 4
    · exact ⟨okB_drop h.1 n, by have := h.2.1; simp; omega, fun e => absurd rfl e⟩
  · exact h
theorem rTake_lt {n : Nat} {r : R} (h : okR r) : (rTake n r).1 < 256 ^ n := by
  have h0 : 0 < 256 ^ n := Nat.pow_pos (by omega)
  unfold rTake
  split
  · split
    · exact h0
    · rename_i q
      have := bev_lt (okB_take h.1 n)
      rwa [List.length_take, Nat.min_eq_left (by omega)] at this
  · exact h0
theorem rTake_bad {n : Nat} {r : R} (h : r.2 ≠ 0) : rTake n r = (0, r) := by unfold rTake; rw [if_neg h]
theorem rTake_short {n : Nat} {xs : List Int} (h : xs.length < n) : rTake n (xs, 0) = (0, ([], 4)) := by unfold rTake; rw [if_pos rfl, if_pos h]
theorem rTake_ok {n : Nat} {xs : List Int} (h : n ≤ xs.length) : rTake n (xs, 0) = (bev (xs.take n), (xs.drop n, 0)) := by unfold rTake; rw [if_pos rfl, if_neg (by show ¬ xs.length < n; omega)]
theorem rTake_append {ys : List Int} (xs : List Int) : rTake xs.length (xs ++ ys, 0) = (bev xs, (ys, 0)) := by rw [rTake_ok (by simp)]; simp
/-- a number up to another one -/
def rNum2 (hi : Int) (c : Nat) (q : Nat × R) : Int × R :=
  if q.2.2 = 0 then (if q.1 ≤ 9223372036854775807 ∧ 240 ≤ q.1 ∧ byt q.1 = c - 239 then (if (q.1 : Int) > hi then (0, ([], 5)) else ((q.1 : Int), q.2)) else (0, ([], 3))) else (0, q.2)
def rNum1 (hi : Int) (q : Nat × R) : Int × R :=
  if q.2.2 = 0 then (if q.1 < 240 then (if (q.1 : Int) > hi then (0, ([], 5)) else ((q.1 : Int), q.2)) else if q.1 > 247 then (0, ([], 3)) else rNum2 hi q.1 (rTake (q.1 - 239) q.2)) else (0, q.2)
def rNum (hi : Int) (r : R) : Int × R := rNum1 hi (rTake 1 r)
theorem okR_num2 {hi : Int} {c : Nat} {q : Nat × R} (h : okR q.2) : okR (rNum2 hi c q).2 := by
  unfold rNum2
  split
  · split
    · split
      · exact okR_bad _
      · exact h
    · exact okR_bad _
  · exact h
theorem okR_num {hi : Int} {r : R} (h : okR r) : okR (rNum hi r).2 := by
  have h1 := okR_take (n := 1) h
  unfold rNum
  generalize rTake 1 r = q at h1
  unfold rNum1
  split
  · split
    · split
      · exact okR_bad _
      · exact h1
    · split
      · exact okR_bad _
      · exact okR_num2 (okR_take h1)
  · exact h1
theorem rNum_range {hi : Int} {r : R} (h : okR r) : 0 ≤ (rNum hi r).1 ∧ (rNum hi r).1 ≤ 9223372036854775807 ∧ ((rNum hi r).2.2 = 0 → (rNum hi r).1 ≤ hi) ∧ ((rNum hi r).2.2 ≠ 0 → (rNum hi r).1 = 0) := by
  have h1 := rTake_lt (n := 1) h
  unfold rNum
  generalize rTake 1 r = q at h1
  unfold rNum1
  split
  · split
    · split
      · exact ⟨by simp, by simp, fun e => (by simp at e), fun _ => rfl⟩
      · rename_i e _ _
        exact ⟨by simp only; omega, by simp only; omega, fun _ => (by simp only; omega), fun e' => absurd e e'⟩
    · split
      · exact ⟨by simp, by simp, fun e => (by simp at e), fun _ => rfl⟩
      · generalize rTake (q.1 - 239) q.2 = p
        unfold rNum2
        split
        · split
          · split
            · exact ⟨by simp, by simp, fun e => (by simp at e), fun _ => rfl⟩
            · rename_i e _ _
              exact ⟨by simp only; omega, by simp only; omega, fun _ => (by simp only; omega), fun e' => absurd e e'⟩
          · exact ⟨by simp, by simp, fun e => (by simp at e), fun _ => rfl⟩
        · rename_i e
          exact ⟨by simp, by simp, fun e' => absurd e' e, fun _ => rfl⟩
  · rename_i e
    exact ⟨by simp, by simp, fun e' => absurd e' e, fun _ => rfl⟩
theorem rNum_bad {hi : Int} {r : R} (h : r.2 ≠ 0) : rNum hi r = (0, r) := by
  unfold rNum rNum1
  rw [rTake_bad h]
  simp only
  rw [if_neg h]
/-- a number that was written is read -/
theorem rNum_back {n : Nat} (ys : List Int) {hi : Int} (hn : n ≤ 9223372036854775807) (hh : (n : Int) ≤ hi) : rNum hi (numB n ++ ys, 0) = ((n : Int), (ys, 0)) := by
  unfold numB
  split
  · rename_i h
    have e : rTake 1 ([(n : Int)] ++ ys, 0) = (n, (ys, 0)) := by
      have := rTake_append (ys := ys) [(n : Int)]
      simpa [bev] using this
    unfold rNum rNum1
    rw [e]
    simp only [if_true]
    rw [if_pos h, if_neg (by omega)]
  · rename_i h
    have hb := byt_le 8 n (by omega)
    have hp : byt n ≠ 0 := by rw [byt_pos (by omega)]; omega
    have e : rTake 1 ((((239 + byt n : Nat) : Int) :: be (byt n) n) ++ ys, 0) = (239 + byt n, (be (byt n) n ++ ys, 0)) := by
      have := rTake_append (ys := be (byt n) n ++ ys) [((239 + byt n : Nat) : Int)]
      rw [show bev [((239 + byt n : Nat) : Int)] = 239 + byt n from by simp only [bev, List.foldl_cons, List.foldl_nil]; omega] at this
      exact this
    have e2 : rTake (239 + byt n - 239) (be (byt n) n ++ ys, 0) = (n, (ys, 0)) := by
      have := rTake_append (ys := ys) (be (byt n) n)
      rw [be_length, bev_be _ _ (byt_lt _ _ (Nat.le_refl _))] at this
      rw [Nat.add_sub_cancel_left]
      exact this
    unfold rNum rNum1 rNum2
    rw [e]
    simp only [if_true]
    rw [if_neg (by omega), if_neg (by omega), e2]
    simp only [if_true]
    rw [if_pos ⟨hn, by omega, by omega⟩, if_neg (by omega)]
/-- what is read are a number's bytes -/
theorem rNum_inv {hi n : Int} {xs ys : List Int} (ho : okB xs) (h : rNum hi (xs, 0) = (n, (ys, 0))) : 0 ≤ n ∧ n ≤ hi ∧ n ≤ 9223372036854775807 ∧ xs = numB n.toNat ++ ys := by
  unfold rNum rNum1 rNum2 at h
  by_cases h1 : xs.length < 1
  · rw [rTake_short h1] at h
    simp at h
  obtain ⟨c, zs, rfl⟩ : ∃ c zs, xs = c :: zs := by
    cases xs with
    | nil => simp at h1
    | cons c zs => exact ⟨c, zs, rfl⟩
  have hc := ho c (by simp)
  have e : rTake 1 (c :: zs, 0) = (c.toNat, (zs, 0)) := by rw [rTake_ok (by simp)]; simp [bev]
  rw [e] at h
  simp only [if_true] at h
  split at h
  · rename_i h2
    split at h
    · simp at h
    · rename_i h3
      simp only [Prod.mk.injEq, and_true] at h
      obtain ⟨rfl, rfl⟩ := h
      refine ⟨by omega, by omega, by omega, ?_⟩
      rw [Int.toNat_natCast, numB, if_pos h2]
      simp
      omega
  · rename_i h2
    split at h
    · simp at h
    · rename_i h3
      obtain ⟨k, hk⟩ : ∃ k, k = c.toNat - 239 := ⟨_, rfl⟩
      rw [← hk] at h
      by_cases h4 : zs.length < k
      · rw [rTake_short h4] at h
        simp at h
      · have hz : okB zs := fun x hx => ho x (by simp [hx])
        rw [rTake_ok (by omega)] at h
        simp only [if_true] at h
        split at h
        · rename_i h5
          split at h
          · simp at h
          · rename_i h6
            simp only [Prod.mk.injEq, and_true] at h
            obtain ⟨rfl, rfl⟩ := h
            refine ⟨by omega, by omega, by omega, ?_⟩
            rw [Int.toNat_natCast, numB, if_neg (by omega), h5.2.2]
            have : be k (bev (zs.take k)) = zs.take k := by
              have := be_bev (okB_take hz k)
              rwa [List.length_take, Nat.min_eq_left (by omega)] at this
            rw [this, List.cons_append, List.take_append_drop]
            congr 1
            omega
        · simp at h
/-- a whole number -/
def utw (x : Nat) : Int := IntKind.i64.wrap (bitsI .xor .u64 x 9223372036854775808)
def rInt (r : R) : Int × R := if (rTake 8 r).2.2 = 0 then (utw (rTake 8 r).1, (rTake 8 r).2) else (0, (rTake 8 r).2)
theorem okR_int {r : R} (h : okR r) : okR (rInt r).2 := by unfold rInt; split <;> exact okR_take h
/-- a text -/
def rText (hi : Int) (r : R) : ByteArray × R :=
  if (rNum hi r).2.2 = 0 then
    if (rNum hi r).2.1.length < (rNum hi r).1.toNat then (⟨#[]⟩, ([], 4))
    else (strOf ((rNum hi r).2.1.take (rNum hi r).1.toNat), ((rNum hi r).2.1.drop (rNum hi r).1.toNat, 0))
  else (⟨#[]⟩, (rNum hi r).2)
theorem okR_text {hi : Int} {r : R} (h : okR r) : okR (rText hi r).2 := by
  have h1 := okR_num (hi := hi) h
  unfold rText
  split
  · split
    · exact okR_bad 4
    · exact ⟨okB_drop h1.1 _, by have := h1.2.1; simp; omega, fun e => absurd rfl e⟩
  · exact h1
theorem rText_bad {hi : Int} {r : R} (h : r.2 ≠ 0) : rText hi r = (⟨#[]⟩, r) := by
  unfold rText
  rw [rNum_bad h]
  simp only
  rw [if_neg h]
theorem strOf_size (xs : List Int) : (strOf xs).size = xs.length := by
  show (strOf xs).data.size = _
  simp [strOf]
theorem rText_size {hi : Int} {r : R} (h : okR r) : (rText hi r).1.size ≤ 1099511627776 ∧ ((rText hi r).2.2 = 0 → ((rText hi r).1.size : Int) ≤ hi) := by
  have h1 := rNum_range (hi := hi) h
  have h2 := okR_num (hi := hi) h
  unfold rText
  split
  · rename_i e
    split
    · exact ⟨Nat.zero_le _, fun e => by cases e⟩
    · rename_i q
      have := h2.2.1
      have := h1.2.2.1 e
      simp only [strOf_size, List.length_take]
      omega
  · rename_i e
    exact ⟨Nat.zero_le _, fun e' => absurd e' e⟩
theorem rText_back {s : ByteArray} (ys : List Int) {hi : Int} (hs : s.size ≤ 9223372036854775807) (hh : (s.size : Int) ≤ hi) : rText hi (textB s ++ ys, 0) = (s, (ys, 0)) := by
  unfold rText textB
  rw [List.append_assoc, rNum_back _ hs hh]
  simp only [if_true, Int.toNat_natCast]
  rw [if_neg (by simp [bytesOf_length]), ← bytesOf_length s, List.take_left, List.drop_left, strOf_bytesOf]
theorem rText_inv {hi : Int} {s : ByteArray} {xs ys : List Int} (ho : okB xs) (h : rText hi (xs, 0) = (s, (ys, 0))) : (s.size : Int) ≤ hi ∧ xs = textB s ++ ys := by
  unfold rText at h
  split at h
  · rename_i e
    obtain ⟨n, zs, hz⟩ : ∃ n zs, rNum hi (xs, 0) = (n, (zs, 0)) := ⟨(rNum hi (xs, 0)).1, (rNum hi (xs, 0)).2.1, by
      generalize rNum hi (xs, 0) = q at e
      obtain ⟨a, b, c⟩ := q
      simp only at e
      rw [e]⟩
    obtain ⟨h1, h2, h3, h4⟩ := rNum_inv ho hz
    rw [hz] at h
    simp only at h
    split at h
    · simp at h
    · rename_i q
      simp only [Prod.mk.injEq, and_true] at h
      obtain ⟨rfl, rfl⟩ := h
      have hzo : okB zs := fun x hx => ho x (by rw [h4]; simp [hx])
      have e1 : (strOf (zs.take n.toNat)).size = n.toNat := by rw [strOf_size, List.length_take]; omega
      refine ⟨by omega, ?_⟩
      rw [textB, e1, bytesOf_strOf (okB_take hzo _), List.append_assoc, List.take_append_drop]
      exact h4
  · rename_i e
    simp only [Prod.mk.injEq] at h
    rw [h.2] at e
    exact absurd rfl e
/-- a flag -/
def rFlag (r : R) : Bool × R :=
  if (rTake 1 r).2.2 = 0 then (if (rTake 1 r).1 > 1 then (false, ([], 3)) else (decide ((rTake 1 r).1 = 1), (rTake 1 r).2)) else (false, (rTake 1 r).2)
theorem okR_flag {r : R} (h : okR r) : okR (rFlag r).2 := by
  unfold rFlag
  split
  · split
    · exact okR_bad 3
    · exact okR_take h
  · exact okR_take h
/-- its first error, or that bytes are left -/
def rEnd (r : R) : Int := if r.1.length > 0 ∧ r.2 = 0 then 3 else r.2
theorem toNat_ofInt64 (n : Int) (h : 0 ≤ n ∧ n < 18446744073709551616) : (BitVec.ofInt IntKind.u64.bits n).toNat = n.toNat := by
  rw [BitVec.toNat_ofInt]
  show (n % ((2 ^ 64 : Nat) : Int)).toNat = n.toNat
  rw [Int.emod_eq_of_lt h.1 (by omega)]
theorem utw_tw (m : Int) (h : -9223372036854775808 ≤ m ∧ m ≤ 9223372036854775807) : utw (tw m) = m := by
  have hr := u64_wrap_range m
  obtain ⟨a, ha⟩ : ∃ a, a = BitVec.ofInt IntKind.u64.bits (IntKind.u64.wrap m) := ⟨_, rfl⟩
  obtain ⟨c, hc⟩ : ∃ c, c = BitVec.ofInt IntKind.u64.bits 9223372036854775808 := ⟨_, rfl⟩
  have w : ∀ b : BitVec IntKind.u64.bits, IntKind.u64.wrap (b.toNat : Int) = (b.toNat : Int) := fun b => u64_nat _ (by have := b.isLt; exact this)
  have e1 : tw m = (a ^^^ c).toNat := by
    unfold tw bitsI
    simp only
    rw [← ha, ← hc, w]
    simp
  have e2 : BitVec.ofInt IntKind.u64.bits ((a ^^^ c).toNat : Int) = a ^^^ c := by
    apply BitVec.eq_of_toNat_eq
    rw [toNat_ofInt64 _ ⟨Int.natCast_nonneg _, by have := (a ^^^ c).isLt; have h2 : 2 ^ IntKind.u64.bits = 18446744073709551616 := rfl; omega⟩]
    simp
  unfold utw bitsI
  simp only
  rw [e1, e2, ← hc, BitVec.xor_assoc, BitVec.xor_self, BitVec.xor_zero, w, ha, toNat_ofInt64 _ hr, Int.toNat_of_nonneg hr.1]
  have e : IntKind.u64.wrap m = m % 18446744073709551616 := by simp [IntKind.wrap, IntKind.bits, IntKind.signed]
  rw [e, IntKind.wrap_i64]
  omega
theorem rTake_back {k x : Nat} (h : x < 256 ^ k) (ys : List Int) : rTake k (be k x ++ ys, 0) = (x, (ys, 0)) := by
  have := rTake_append (ys := ys) (be k x)
  rwa [be_length, bev_be _ _ h] at this
theorem rInt_back {m : Int} (h : -9223372036854775808 ≤ m ∧ m ≤ 9223372036854775807) (ys : List Int) : rInt (be 8 (tw m) ++ ys, 0) = (m, (ys, 0)) := by
  unfold rInt
  rw [rTake_back (by have := tw_lt m; exact this)]
  simp only [if_true, utw_tw m h]
theorem rFlag_back (b : Bool) (ys : List Int) : rFlag (flagB b :: ys, 0) = (b, (ys, 0)) := by
  unfold rFlag
  have := rTake_append (ys := ys) [flagB b]
  simp only [List.length_cons, List.length_nil, Nat.zero_add, List.cons_append, List.nil_append] at this
  rw [this]
  cases b <;> rfl
end Go.Vm
