/- Reading a value: as plain functions; what is read of what was written, and the other way. -/
import Derived.Test.YtlodbaikbgbhjaaValueP
set_option linter.unusedVariables false
set_option linter.unusedSimpArgs false
set_option maxRecDepth 20000
namespace Go.Proofs.Ytlodbaikbgbhjaa
open Go Go.Vm

theorem xor_low {y : Nat} (h : y < 9223372036854775808) : y ^^^ 9223372036854775808 = y + 9223372036854775808 := by
  have e : (9223372036854775808 : Nat) = 2 ^ 63 := rfl
  have h1 : (y ^^^ 9223372036854775808) / 2 ^ 63 = 1 := by
    rw [e, Nat.xor_div_two_pow, Nat.div_eq_of_lt (by omega), Nat.div_self (by omega), Nat.zero_xor]
  have h2 : (y ^^^ 9223372036854775808) % 2 ^ 63 = y := by
    rw [e, Nat.xor_mod_two_pow, Nat.mod_self, Nat.xor_zero, Nat.mod_eq_of_lt (by omega)]
  have h3 := Nat.div_add_mod (y ^^^ 9223372036854775808) (2 ^ 63)
  rw [h1, h2] at h3
  omega
theorem xor_high {x : Nat} (h : 9223372036854775808 ≤ x) (h2 : x < 18446744073709551616) : x ^^^ 9223372036854775808 = x - 9223372036854775808 := by
  obtain ⟨y, rfl⟩ : ∃ y, x = y + 9223372036854775808 := ⟨x - 9223372036854775808, by omega⟩
  rw [← xor_low (by omega), Nat.xor_assoc, Nat.xor_self, Nat.xor_zero, xor_low (by omega)]
  omega
theorem tw_val {m : Int} (h : -9223372036854775808 ≤ m ∧ m ≤ 9223372036854775807) : (tw m : Int) = m + 9223372036854775808 := by
  have hr := u64_wrap_range m
  have e : IntKind.u64.wrap m = m % 18446744073709551616 := by simp [IntKind.wrap, IntKind.bits, IntKind.signed]
  have e1 : tw m = (IntKind.u64.wrap m).toNat ^^^ 9223372036854775808 := by
    unfold tw bitsI
    simp only
    rw [BitVec.toNat_xor, toNat_ofInt64 _ hr, toNat_ofInt64 _ (by omega)]
    obtain ⟨x, hx⟩ : ∃ x : Nat, (IntKind.u64.wrap m).toNat = x := ⟨_, rfl⟩
    rw [hx]
    show (IntKind.u64.wrap ((x ^^^ 9223372036854775808 : Nat) : Int)).toNat = _
    have hb : x ^^^ 9223372036854775808 < 18446744073709551616 := by
      by_cases q : x < 9223372036854775808
      · rw [xor_low q]; omega
      · rw [xor_high (by omega) (by omega)]; omega
    rw [u64_nat _ hb, Int.toNat_natCast]
  rw [e1, e]
  rw [e] at hr
  by_cases q : (m % 18446744073709551616).toNat < 9223372036854775808
  · rw [xor_low q]; omega
  · rw [xor_high (by omega) (by omega)]; omega
theorem tw_utw {x : Nat} (h : x < 18446744073709551616) : tw (utw x) = x := by
  have h1 := tw_val (m := (x : Int) - 9223372036854775808) (by omega)
  have h2 : tw ((x : Int) - 9223372036854775808) = x := by omega
  have h3 := utw_tw ((x : Int) - 9223372036854775808) (by omega)
  rw [h2] at h3
  rw [h3, h2]
theorem utw_range {x : Nat} (h : x < 18446744073709551616) : -9223372036854775808 ≤ utw x ∧ utw x ≤ 9223372036854775807 := by
  have h1 := tw_val (m := (x : Int) - 9223372036854775808) (by omega)
  have h2 : tw ((x : Int) - 9223372036854775808) = x := by omega
  have h3 := utw_tw ((x : Int) - 9223372036854775808) (by omega)
  rw [h2] at h3
  omega
theorem rTake_inv {k n : Nat} {xs ys : List Int} (ho : okB xs) (h : rTake k (xs, 0) = (n, (ys, 0))) : xs = be k n ++ ys ∧ n < 256 ^ k := by
  unfold rTake at h
  rw [if_pos rfl] at h
  split at h
  · simp at h
  · rename_i q
    simp only [Prod.mk.injEq, and_true] at h
    obtain ⟨rfl, rfl⟩ := h
    have hl : (xs.take k).length = k := by rw [List.length_take]; simp only at q; omega
    have h1 := be_bev (okB_take ho k)
    rw [hl] at h1
    have h2 := bev_lt (okB_take ho k)
    rw [hl] at h2
    exact ⟨by rw [h1, List.take_append_drop], h2⟩
theorem rInt_inv {m : Int} {xs ys : List Int} (ho : okB xs) (h : rInt (xs, 0) = (m, (ys, 0))) : xs = be 8 (tw m) ++ ys ∧ -9223372036854775808 ≤ m ∧ m ≤ 9223372036854775807 := by
  unfold rInt at h
  split at h
  · rename_i e
    have hq : rTake 8 (xs, 0) = ((rTake 8 (xs, 0)).1, (ys, 0)) := by
      simp only [Prod.mk.injEq] at h
      exact Prod.ext rfl h.2
    obtain ⟨h1, h2⟩ := rTake_inv ho hq
    simp only [Prod.mk.injEq] at h
    have h3 : (rTake 8 (xs, 0)).1 < 18446744073709551616 := h2
    have := utw_range h3
    rw [← h.1, tw_utw h3]
    exact ⟨h1, this⟩
  · rename_i e
    simp only [Prod.mk.injEq] at h
    rw [h.2] at e
    exact absurd rfl e

/-! ### reading -/
def loopR (f : R → V × R) : Nat → R → List V → List V × R
  | 0, r, acc => (acc, r)
  | n + 1, r, acc => if r.2 = 0 then loopR f n (f r).2 (acc ++ [(f r).1]) else (acc, r)
def zeroV : V := .mk 0 0 0 ⟨#[]⟩ []
def stepV (z : Bool) (f : R → V × R) (r : R) : V × R :=
  if (rNum 4 r).1 = 1 then (.mk 1 (rInt (rNum 4 r).2).1 0 ⟨#[]⟩ [], (rInt (rNum 4 r).2).2)
  else if (rNum 4 r).1 = 2 then (.mk 2 0 (rTake 8 (rNum 4 r).2).1 ⟨#[]⟩ [], if canonI (rTake 8 (rNum 4 r).2).1 = (rTake 8 (rNum 4 r).2).1 then (rTake 8 (rNum 4 r).2).2 else rFail 3 (rTake 8 (rNum 4 r).2).2)
  else if (rNum 4 r).1 = 3 then (.mk 3 0 0 (rText 200 (rNum 4 r).2).1 [], (rText 200 (rNum 4 r).2).2)
  else if (rNum 4 r).1 = 4 then
    (.mk 4 0 0 ⟨#[]⟩ (loopR f (rNum 12 (if z then rFail 5 (rNum 4 r).2 else (rNum 4 r).2)).1.toNat (rNum 12 (if z then rFail 5 (rNum 4 r).2 else (rNum 4 r).2)).2 []).1,
      (loopR f (rNum 12 (if z then rFail 5 (rNum 4 r).2 else (rNum 4 r).2)).1.toNat (rNum 12 (if z then rFail 5 (rNum 4 r).2 else (rNum 4 r).2)).2 []).2)
  else (.mk (rNum 4 r).1 0 0 ⟨#[]⟩ [], (rNum 4 r).2)
def readV : Nat → R → V × R
  | 0 => stepV true fun r => (zeroV, r)
  | d + 1 => stepV false (readV d)
theorem loopR_ok {f : R → V × R} (hf : ∀ r, okR r → okR (f r).2) : ∀ (n : Nat) (r : R) (acc : List V), okR r → okR (loopR f n r acc).2
  | 0, r, acc, h => h
  | n + 1, r, acc, h => by
    unfold loopR
    split
    · exact loopR_ok hf n _ _ (hf r h)
    · exact h
theorem stepV_okR {z : Bool} {f : R → V × R} (hf : ∀ r, okR r → okR (f r).2) {r : R} (h : okR r) : okR (stepV z f r).2 := by
  have h1 := okR_num (hi := 4) h
  unfold stepV
  split
  · exact okR_int h1
  · split
    · show okR (if _ then _ else _)
      split
      · exact okR_take h1
      · exact okR_fail (okR_take h1)
    · split
      · exact okR_text h1
      · split
        · refine loopR_ok hf _ _ _ (okR_num ?_)
          cases z
          · exact h1
          · exact okR_fail h1
        · exact h1
theorem readV_okR : ∀ (d : Nat) {r : R}, okR r → okR (readV d r).2
  | 0, r, h => stepV_okR (fun r h => h) h
  | d + 1, r, h => stepV_okR (fun r h => readV_okR d h) h
theorem okV_zero : okV zeroV := by
  unfold zeroV
  rw [okV_mk, okL]
  exact ⟨by decide, by decide, by decide, by decide, by decide, trivial⟩
theorem okL_app : ∀ {l m : List V}, okL l → okL m → okL (l ++ m)
  | [], m, _, k => k
  | v :: l, m, h, k => by
    rw [okL] at h
    rw [List.cons_append, okL]
    exact ⟨h.1, okL_app h.2 k⟩
theorem okL_one {v : V} (h : okV v) : okL [v] := by rw [okL, okL]; exact ⟨h, trivial⟩
theorem loopR_okV {f : R → V × R} (hf : ∀ r, okR r → okR (f r).2) (hv : ∀ r, okR r → okV (f r).1) : ∀ (n : Nat) (r : R) (acc : List V), okR r → okL acc → okL (loopR f n r acc).1 ∧ (loopR f n r acc).1.length ≤ acc.length + n
  | 0, r, acc, h, k => ⟨k, Nat.le_refl _⟩
  | n + 1, r, acc, h, k => by
    unfold loopR
    split
    · obtain ⟨h1, h2⟩ := loopR_okV hf hv n (f r).2 (acc ++ [(f r).1]) (hf r h) (okL_app k (okL_one (hv r h)))
      exact ⟨h1, by rw [List.length_append, List.length_singleton] at h2; omega⟩
    · exact ⟨k, by show acc.length ≤ _; omega⟩
theorem num12 {r : R} (h : okR r) : (rNum 12 r).1.toNat ≤ 12 := by
  obtain ⟨h1, h2, h3, h4⟩ := rNum_range (hi := 12) h
  by_cases e : (rNum 12 r).2.2 = 0
  · have := h3 e; omega
  · have := h4 e; omega
theorem text200 {r : R} (h : okR r) : (rText 200 r).1.size ≤ 200 := by
  obtain ⟨h1, h2⟩ := rText_size (hi := 200) h
  by_cases e : (rText 200 r).2.2 = 0
  · have := h2 e; omega
  · unfold rText at e ⊢
    split
    · split
      · exact Nat.zero_le _
      · rename_i a b
        rw [if_pos a, if_neg b] at e
        exact absurd rfl e
    · exact Nat.zero_le _
theorem stepV_okV {z : Bool} {f : R → V × R} (hf : ∀ r, okR r → okR (f r).2) (hv : ∀ r, okR r → okV (f r).1) {r : R} (h : okR r) : okV (stepV z f r).1 := by
  have h1 := okR_num (hi := 4) h
  have h2 := rNum_range (hi := 4) h
  have o : okL [] := by rw [okL]; trivial
  unfold stepV
  split
  · rw [okV_mk]
    refine ⟨by decide, ?_, by decide, by decide, by decide, o⟩
    unfold rInt
    split
    · exact utw_range (by have := rTake_lt (n := 8) h1; exact this)
    · exact ⟨by show (-9223372036854775808 : Int) ≤ 0; decide, by show (0 : Int) ≤ 9223372036854775807; decide⟩
  · split
    · rw [okV_mk]
      have := rTake_lt (n := 8) h1
      have h3 : (rTake 8 (rNum 4 r).2).1 < 18446744073709551616 := this
      exact ⟨by decide, by decide, by omega, by decide, by decide, o⟩
    · split
      · rw [okV_mk]
        have := text200 h1
        exact ⟨by decide, by decide, by decide, by omega, by decide, o⟩
      · split
        · rw [okV_mk]
          have h3 : okR (if z then rFail 5 (rNum 4 r).2 else (rNum 4 r).2) := by
            cases z
            · exact h1
            · exact okR_fail h1
          obtain ⟨q1, q2⟩ := loopR_okV hf hv (rNum 12 (if z then rFail 5 (rNum 4 r).2 else (rNum 4 r).2)).1.toNat (rNum 12 (if z then rFail 5 (rNum 4 r).2 else (rNum 4 r).2)).2 [] (okR_num h3) o
          have q3 := num12 h3
          exact ⟨by decide, by decide, by decide, by decide, by simp at q2; omega, q1⟩
        · rw [okV_mk]
          exact ⟨by omega, by decide, by decide, by decide, by decide, o⟩
theorem readV_okV : ∀ (d : Nat) {r : R}, okR r → okV (readV d r).1
  | 0, r, h => stepV_okV (fun r h => h) (fun r _ => okV_zero) h
  | d + 1, r, h => stepV_okV (fun r h => readV_okR d h) (fun r h => readV_okV d h) h
/-! ### what was written is read -/
theorem loopR_back {f : R → V × R} {e : Nat} (hf : ∀ (v : V) (rest : List Int), okV v → 0 ≤ sizeV v e → f (bytesV v ++ rest, 0) = (v, (rest, 0))) : ∀ (l : List V) (n : Int) (acc : List V) (rest : List Int), okL l → 0 ≤ sizeL l e n → loopR f l.length (bytesL l ++ rest, 0) acc = (acc ++ l, (rest, 0))
  | [], n, acc, rest, _, _ => by rw [bytesL]; simp [loopR]
  | v :: l, n, acc, rest, ok, h => by
    rw [okL] at ok
    have h0 : 0 ≤ sizeV v e ∧ 0 ≤ sizeL l e (n + sizeV v e) := by
      rw [sizeL] at h
      split at h
      · omega
      · exact ⟨by omega, h⟩
    rw [List.length_cons, loopR, bytesL, List.append_assoc, if_pos rfl, hf v _ ok.1 h0.1]
    show loopR f l.length (bytesL l ++ rest, 0) (acc ++ [v]) = _
    rw [loopR_back hf l _ (acc ++ [v]) rest ok.2 h0.2, List.append_assoc]
    rfl
theorem only_parts {k i b : Int} {s : ByteArray} {n : Nat} (h : onlyB k i b s n = true) : (k = 1 ∨ i = 0) ∧ (k = 2 ∨ b = 0) ∧ (k = 3 ∨ s.size = 0) ∧ (k = 4 ∨ n = 0) ∧ 0 ≤ k ∧ k ≤ 4 := by
  simp only [onlyB, Bool.and_eq_true, decide_eq_true_eq] at h
  omega
theorem size_nil {s : ByteArray} (h : s.size = 0) : s = ⟨#[]⟩ := by
  apply bytesOf_inj
  have : (bytesOf s).length = 0 := by rw [bytesOf_length]; exact h
  rw [List.eq_nil_of_length_eq_zero this]
  rfl
theorem stepV_back {z : Bool} {f : R → V × R} {d : Nat} (hz : z = true → d = 0) (hf : ∀ (v : V) (rest : List Int), 1 ≤ d → okV v → 0 ≤ sizeV v (d - 1) → f (bytesV v ++ rest, 0) = (v, (rest, 0))) {v : V} (rest : List Int) (ok : okV v) (h : 0 ≤ sizeV v d) : stepV z f (bytesV v ++ rest, 0) = (v, (rest, 0)) := by
  obtain ⟨k, i, b, s, l⟩ := v
  obtain ⟨h1, h2, h3, h4, h5⟩ := sizeV_inv h
  obtain ⟨o1, o2, o3, o4, o5, o6⟩ := only_parts h1
  rw [okV_mk] at ok
  have hn : rNum 4 (bytesV (.mk k i b s l) ++ rest, 0) = (k, ((if k = 1 then be 8 (tw i) else if k = 2 then be 8 b.toNat else if k = 3 then textB s else if k = 4 then numB l.length ++ bytesL l else []) ++ rest, 0)) := by
    rw [bytesV_mk, List.append_assoc, rNum_back _ (by omega) (by omega), Int.toNat_of_nonneg o5]
  unfold stepV
  rw [hn]
  simp only
  by_cases q1 : k = 1
  · have e1 : b = 0 := by omega
    have e2 := size_nil (s := s) (by omega)
    have e3 : l = [] := List.eq_nil_of_length_eq_zero (by omega)
    subst e1 e2 e3 q1
    simp only [if_true]
    rw [rInt_back ok.2.1]
  · simp only [if_neg q1]
    by_cases q2 : k = 2
    · have e1 : i = 0 := by omega
      have e2 := size_nil (s := s) (by omega)
      have e3 : l = [] := List.eq_nil_of_length_eq_zero (by omega)
      subst e1 e2 e3 q2
      simp only [if_true]
      have e4 : ((b.toNat : Nat) : Int) = b := by omega
      rw [rTake_back (show b.toNat < 256 ^ 8 by have := ok.2.2.1; simp; omega)]
      simp only [e4, h4, if_true]
    · simp only [if_neg q2]
      by_cases q3 : k = 3
      · have e1 : i = 0 := by omega
        have e2 : b = 0 := by omega
        have e3 : l = [] := List.eq_nil_of_length_eq_zero (by omega)
        subst e1 e2 e3 q3
        simp only [if_true]
        rw [rText_back _ (by omega) (by omega)]
      · simp only [if_neg q3]
        by_cases q4 : k = 4
        · obtain ⟨d1, d2, d3⟩ := h5 q4
          have e1 : i = 0 := by omega
          have e2 : b = 0 := by omega
          have e3 := size_nil (s := s) (by omega)
          subst e1 e2 e3 q4
          have hz0 : z = false := by
            cases z
            · rfl
            · have := hz rfl; omega
          subst hz0
          simp only [if_true, Bool.false_eq_true, if_false]
          rw [List.append_assoc, rNum_back _ (by omega) (by omega)]
          simp only [Int.toNat_natCast]
          rw [loopR_back (e := d - 1) (fun v rest ok hs => hf v rest d1 ok hs) l 2 [] rest ok.2.2.2.2.2 d2]
          rfl
        · have e1 : i = 0 := by omega
          have e2 : b = 0 := by omega
          have e3 := size_nil (s := s) (by omega)
          have e4 : l = [] := List.eq_nil_of_length_eq_zero (by omega)
          subst e1 e2 e3 e4
          simp only [if_neg q4, List.nil_append]
theorem readV_back : ∀ (d : Nat) (v : V) (rest : List Int), okV v → 0 ≤ sizeV v d → readV d (bytesV v ++ rest, 0) = (v, (rest, 0))
  | 0, v, rest, ok, h => stepV_back (d := 0) (fun _ => rfl) (fun v rest h => by omega) rest ok h
  | d + 1, v, rest, ok, h => stepV_back (d := d + 1) (fun h => by cases h) (fun v rest _ ok hs => readV_back d v rest ok hs) rest ok h
/-! ### what is read has those bytes -/
theorem sizeV_ok {k i b : Int} {s : ByteArray} {l : List V} {d : Nat} (h1 : onlyB k i b s l.length = true) (h2 : s.size ≤ 200) (h3 : l.length ≤ 12) (h4 : canonI b = b) (h5 : k = 4 → 1 ≤ d ∧ 0 ≤ sizeL l (d - 1) 2) : 0 ≤ sizeV (.mk k i b s l) d := by
  rw [sizeV_mk, if_neg]
  · split
    · omega
    · split
      · omega
      · split
        · rename_i q
          obtain ⟨a, c⟩ := h5 q
          rw [if_neg (by omega)]
          exact c
        · omega
  · rintro (a | a | a | a)
    · rw [h1] at a; cases a
    · omega
    · omega
    · exact a h4
theorem canon0 : canonI 0 = 0 := by decide +kernel
theorem only_of {k i b : Int} {s : ByteArray} {n : Nat} (h : (k = 1 ∨ i = 0) ∧ (k = 2 ∨ b = 0) ∧ (k = 3 ∨ s.size = 0) ∧ (k = 4 ∨ n = 0) ∧ 0 ≤ k ∧ k ≤ 4) : onlyB k i b s n = true := by
  simp only [onlyB, Bool.and_eq_true, decide_eq_true_eq]
  omega
theorem loopR_bad {f : R → V × R} {r : R} (h : r.2 ≠ 0) (n : Nat) (acc : List V) : (loopR f n r acc).2 = r := by
  cases n with
  | zero => rfl
  | succ n => rw [loopR, if_neg h]
theorem loopR_inv {f : R → V × R} {e : Nat} (hf : ∀ (xs : List Int) (v : V) (rest : List Int), okB xs → xs.length ≤ 1099511627776 → f (xs, 0) = (v, (rest, 0)) → xs = bytesV v ++ rest ∧ 0 ≤ sizeV v e) : ∀ (n : Nat) (xs : List Int) (acc l : List V) (rest : List Int), okB xs → xs.length ≤ 1099511627776 → loopR f n (xs, 0) acc = (l, (rest, 0)) → ∃ m, l = acc ++ m ∧ m.length = n ∧ xs = bytesL m ++ rest ∧ ∀ y : Int, 0 ≤ y → 0 ≤ sizeL m e y
  | 0, xs, acc, l, rest, ok, hl, h => by
    simp only [loopR, Prod.mk.injEq, and_true] at h
    exact ⟨[], by simp [h.1], rfl, by rw [bytesL, h.2]; rfl, fun y hy => by rw [sizeL]; exact hy⟩
  | n + 1, xs, acc, l, rest, ok, hl, h => by
    rw [loopR, if_pos rfl] at h
    by_cases q : (f (xs, 0)).2.2 = 0
    · have hq : f (xs, 0) = ((f (xs, 0)).1, ((f (xs, 0)).2.1, 0)) := Prod.ext rfl (Prod.ext rfl q)
      obtain ⟨h1, h2⟩ := hf xs _ _ ok hl hq
      have hl2 : (f (xs, 0)).2.1.length ≤ 1099511627776 := by have := congrArg List.length h1; rw [List.length_append] at this; omega
      rw [hq] at h
      simp only at h
      have ok2 : okB (f (xs, 0)).2.1 := fun x hx => ok x (by rw [h1]; simp [hx])
      obtain ⟨m, m1, m2, m3, m4⟩ := loopR_inv hf n _ _ l rest ok2 hl2 h
      refine ⟨(f (xs, 0)).1 :: m, by rw [m1, List.append_assoc]; rfl, by rw [List.length_cons, m2], by rw [bytesL, List.append_assoc, ← m3, ← h1], fun y hy => ?_⟩
      rw [sizeL, if_neg (by omega)]
      exact m4 _ (by omega)
    · have := loopR_bad (f := f) q n (acc ++ [(f (xs, 0)).1])
      rw [h] at this
      rw [← this] at q
      exact absurd rfl q
theorem rFail_ne {e : Int} {r : R} (h : e ≠ 0) : (rFail e r).2 ≠ 0 := by
  unfold rFail
  split
  · exact h
  · rename_i q
    intro k
    exact q ⟨k, h⟩
theorem stepV_inv {z : Bool} {f : R → V × R} {d : Nat} (hz : z = false → 1 ≤ d) (hf : z = false → ∀ (xs : List Int) (v : V) (rest : List Int), okB xs → xs.length ≤ 1099511627776 → f (xs, 0) = (v, (rest, 0)) → xs = bytesV v ++ rest ∧ 0 ≤ sizeV v (d - 1)) {xs : List Int} {v : V} {rest : List Int} (ok : okB xs) (hl : xs.length ≤ 1099511627776) (h : stepV z f (xs, 0) = (v, (rest, 0))) : xs = bytesV v ++ rest ∧ 0 ≤ sizeV v d := by
  have okr : okR (xs, 0) := okR_0 ok hl
  obtain ⟨r1, r2, r3, r4⟩ := rNum_range (hi := 4) okr
  have herr : (rNum 4 (xs, 0)).2.2 = 0 := by
    by_cases q : (rNum 4 (xs, 0)).2.2 = 0
    · exact q
    · have k0 := r4 q
      unfold stepV at h
      rw [if_neg (by omega), if_neg (by omega), if_neg (by omega), if_neg (by omega)] at h
      simp only [Prod.mk.injEq] at h
      rw [h.2] at q
      exact absurd rfl q
  have hq : rNum 4 (xs, 0) = ((rNum 4 (xs, 0)).1, ((rNum 4 (xs, 0)).2.1, 0)) := Prod.ext rfl (Prod.ext rfl herr)
  generalize hk : (rNum 4 (xs, 0)).1 = k at *
  generalize hy : (rNum 4 (xs, 0)).2.1 = ys at *
  obtain ⟨n1, n2, n3, n4⟩ := rNum_inv ok hq
  have oky : okB ys := fun x hx => ok x (by rw [n4]; simp [hx])
  unfold stepV at h
  rw [hq] at h
  simp only at h
  by_cases q1 : k = 1
  · subst q1
    simp only [if_true, Prod.mk.injEq] at h
    obtain ⟨rfl, h⟩ := h
    have hi : rInt (ys, 0) = ((rInt (ys, 0)).1, (rest, 0)) := Prod.ext rfl h
    obtain ⟨e1, e2⟩ := rInt_inv oky hi
    refine ⟨by rw [bytesV_mk, if_pos rfl, List.append_assoc, ← e1]; exact n4, ?_⟩
    exact sizeV_ok (only_of (by simp; decide)) (by decide) (by decide) canon0 (fun h => by omega)
  · simp only [if_neg q1] at h
    by_cases q2 : k = 2
    · subst q2
      simp only [if_true, Prod.mk.injEq] at h
      obtain ⟨rfl, h⟩ := h
      by_cases hc : canonI (rTake 8 (ys, 0)).1 = (rTake 8 (ys, 0)).1
      · rw [if_pos hc] at h
        have ht : rTake 8 (ys, 0) = ((rTake 8 (ys, 0)).1, (rest, 0)) := Prod.ext rfl h
        obtain ⟨e1, e2⟩ := rTake_inv oky ht
        refine ⟨by rw [bytesV_mk, if_neg (by omega), if_pos rfl, List.append_assoc, Int.toNat_natCast, ← e1]; exact n4, ?_⟩
        exact sizeV_ok (only_of (by simp; decide)) (by decide) (by decide) hc (fun h => by omega)
      · rw [if_neg hc] at h
        have := rFail_ne (e := 3) (r := (rTake 8 (ys, 0)).2) (by decide)
        rw [h] at this
        exact absurd rfl this
    · simp only [if_neg q2] at h
      by_cases q3 : k = 3
      · subst q3
        simp only [if_true, Prod.mk.injEq] at h
        obtain ⟨rfl, h⟩ := h
        have ht : rText 200 (ys, 0) = ((rText 200 (ys, 0)).1, (rest, 0)) := Prod.ext rfl h
        obtain ⟨e1, e2⟩ := rText_inv oky ht
        refine ⟨by rw [bytesV_mk, if_neg (by omega), if_neg (by omega), if_pos rfl, List.append_assoc, ← e2]; exact n4, ?_⟩
        exact sizeV_ok (only_of (by simp)) (by omega) (by decide) canon0 (fun h => by omega)
      · simp only [if_neg q3] at h
        by_cases q4 : k = 4
        · subst q4
          simp only [if_true] at h
          cases z with
          | true =>
            exfalso
            simp only [if_true, Prod.mk.injEq] at h
            have hb := rFail_ne (e := 5) (r := (ys, 0)) (by decide)
            rw [rNum_bad hb] at h
            have h2 := h.2
            rw [loopR_bad hb] at h2
            rw [h2] at hb
            exact absurd rfl hb
          | false =>
            simp only [Bool.false_eq_true, if_false, Prod.mk.injEq] at h
            obtain ⟨rfl, h⟩ := h
            have okry : okR (ys, 0) := okR_0 oky (by have a := congrArg List.length n4; rw [List.length_append] at a; omega)
            obtain ⟨s1, s2, s3, s4⟩ := rNum_range (hi := 12) okry
            have herr2 : (rNum 12 (ys, 0)).2.2 = 0 := by
              by_cases q : (rNum 12 (ys, 0)).2.2 = 0
              · exact q
              · rw [loopR_bad q] at h
                rw [h] at q
                exact absurd rfl q
            have hm : rNum 12 (ys, 0) = ((rNum 12 (ys, 0)).1, ((rNum 12 (ys, 0)).2.1, 0)) := Prod.ext rfl (Prod.ext rfl herr2)
            generalize hmm : (rNum 12 (ys, 0)).1 = m at *
            generalize hzz : (rNum 12 (ys, 0)).2.1 = zs at *
            obtain ⟨t1, t2, t3, t4⟩ := rNum_inv oky hm
            have okz : okB zs := fun x hx => oky x (by rw [t4]; simp [hx])
            rw [hm] at h ⊢
            simp only at h ⊢
            have hloop : loopR f m.toNat (zs, 0) [] = ((loopR f m.toNat (zs, 0) []).1, (rest, 0)) := Prod.ext rfl h
            obtain ⟨w, w1, w2, w3, w4⟩ := loopR_inv (hf rfl) _ _ _ _ _ okz (by have a := congrArg List.length n4; have c := congrArg List.length t4; rw [List.length_append] at a c; omega) hloop
            rw [List.nil_append] at w1
            rw [w1]
            refine ⟨by rw [bytesV_mk, if_neg (by omega), if_neg (by omega), if_neg (by omega), if_pos rfl, List.append_assoc, List.append_assoc, ← w3, w2, ← t4]; exact n4, ?_⟩
            exact sizeV_ok (only_of (by simp; decide)) (by decide) (by omega) canon0 (fun _ => ⟨hz rfl, w4 2 (by omega)⟩)
        · simp only [if_neg q4, Prod.mk.injEq, and_true] at h
          obtain ⟨rfl, rfl⟩ := h
          refine ⟨by rw [bytesV_mk, if_neg q1, if_neg q2, if_neg q3, if_neg q4, List.append_nil]; exact n4, ?_⟩
          exact sizeV_ok (only_of ⟨.inr rfl, .inr rfl, .inr rfl, .inr rfl, n1, n2⟩) (by decide) (by decide) canon0 (fun h => absurd h q4)
theorem readV_inv : ∀ (d : Nat) (xs : List Int) (v : V) (rest : List Int), okB xs → xs.length ≤ 1099511627776 → readV d (xs, 0) = (v, (rest, 0)) → xs = bytesV v ++ rest ∧ 0 ≤ sizeV v d
  | 0, xs, v, rest, ok, hl, h => stepV_inv (d := 0) (fun h => by cases h) (fun h => by cases h) ok hl h
  | d + 1, xs, v, rest, ok, hl, h => stepV_inv (d := d + 1) (fun _ => by omega) (fun _ xs v rest ok hl h => readV_inv d xs v rest ok hl h) ok hl h
end Go.Proofs.Ytlodbaikbgbhjaa
