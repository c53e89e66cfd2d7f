/- Keys of branches, as lists of bytes. -/
import Derived.Test.YtdjgfjnnafddnaaNamesE
import Derived.Test.YtdjgfjnnafddnaaVmS
set_option linter.unusedVariables false
set_option linter.unusedSimpArgs false
set_option maxRecDepth 20000
namespace Go.Proofs.Ytdjgfjnnafddnaa
open Go Go.Vm Go.IntWalk

theorem dec_digit : ∀ (n : Nat), ∀ x ∈ dec n, 48 ≤ x ∧ x ≤ 57 := by
  intro n
  induction n using Nat.strongRecOn with
  | ind n ih =>
    intro x hx
    rw [dec] at hx
    split at hx
    · simp only [List.mem_singleton] at hx
      omega
    · rcases List.mem_append.1 hx with hx | hx
      · exact ih (n / 10) (by omega) x hx
      · simp only [List.mem_singleton] at hx
        omega
theorem dec_ok (n : Nat) : okB (dec n) := fun x hx => by
  have := dec_digit n x hx
  omega
theorem bytesOf_branch (s : ByteArray) (n : Nat) : bytesOf (branch s n) = [104, 47] ++ bytesOf s ++ [47] ++ dec n := by
  unfold branch
  rw [bytesOf_append, bytesOf_append, bytesOf_append, bytesOf_strOf (dec_ok n)]
  rfl
theorem name_slash {s : ByteArray} (h : name s = true) : 47 ∉ bytesOf s := by
  intro hm
  obtain ⟨i, hi, hx⟩ := List.getElem_of_mem hm
  rw [bytesOf_length] at hi
  unfold name at h
  simp only [Bool.and_eq_true] at h
  have h1 := of_decide_eq_true h.2 i hi
  have h2 := bt_get s i hi
  rw [List.getElem?_eq_getElem (by rw [bytesOf_length]; exact hi), hx] at h2
  simp only [Option.some.injEq] at h2
  rw [← h2] at h1
  revert h1
  decide +kernel
theorem lastB_spec (s : ByteArray) (c : Int) : ∀ k, k ≤ s.size → (lastB s c k = -1 ∧ ∀ j, j < k → bt s j ≠ c) ∨ ∃ i : Nat, i < k ∧ lastB s c k = i ∧ bt s i = c ∧ ∀ j, i < j → j < k → bt s j ≠ c
  | 0, _ => .inl ⟨rfl, fun j h => by omega⟩
  | k + 1, h => by
    unfold lastB
    split
    · rename_i h1
      exact .inr ⟨k, by omega, rfl, h1, fun j a b => by omega⟩
    · rename_i h1
      rcases lastB_spec s c k (by omega) with ⟨a, b⟩ | ⟨i, a, b, d, e⟩
      · refine .inl ⟨a, fun j hj => ?_⟩
        rcases Nat.lt_succ_iff_lt_or_eq.1 hj with hj | rfl
        · exact b j hj
        · exact h1
      · refine .inr ⟨i, by omega, b, d, fun j x y => ?_⟩
        rcases Nat.lt_succ_iff_lt_or_eq.1 y with y | rfl
        · exact e j x y
        · exact h1
/-- the last place of a byte, where the text is known -/
theorem lastB_of {s : ByteArray} {c : Int} {a d : List Int} (h : bytesOf s = a ++ c :: d) (hd : c ∉ d) : lastB s c s.size = a.length := by
  have hl : s.size = a.length + (d.length + 1) := by rw [← bytesOf_length, h]; simp
  have key : ∀ j, a.length < j → j < s.size → bt s j ≠ c := fun j h1 h2 e => by
    have := bt_get s j h2
    rw [h, List.getElem?_append_right (by omega), e] at this
    obtain ⟨m, hm⟩ : ∃ m, j - a.length = m + 1 := ⟨j - a.length - 1, by omega⟩
    rw [hm, List.getElem?_cons_succ] at this
    exact hd (List.mem_of_getElem? this)
  have hc : bt s a.length = c := by
    have := bt_get s a.length (by omega)
    rw [h, List.getElem?_append_right (Nat.le_refl _)] at this
    simpa using this.symm
  rcases lastB_spec s c s.size (Nat.le_refl _) with ⟨_, b⟩ | ⟨i, a1, b, d1, e⟩
  · exact absurd hc (b _ (by omega))
  · rw [b]
    rcases Nat.lt_trichotomy i a.length with q | q | q
    · exact absurd hc (e _ q (by omega))
    · rw [q]
    · exact absurd d1 (key i q a1)
theorem goN_le : ∀ (l : List Int) (i n : Nat), goN l i n = 0 ∨ n ≤ goN l i n
  | [], i, n => .inr (Nat.le_refl _)
  | c :: r, i, n => by
    unfold goN
    split
    · exact .inl rfl
    · rcases goN_le r (i + 1) (10 * n + (c - 48).toNat) with h | h
      · exact .inl h
      · exact .inr (by omega)
theorem dec_one {n : Nat} (h : n < 10) : dec n = [48 + (n : Int)] := by rw [dec, dif_pos h]
theorem dec_ten : dec 10 = [49, 48] := by
  rw [dec, dif_neg (by omega), dec_one (by omega)]
  rfl
theorem goN_dec {n : Nat} (h1 : 1 ≤ n) (h2 : n ≤ 10) : goN (dec n) 0 0 = n := by
  rcases Nat.lt_or_ge n 10 with h | h
  · rw [dec_one h]
    unfold goN
    rw [if_neg (by omega)]
    unfold goN
    omega
  · have : n = 10 := by omega
    subst this
    rw [dec_ten]
    decide
theorem goN_inv {l : List Int} {m : Nat} (h : goN l 0 0 = m) (h1 : 1 ≤ m) (h2 : m ≤ 10) : l = dec m := by
  match l, h with
  | [], h => simp [goN] at h; omega
  | [c], h =>
    unfold goN at h
    split at h
    · omega
    · unfold goN at h
      rw [dec_one (by omega)]
      congr 1
      omega
  | [c, d], h =>
    unfold goN at h
    split at h
    · omega
    · unfold goN at h
      split at h
      · omega
      · unfold goN at h
        have : m = 10 := by omega
        subst this
        rw [dec_ten]
        have hc : c = 49 := by omega
        have hd : d = 48 := by omega
        rw [hc, hd]
  | c :: d :: e :: r, h =>
    exfalso
    unfold goN at h
    split at h
    · omega
    · unfold goN at h
      split at h
      · omega
      · unfold goN at h
        split at h
        · omega
        · rcases goN_le r (0 + 1 + 1 + 1) (10 * (10 * (10 * 0 + (c - 48).toNat) + (d - 48).toNat) + (e - 48).toNat) with q | q
          · omega
          · omega
end Go.Proofs.Ytdjgfjnnafddnaa
