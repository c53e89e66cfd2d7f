/- names.ParseBranch and its reference; NamesReads. -/
import Derived.Test.YtdjgfjnnafddnaaNamesF
set_option linter.unusedVariables false
set_option linter.unusedSimpArgs false
set_option maxRecDepth 20000
namespace Go.Proofs.Ytdjgfjnnafddnaa
open Go Go.Vm Go.IntWalk

def isB (s a : ByteArray) (n : Nat) : Prop := s = branch a n ∧ name a = true ∧ 1 ≤ n ∧ n ≤ 10
theorem isB_rest {s a : ByteArray} {n : Nat} (h : isB s a n) : bytesOf (s.extract 2 s.size) = bytesOf a ++ 47 :: dec n := by
  obtain ⟨rfl, _, _, _⟩ := h
  rw [bytesOf_extract, List.take_of_length_le (by rw [bytesOf_length]; exact Nat.le_refl _), bytesOf_branch]
  simp
theorem slash_dec (n : Nat) : (47 : Int) ∉ dec n := fun h => by
  have := dec_digit n 47 h
  omega
theorem isB_last {s a : ByteArray} {n : Nat} (h : isB s a n) : lastB (s.extract 2 s.size) 47 (s.extract 2 s.size).size = a.size := by
  rw [lastB_of (isB_rest h) (slash_dec n), bytesOf_length]
theorem isB_uniq {s a b : ByteArray} {n m : Nat} (h : isB s a n) (k : isB s b m) : a = b ∧ n = m := by
  have h1 := isB_rest h
  have h2 := isB_rest k
  have h3 : (a.size : Int) = b.size := by rw [← isB_last h, isB_last k]
  rw [h1] at h2
  have h4 : (bytesOf a).length = (bytesOf b).length := by rw [bytesOf_length, bytesOf_length]; omega
  obtain ⟨q1, q2⟩ := List.append_inj h2 h4
  refine ⟨bytesOf_inj q1, ?_⟩
  simp only [List.cons.injEq, true_and] at q2
  rw [← goN_dec h.2.2.1 h.2.2.2, q2, goN_dec k.2.2.1 k.2.2.2]
open Classical in
noncomputable def brOf (s : ByteArray) : PV :=
  if h : ∃ x : ByteArray × Nat, isB s x.1 x.2 then .tup [.val (.string h.choose.1), .val (.int .i64 h.choose.2), .val (.bool true)] else .tup [.val (.string ⟨#[]⟩), .val (.int .i64 0), .val (.bool false)]
theorem brOf_yes {s a : ByteArray} {n : Nat} (h : isB s a n) : brOf s = .tup [.val (.string a), .val (.int .i64 n), .val (.bool true)] := by
  have hx : ∃ x : ByteArray × Nat, isB s x.1 x.2 := ⟨(a, n), h⟩
  unfold brOf
  rw [dif_pos hx]
  obtain ⟨h1, h2⟩ := isB_uniq hx.choose_spec h
  rw [h1, h2]
theorem brOf_no {s : ByteArray} (h : ∀ a n, ¬ isB s a n) : brOf s = .tup [.val (.string ⟨#[]⟩), .val (.int .i64 0), .val (.bool false)] := by
  unfold brOf
  rw [dif_neg (fun ⟨x, hx⟩ => h x.1 x.2 hx)]
noncomputable def F46 : List PV → Option PV
  | [.val (.string s)] => chk (s.size ≤ 140737488355328) (some (brOf s))
  | _ => none
theorem F46_some {ps p} (h : F46 ps = some p) : ∃ s, s.size ≤ 140737488355328 ∧ ps = [.val (.string s)] ∧ p = brOf s := by
  unfold F46 at h
  split at h
  · rename_i s
    obtain ⟨h1, h⟩ := chk_some h
    exact ⟨s, h1, rfl, by simpa using h.symm⟩
  · cases h
theorem F46_eq {s : ByteArray} (h : s.size ≤ 140737488355328) : F46 [.val (.string s)] = some (brOf s) := by
  unfold F46
  exact chk_pos h
theorem size_h : (⟨#[104, 47]⟩ : ByteArray).size = 2 := rfl
theorem isB_hasP {s a : ByteArray} {n : Nat} (h : isB s a n) : hasP s ⟨#[104, 47]⟩ = true := by
  obtain ⟨rfl, _, _, _⟩ := h
  have hb := bytesOf_branch a n
  have hl : 2 ≤ (branch a n).size := by rw [← bytesOf_length, hb]; simp
  simp only [hasP, size_h, Bool.and_eq_true, decide_eq_true_eq]
  refine ⟨hl, ?_⟩
  rw [strEq_bytes, decide_eq_true_eq, bytesOf_extract, hb]
  rfl
/-- what is known of the key of a branch -/
theorem isB_parts {s a t : ByteArray} {n : Nat} (h : isB s a n) (ht : t = s.extract 2 s.size) : lastB t 47 t.size = a.size ∧ t.extract 0 a.size = a ∧ numS (t.extract (a.size + 1) t.size) = n := by
  subst ht
  have hr := isB_rest h
  refine ⟨isB_last h, bytesOf_inj ?_, ?_⟩
  · rw [bytesOf_extract, hr, ← bytesOf_length a, List.take_left]
    rfl
  · unfold numS
    rw [bytesOf_extract, List.take_of_length_le (by rw [bytesOf_length]; exact Nat.le_refl _), hr, ← bytesOf_length a]
    rw [show bytesOf a ++ 47 :: dec n = (bytesOf a ++ [47]) ++ dec n from by simp, show (bytesOf a).length + 1 = (bytesOf a ++ [47]).length from by simp, List.drop_left]
    exact goN_dec h.2.2.1 h.2.2.2
/-- what makes a key one of a branch -/
theorem isB_of {s t : ByteArray} {i m : Nat} (hp : hasP s ⟨#[104, 47]⟩ = true) (ht : t = s.extract 2 s.size) (hi : i < t.size) (hc : bt t i = 47) (hn : name (t.extract 0 i) = true) (hm : numS (t.extract (i + 1) t.size) = m) (h1 : 1 ≤ m) (h2 : m ≤ 10) : isB s (t.extract 0 i) m := by
  refine ⟨bytesOf_inj ?_, hn, h1, h2⟩
  have hd : bytesOf (t.extract (i + 1) t.size) = dec m := goN_inv hm h1 h2
  have hfull : (bytesOf t).take t.size = bytesOf t := List.take_of_length_le (by rw [bytesOf_length]; exact Nat.le_refl _)
  rw [bytesOf_branch, ← hd, bytesOf_extract, bytesOf_extract, hfull]
  have h3 : bytesOf t = (bytesOf t).take i ++ 47 :: (bytesOf t).drop (i + 1) := by
    have := drop_bt t i hi
    rw [hc] at this
    rw [← this, List.take_append_drop]
  have h4 : bytesOf s = [104, 47] ++ bytesOf t := by
    subst ht
    simp only [hasP, size_h, Bool.and_eq_true, decide_eq_true_eq] at hp
    have q := hp.2
    rw [strEq_bytes, decide_eq_true_eq, bytesOf_extract] at q
    rw [bytesOf_extract, List.take_of_length_le (by rw [bytesOf_length]; exact Nat.le_refl _)]
    have e : [104, 47] = (bytesOf s).take 2 := by
      rw [List.drop_zero] at q
      exact q.symm
    rw [e, List.take_append_drop]
  rw [h4]
  conv => lhs; rw [h3]
  simp
theorem con46 : Contract Try.prog 46 (DetP F46) := by
  refine contract_pure (Known.cons con87 (Known.cons con88 (Known.cons con15 (Known.cons con89 Known.nil)))) Try.func46 (by kernel_rfl) rfl comp46 rfl (by kernel_rfl) ?_
  intro ps p h
  obtain ⟨s, hs, rfl, rfl⟩ := F46_some h
  refine ⟨(by decide : 1 ≤ Try.f46.ntmps), ?_⟩
  clear h
  generalize hr : brOf s = r
  obtain ⟨t, ht⟩ : ∃ t, t = (if hasP s ⟨#[104, 47]⟩ then s.extract (⟨#[104, 47]⟩ : ByteArray).size s.size else s) := ⟨_, rfl⟩
  have hts : t.size ≤ 140737488355328 := by
    rw [ht]
    split
    · rw [ByteArray.size_extract]; omega
    · exact hs
  have hb : bt ⟨#[47]⟩ (Int.toNat 0) = 47 := by decide +kernel
  have key := lastB_spec t 47 t.size (Nat.le_refl _)
  have f := F104_eq (s := t) (c := 47) (by omega)
  have parts : ∀ a n, isB s a n → hasP s ⟨#[104, 47]⟩ = true ∧ lastB t 47 t.size = a.size ∧ t.extract 0 a.size = a ∧ numS (t.extract (a.size + 1) t.size) = n := fun a n h => by
    have q := isB_hasP h
    rw [if_pos q, size_h] at ht
    exact ⟨q, isB_parts h ht⟩
  generalize hi : lastB t 47 t.size = i at key f parts
  have hi1 : -1 ≤ i ∧ i < t.size := by
    rcases key with ⟨a, _⟩ | ⟨j, a, b, _⟩ <;> omega
  have e1 : IntKind.i64.wrap (i + 1) = i + 1 := i64_in _ (by omega)
  repeat' first
    | (with_reducible refine bo_run ?_); conv => whnf
    | (with_reducible refine bw_run ?_); conv => whnf
    | (with_reducible refine Br.tt ?_); conv => whnf
    | (with_reducible refine Br.ff ?_); conv => whnf
    | (with_reducible refine br_not ?_)
    | (with_reducible refine br_dec_tt (by assumption) ?_); conv => whnf
    | (with_reducible refine br_dec_ff (by assumption) ?_); conv => whnf
    | (with_reducible refine br_dec_intro (fun _ => ?_) (fun _ => ?_)) <;> conv => whnf
    | (with_reducible refine br_beq_tt (by assumption) ?_); conv => whnf
    | (with_reducible refine br_beq_ff (by assumption) ?_); conv => whnf
    | (with_reducible refine br_beq_intro (fun _ => ?_) (fun _ => ?_)) <;> conv => whnf
    | (with_reducible refine br_bne_tt (by assumption) ?_); conv => whnf
    | (with_reducible refine br_bne_ff (by assumption) ?_); conv => whnf
    | (with_reducible refine br_bne_intro (fun _ => ?_) (fun _ => ?_)) <;> conv => whnf
    | (with_reducible refine br_of_true (by assumption) ?_); conv => whnf
    | (with_reducible refine br_of_false (by assumption) ?_); conv => whnf
    | (with_reducible refine br_intro (fun _ => ?_) (fun _ => ?_)) <;> conv => whnf
    | (with_reducible refine and_rfl ?_); conv => whnf
    | (refine and_late (fun _ => ?_) (by first | omega | (show _ = _; rfl) | (simp only [List.length_map, List.length_append, pbytes, Nat.mul_one, List.length_cons, List.length_nil]; done) | (simp only [List.length_map, List.length_append, pbytes, Nat.mul_one, List.length_cons, List.length_nil]; omega))); conv => whnf
    | (with_reducible refine and_late (fun _ => ?_) ?_); conv => whnf
    | (refine call_pure rfl rfl (.inl rfl) ?_); conv => whnf
    | (with_reducible refine Both.mk ?_ ?_) <;> conv => whnf
    | (refine ⟨_, rfl, ?_⟩); conv => whnf
    | (refine ⟨_, unbytes_pbytes _, ?_⟩); conv => whnf
    | exact ⟨_, _, rfl, rfl⟩
    | fail
  rw [← ht, hb]
  refine call_pure rfl f (.inl rfl) ?_
  conv => whnf
  repeat' first
    | (with_reducible refine bo_run ?_); conv => whnf
    | (with_reducible refine bw_run ?_); conv => whnf
    | (with_reducible refine Br.tt ?_); conv => whnf
    | (with_reducible refine Br.ff ?_); conv => whnf
    | (with_reducible refine br_not ?_)
    | (with_reducible refine br_dec_tt (by assumption) ?_); conv => whnf
    | (with_reducible refine br_dec_ff (by assumption) ?_); conv => whnf
    | (with_reducible refine br_dec_intro (fun _ => ?_) (fun _ => ?_)) <;> conv => whnf
    | (with_reducible refine br_beq_tt (by assumption) ?_); conv => whnf
    | (with_reducible refine br_beq_ff (by assumption) ?_); conv => whnf
    | (with_reducible refine br_beq_intro (fun _ => ?_) (fun _ => ?_)) <;> conv => whnf
    | (with_reducible refine br_bne_tt (by assumption) ?_); conv => whnf
    | (with_reducible refine br_bne_ff (by assumption) ?_); conv => whnf
    | (with_reducible refine br_bne_intro (fun _ => ?_) (fun _ => ?_)) <;> conv => whnf
    | (with_reducible refine br_of_true (by assumption) ?_); conv => whnf
    | (with_reducible refine br_of_false (by assumption) ?_); conv => whnf
    | (with_reducible refine br_intro (fun _ => ?_) (fun _ => ?_)) <;> conv => whnf
    | (with_reducible refine and_rfl ?_); conv => whnf
    | (refine and_late (fun _ => ?_) (by first | omega | (show _ = _; rfl) | (simp only [List.length_map, List.length_append, pbytes, Nat.mul_one, List.length_cons, List.length_nil]; done) | (simp only [List.length_map, List.length_append, pbytes, Nat.mul_one, List.length_cons, List.length_nil]; omega))); conv => whnf
    | (with_reducible refine and_late (fun _ => ?_) ?_); conv => whnf
    | (refine call_pure rfl rfl (.inl rfl) ?_); conv => whnf
    | (with_reducible refine Both.mk ?_ ?_) <;> conv => whnf
    | (refine ⟨_, rfl, ?_⟩); conv => whnf
    | (refine ⟨_, unbytes_pbytes _, ?_⟩); conv => whnf
    | exact ⟨_, _, rfl, rfl⟩
    | fail
  · rename_i q1 q2
    subst hr
    rw [brOf_no fun a n h => by have := (parts a n h).2.1; omega]
    rfl
  · rename_i q1 q2 _ _ _ q3 _ _ _
    obtain ⟨j, rfl⟩ : ∃ j : Nat, i = (j : Int) := ⟨i.toNat, by omega⟩
    rw [e1, show ((j : Int) + 1).toNat = j + 1 from by omega, Int.toNat_natCast]
    have hz : (t.extract (j + 1) t.size).size ≤ 9223372036854775806 := by rw [ByteArray.size_extract]; omega
    refine call_pure rfl (F89_eq hz) (.inl rfl) ?_
    conv => whnf
    have hcj : bt t j = 47 := by
      rcases key with ⟨a, _⟩ | ⟨k, a, b, d, _⟩
      · omega
      · have : k = j := by omega
        rw [← this]
        exact d
    repeat' first
      | (with_reducible refine bo_run ?_); conv => whnf
      | (with_reducible refine bw_run ?_); conv => whnf
      | (with_reducible refine Br.tt ?_); conv => whnf
      | (with_reducible refine Br.ff ?_); conv => whnf
      | (with_reducible refine br_not ?_)
      | (with_reducible refine br_dec_tt (by assumption) ?_); conv => whnf
      | (with_reducible refine br_dec_ff (by assumption) ?_); conv => whnf
      | (with_reducible refine br_dec_intro (fun _ => ?_) (fun _ => ?_)) <;> conv => whnf
      | (with_reducible refine br_beq_tt (by assumption) ?_); conv => whnf
      | (with_reducible refine br_beq_ff (by assumption) ?_); conv => whnf
      | (with_reducible refine br_beq_intro (fun _ => ?_) (fun _ => ?_)) <;> conv => whnf
      | (with_reducible refine br_bne_tt (by assumption) ?_); conv => whnf
      | (with_reducible refine br_bne_ff (by assumption) ?_); conv => whnf
      | (with_reducible refine br_bne_intro (fun _ => ?_) (fun _ => ?_)) <;> conv => whnf
      | (with_reducible refine br_of_true (by assumption) ?_); conv => whnf
      | (with_reducible refine br_of_false (by assumption) ?_); conv => whnf
      | (with_reducible refine br_intro (fun _ => ?_) (fun _ => ?_)) <;> conv => whnf
      | (with_reducible refine and_rfl ?_); conv => whnf
      | (refine and_late (fun _ => ?_) (by first | omega | (show _ = _; rfl) | (simp only [List.length_map, List.length_append, pbytes, Nat.mul_one, List.length_cons, List.length_nil]; done) | (simp only [List.length_map, List.length_append, pbytes, Nat.mul_one, List.length_cons, List.length_nil]; omega))); conv => whnf
      | (with_reducible refine and_late (fun _ => ?_) ?_); conv => whnf
      | (refine call_pure rfl rfl (.inl rfl) ?_); conv => whnf
      | (with_reducible refine Both.mk ?_ ?_) <;> conv => whnf
      | (refine ⟨_, rfl, ?_⟩); conv => whnf
      | (refine ⟨_, unbytes_pbytes _, ?_⟩); conv => whnf
      | exact ⟨_, _, rfl, rfl⟩
      | fail
    · rename_i q4
      subst hr
      rw [brOf_no fun a n h => ?_]
      · rfl
      · have hh := parts a n h
        have : j = a.size := by omega
        subst this
        rw [hh.2.2.2] at q4
        have := h.2.2.1
        omega
    · rename_i q4 q5
      subst hr
      rw [brOf_no fun a n h => ?_]
      · rfl
      · have hh := parts a n h
        have : j = a.size := by omega
        subst this
        rw [hh.2.2.2] at q5
        have := h.2.2.2
        omega
    · rename_i q4 q5 _ _ _
      subst hr
      rw [if_pos q1, size_h] at ht
      rw [brOf_yes (isB_of q1 ht (by omega) hcj q3 rfl (by omega) (by omega))]
      rfl
  · rename_i q1 q2 _ _ _ q3
    obtain ⟨j, rfl⟩ : ∃ j : Nat, i = (j : Int) := ⟨i.toNat, by omega⟩
    subst hr
    rw [brOf_no fun a n h => ?_]
    · rfl
    · have hh := parts a n h
      have : j = a.size := by omega
      subst this
      rw [show t.extract (Int.toNat 0) ((a.size : Int)).toNat = t.extract 0 a.size from rfl, hh.2.2.1, h.2.1] at q3
      cases q3
  · rename_i q1
    subst hr
    rw [brOf_no fun a n h => by rw [(parts a n h).1] at q1; cases q1]
    rfl
  · decide +kernel
/-! the reference tries every run -/
def tail (k : Nat) : ByteArray := ⟨#[47]⟩ ++ strOf (dec k)
theorem tail_bytes (k : Nat) : bytesOf (tail k) = 47 :: dec k := by
  unfold tail
  rw [bytesOf_append, bytesOf_strOf (dec_ok k)]
  rfl
theorem isB_ref {s a : ByteArray} {k : Nat} (h : isB s a k) : s.size = 2 + a.size + (tail k).size ∧ strEq (s.extract (2 + a.size) s.size) (tail k) = true ∧ strEq (s.extract 0 2) ⟨#[104, 47]⟩ = true ∧ s.extract 2 (2 + a.size) = a := by
  obtain ⟨rfl, _, _, _⟩ := h
  have hb := bytesOf_branch a k
  have hs : (branch a k).size = 2 + a.size + (tail k).size := by
    rw [← bytesOf_length, ← bytesOf_length (tail k), ← bytesOf_length a, hb, tail_bytes]
    simp
    omega
  have h3 : bytesOf (branch a k) = ([104, 47] ++ bytesOf a) ++ (47 :: dec k) := by rw [hb]; simp
  have hl : ([104, 47] ++ bytesOf a).length = 2 + a.size := by simp [bytesOf_length]; omega
  refine ⟨hs, ?_, ?_, bytesOf_inj ?_⟩
  · rw [strEq_bytes, decide_eq_true_eq, bytesOf_extract, List.take_of_length_le (by rw [bytesOf_length]; exact Nat.le_refl _), tail_bytes, h3, ← hl, List.drop_left]
  · rw [strEq_bytes, decide_eq_true_eq, bytesOf_extract, hb]
    rfl
  · rw [bytesOf_extract, h3, ← hl, List.take_left]
    rfl
theorem isB_ref_of {s : ByteArray} {n k : Nat} (h0 : 2 ≤ n) (h1 : n + (tail k).size = s.size) (h2 : strEq (s.extract n s.size) (tail k) = true) (h3 : strEq (s.extract 0 2) ⟨#[104, 47]⟩ = true) (h4 : nameR (s.extract 2 n) = true) (k1 : 1 ≤ k) (k2 : k ≤ 10) : isB s (s.extract 2 n) k := by
  refine ⟨bytesOf_inj ?_, by rw [name_eq]; exact h4, k1, k2⟩
  rw [strEq_bytes, decide_eq_true_eq, bytesOf_extract, List.take_of_length_le (by rw [bytesOf_length]; exact Nat.le_refl _), tail_bytes] at h2
  rw [strEq_bytes, decide_eq_true_eq, bytesOf_extract, List.drop_zero] at h3
  rw [bytesOf_branch, bytesOf_extract]
  have e : [104, 47] = (bytesOf s).take 2 := h3.symm
  have e2 : (bytesOf s).take n = (bytesOf s).take 2 ++ ((bytesOf s).take n).drop 2 := by
    conv => lhs; rw [← List.take_append_drop 2 ((bytesOf s).take n)]
    rw [List.take_take, Nat.min_eq_left h0]
  conv => lhs; rw [← List.take_append_drop n (bytesOf s), h2, e2, ← e]
  simp
theorem con47 : Contract Try.prog 47 (DetP F46) := by
  refine contract_pure (Known.cons con68' (Known.cons con16 Known.nil)) Try.func47 (by kernel_rfl) rfl comp47 rfl (by kernel_rfl) ?_
  intro ps p h
  obtain ⟨s, hs, rfl, rfl⟩ := F46_some h
  refine ⟨(by decide : 1 ≤ Try.f47.ntmps), ?_⟩
  clear h
  generalize hr : brOf s = r
  repeat' first
    | (with_reducible refine bo_run ?_); conv => whnf
    | (with_reducible refine bw_run ?_); conv => whnf
    | (with_reducible refine Br.tt ?_); conv => whnf
    | (with_reducible refine Br.ff ?_); conv => whnf
    | (with_reducible refine br_not ?_)
    | (with_reducible refine br_dec_tt (by assumption) ?_); conv => whnf
    | (with_reducible refine br_dec_ff (by assumption) ?_); conv => whnf
    | (with_reducible refine br_dec_intro (fun _ => ?_) (fun _ => ?_)) <;> conv => whnf
    | (with_reducible refine br_beq_tt (by assumption) ?_); conv => whnf
    | (with_reducible refine br_beq_ff (by assumption) ?_); conv => whnf
    | (with_reducible refine br_beq_intro (fun _ => ?_) (fun _ => ?_)) <;> conv => whnf
    | (with_reducible refine br_bne_tt (by assumption) ?_); conv => whnf
    | (with_reducible refine br_bne_ff (by assumption) ?_); conv => whnf
    | (with_reducible refine br_bne_intro (fun _ => ?_) (fun _ => ?_)) <;> conv => whnf
    | (with_reducible refine br_of_true (by assumption) ?_); conv => whnf
    | (with_reducible refine br_of_false (by assumption) ?_); conv => whnf
    | (with_reducible refine br_intro (fun _ => ?_) (fun _ => ?_)) <;> conv => whnf
    | (with_reducible refine and_rfl ?_); conv => whnf
    | (refine and_late (fun _ => ?_) (by first | omega | (show _ = _; rfl) | (simp only [List.length_map, List.length_append, pbytes, Nat.mul_one, List.length_cons, List.length_nil]; done) | (simp only [List.length_map, List.length_append, pbytes, Nat.mul_one, List.length_cons, List.length_nil]; omega))); conv => whnf
    | (with_reducible refine and_late (fun _ => ?_) ?_); conv => whnf
    | (refine call_pure rfl rfl (.inl rfl) ?_); conv => whnf
    | (with_reducible refine Both.mk ?_ ?_) <;> conv => whnf
    | (refine ⟨_, rfl, ?_⟩); conv => whnf
    | (refine ⟨_, unbytes_pbytes _, ?_⟩); conv => whnf
    | exact ⟨_, _, rfl, rfl⟩
    | fail
  refine bw_loop (α := Nat) (fun k => [(0, .pu (.val (.string s))), (5, .pu (.val (.int .i64 (k : Int))))]) (fun _ => []) (fun k => 1 ≤ k ∧ k ≤ 11 ∧ ∀ a n, isB s a n → k ≤ n) (fun k => 11 - k) 1 rfl rfl ⟨by omega, by omega, fun a n h => h.2.2.1⟩ ?_
  rintro k ⟨k1, k2, k3⟩
  have f67 : F67 [.val (.int .i64 (k : Int))] = some (.val (.string (strOf (dec k)))) := by
    unfold F67
    simp only
    rw [if_pos (by omega)]
    rfl
  have hd := dec_size k (by omega)
  have hz : (⟨#[47]⟩ : ByteArray).size = 1 := rfl
  have ht : (tail k).size = 1 + (strOf (dec k)).size := by unfold tail; rw [ByteArray.size_append, hz]
  have e0 : (⟨#[47]⟩ ++ strOf (dec k) : ByteArray) = tail k := rfl
  have e1 : IntKind.i64.wrap ((s.size : Int) - ((⟨#[47]⟩ ++ strOf (dec k) : ByteArray).size : Int)) = (s.size : Int) - ((⟨#[47]⟩ ++ strOf (dec k) : ByteArray).size : Int) := i64_in _ (by rw [e0]; omega)
  have e2 : IntKind.i64.wrap ((k : Int) + 1) = ((k + 1 : Nat) : Int) := by rw [i64_in _ (by omega)]; rfl
  have step : (∀ a, ¬ isB s a k) → ∀ a n, isB s a n → k + 1 ≤ n := fun no a n h => by
    rcases Nat.lt_or_ge k n with q | q
    · omega
    · have : n = k := by have := k3 a n h; omega
      subst this
      exact absurd h (no a)
  repeat' first
    | (with_reducible refine bo_run ?_); conv => whnf
    | (with_reducible refine bw_run ?_); conv => whnf
    | (with_reducible refine Br.tt ?_); conv => whnf
    | (with_reducible refine Br.ff ?_); conv => whnf
    | (with_reducible refine br_not ?_)
    | (with_reducible refine br_dec_tt (by assumption) ?_); conv => whnf
    | (with_reducible refine br_dec_ff (by assumption) ?_); conv => whnf
    | (with_reducible refine br_dec_intro (fun _ => ?_) (fun _ => ?_)) <;> conv => whnf
    | (with_reducible refine br_beq_tt (by assumption) ?_); conv => whnf
    | (with_reducible refine br_beq_ff (by assumption) ?_); conv => whnf
    | (with_reducible refine br_beq_intro (fun _ => ?_) (fun _ => ?_)) <;> conv => whnf
    | (with_reducible refine br_bne_tt (by assumption) ?_); conv => whnf
    | (with_reducible refine br_bne_ff (by assumption) ?_); conv => whnf
    | (with_reducible refine br_bne_intro (fun _ => ?_) (fun _ => ?_)) <;> conv => whnf
    | (with_reducible refine br_of_true (by assumption) ?_); conv => whnf
    | (with_reducible refine br_of_false (by assumption) ?_); conv => whnf
    | (with_reducible refine br_intro (fun _ => ?_) (fun _ => ?_)) <;> conv => whnf
    | (with_reducible refine and_rfl ?_); conv => whnf
    | (refine and_late (fun _ => ?_) (by first | omega | (show _ = _; rfl) | (simp only [List.length_map, List.length_append, pbytes, Nat.mul_one, List.length_cons, List.length_nil]; done) | (simp only [List.length_map, List.length_append, pbytes, Nat.mul_one, List.length_cons, List.length_nil]; omega))); conv => whnf
    | (with_reducible refine and_late (fun _ => ?_) ?_); conv => whnf
    | (refine call_pure rfl rfl (.inl rfl) ?_); conv => whnf
    | (with_reducible refine Both.mk ?_ ?_) <;> conv => whnf
    | (refine ⟨_, rfl, ?_⟩); conv => whnf
    | (refine ⟨_, unbytes_pbytes _, ?_⟩); conv => whnf
    | exact ⟨_, _, rfl, rfl⟩
    | fail
  · refine call_pure rfl f67 (.inl rfl) ?_
    conv => whnf
    repeat' first
      | (with_reducible refine bo_run ?_); conv => whnf
      | (with_reducible refine bw_run ?_); conv => whnf
      | (with_reducible refine Br.tt ?_); conv => whnf
      | (with_reducible refine Br.ff ?_); conv => whnf
      | (with_reducible refine br_not ?_)
      | (with_reducible refine br_dec_tt (by assumption) ?_); conv => whnf
      | (with_reducible refine br_dec_ff (by assumption) ?_); conv => whnf
      | (with_reducible refine br_dec_intro (fun _ => ?_) (fun _ => ?_)) <;> conv => whnf
      | (with_reducible refine br_beq_tt (by assumption) ?_); conv => whnf
      | (with_reducible refine br_beq_ff (by assumption) ?_); conv => whnf
      | (with_reducible refine br_beq_intro (fun _ => ?_) (fun _ => ?_)) <;> conv => whnf
      | (with_reducible refine br_bne_tt (by assumption) ?_); conv => whnf
      | (with_reducible refine br_bne_ff (by assumption) ?_); conv => whnf
      | (with_reducible refine br_bne_intro (fun _ => ?_) (fun _ => ?_)) <;> conv => whnf
      | (with_reducible refine br_of_true (by assumption) ?_); conv => whnf
      | (with_reducible refine br_of_false (by assumption) ?_); conv => whnf
      | (with_reducible refine br_intro (fun _ => ?_) (fun _ => ?_)) <;> conv => whnf
      | (with_reducible refine and_rfl ?_); conv => whnf
      | (refine and_late (fun _ => ?_) (by first | omega | (show _ = _; rfl) | (simp only [List.length_map, List.length_append, pbytes, Nat.mul_one, List.length_cons, List.length_nil]; done) | (simp only [List.length_map, List.length_append, pbytes, Nat.mul_one, List.length_cons, List.length_nil]; omega))); conv => whnf
      | (with_reducible refine and_late (fun _ => ?_) ?_); conv => whnf
      | (refine call_pure rfl rfl (.inl rfl) ?_); conv => whnf
      | (with_reducible refine Both.mk ?_ ?_) <;> conv => whnf
      | (refine ⟨_, rfl, ?_⟩); conv => whnf
      | (refine ⟨_, unbytes_pbytes _, ?_⟩); conv => whnf
      | exact ⟨_, _, rfl, rfl⟩
      | fail
    · rename_i q1 _ _ _ q2 _ _ _ q3 _ _ _ q4 _ _ _
      obtain ⟨E, hE⟩ : ∃ E : Int, E = (s.size : Int) - (tail k).size := ⟨_, rfl⟩
      rw [e1, e0, ← hE] at q2 q4
      rw [e1, e0, ← hE]
      obtain ⟨n, rfl⟩ : ∃ n : Nat, E = n := ⟨E.toNat, by rw [e1, e0] at q1; omega⟩
      rw [Int.toNat_natCast] at q2 q4 ⊢
      subst hr
      rw [brOf_yes (isB_ref_of (n := n) (by rw [e1, e0] at q1; omega) (by omega) q2 q3 q4 k1 (by omega))]
      rfl
    · rename_i q1 _ _ _ q2 _ _ _ q3 _ _ _ q4
      refine ⟨_, ?_, k + 1, ⟨by omega, by omega, step fun a h => ?_⟩, rfl, by rw [e2]; rfl, rfl⟩
      · omega
      · obtain ⟨r1, r2, r3, r4⟩ := isB_ref h
        rw [e1, e0, show ((s.size : Int) - (tail k).size) = ((2 + a.size : Nat) : Int) from by omega, Int.toNat_natCast, show s.extract (Int.toNat 2) (2 + a.size) = a from r4, ← name_eq, h.2.1] at q4
        cases q4
    · rename_i q1 _ _ _ q2 _ _ _ q3
      refine ⟨_, ?_, k + 1, ⟨by omega, by omega, step fun a h => ?_⟩, rfl, by rw [e2]; rfl, rfl⟩
      · omega
      · obtain ⟨r1, r2, r3, r4⟩ := isB_ref h
        rw [show strEq (s.extract (Int.toNat 0) (Int.toNat 2)) ⟨#[104, 47]⟩ = true from r3] at q3
        cases q3
    · rename_i q1 _ _ _ q2
      refine ⟨_, ?_, k + 1, ⟨by omega, by omega, step fun a h => ?_⟩, rfl, by rw [e2]; rfl, rfl⟩
      · omega
      · obtain ⟨r1, r2, r3, r4⟩ := isB_ref h
        rw [e1, e0, show ((s.size : Int) - (tail k).size) = ((2 + a.size : Nat) : Int) from by omega, Int.toNat_natCast, Int.toNat_natCast, r2] at q2
        cases q2
    · rename_i q1
      refine ⟨_, ?_, k + 1, ⟨by omega, by omega, step fun a h => ?_⟩, rfl, by rw [e2]; rfl, rfl⟩
      · omega
      · obtain ⟨r1, r2, r3, r4⟩ := isB_ref h
        rw [e1, e0] at q1
        omega
  · rename_i q
    subst hr
    rw [brOf_no fun a n h => by have := k3 a n h; have := h.2.2.2; omega]
    rfl
end Go.Proofs.Ytdjgfjnnafddnaa
