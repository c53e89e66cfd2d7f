/- usher/names and its reference: what is a name. -/
import Derived.Test.YtdjgfjnnafddnaaCode
import Derived.IntWalk
set_option linter.unusedVariables false
set_option linter.unusedSimpArgs false
set_option maxRecDepth 20000
namespace Go.Proofs.Ytdjgfjnnafddnaa
open Go Go.Vm Go.IntWalk

/-! ### names.inner, names.first -/
def inner (c : Int) : Bool :=
  decide (c ≥ 48) && decide (c ≤ 57) || decide (bitsI .or .u8 c 32 ≥ 97) && decide (bitsI .or .u8 c 32 ≤ 122) || c == 95 || c == 45 || c == 46
def F65 : List PV → Option PV
  | [.val (.int .u8 c)] => some (.val (.bool (inner c)))
  | _ => none
theorem F65_some {ps p} (h : F65 ps = some p) : ∃ c, ps = [.val (.int .u8 c)] ∧ p = .val (.bool (inner c)) := by
  unfold F65 at h
  split at h
  · rename_i c; exact ⟨c, rfl, by simpa using h.symm⟩
  · cases h
theorem con65 : Contract Try.prog 65 (DetP F65) := by
  refine contract_pure Known.nil Try.func65 (by kernel_rfl) rfl comp65 rfl (by kernel_rfl) ?_
  intro ps p h
  obtain ⟨c, rfl, rfl⟩ := F65_some h
  refine ⟨(by decide : 1 ≤ Try.f65.ntmps), ?_⟩
  clear h
  generalize hr : inner c = r
  repeat' first
    | (with_reducible refine bo_run ?_); conv => whnf
    | (with_reducible refine bw_run ?_); conv => whnf
    | (with_reducible refine Br.tt ?_); conv => whnf
    | (with_reducible refine Br.ff ?_); conv => whnf
    | (with_reducible refine br_not ?_)
    | (with_reducible refine br_dec_tt (by assumption) ?_); conv => whnf
    | (with_reducible refine br_dec_ff (by assumption) ?_); conv => whnf
    | (with_reducible refine br_dec_intro (fun _ => ?_) (fun _ => ?_)) <;> conv => whnf
    | (with_reducible refine br_beq_tt (by assumption) ?_); conv => whnf
    | (with_reducible refine br_beq_ff (by assumption) ?_); conv => whnf
    | (with_reducible refine br_beq_intro (fun _ => ?_) (fun _ => ?_)) <;> conv => whnf
    | (with_reducible refine br_bne_tt (by assumption) ?_); conv => whnf
    | (with_reducible refine br_bne_ff (by assumption) ?_); conv => whnf
    | (with_reducible refine br_bne_intro (fun _ => ?_) (fun _ => ?_)) <;> conv => whnf
    | (with_reducible refine br_of_true (by assumption) ?_); conv => whnf
    | (with_reducible refine br_of_false (by assumption) ?_); conv => whnf
    | (with_reducible refine br_intro (fun _ => ?_) (fun _ => ?_)) <;> conv => whnf
    | (with_reducible refine and_rfl ?_); conv => whnf
    | (with_reducible refine and_late (fun _ => ?_) (by first | omega | (show _ = _; rfl))); conv => whnf
    | (with_reducible refine and_late (fun _ => ?_) ?_); conv => whnf
    | (refine call_pure rfl rfl (.inl rfl) ?_); conv => whnf
    | (refine ⟨_, rfl, ?_⟩); conv => whnf
  all_goals subst hr
  all_goals simp_all [inner, packRes]
  all_goals omega
def first (c : Int) : Bool := inner c && c != 45 && c != 46
def F64 : List PV → Option PV
  | [.val (.int .u8 c)] => some (.val (.bool (first c)))
  | _ => none
theorem F64_some {ps p} (h : F64 ps = some p) : ∃ c, ps = [.val (.int .u8 c)] ∧ p = .val (.bool (first c)) := by
  unfold F64 at h
  split at h
  · rename_i c; exact ⟨c, rfl, by simpa using h.symm⟩
  · cases h
theorem con64 : Contract Try.prog 64 (DetP F64) := by
  refine contract_pure (Known.cons con65 Known.nil) Try.func64 (by kernel_rfl) rfl comp64 rfl (by kernel_rfl) ?_
  intro ps p h
  obtain ⟨c, rfl, rfl⟩ := F64_some h
  refine ⟨(by decide : 1 ≤ Try.f64.ntmps), ?_⟩
  clear h
  generalize hr : first c = r
  repeat' first
    | (with_reducible refine bo_run ?_); conv => whnf
    | (with_reducible refine bw_run ?_); conv => whnf
    | (with_reducible refine Br.tt ?_); conv => whnf
    | (with_reducible refine Br.ff ?_); conv => whnf
    | (with_reducible refine br_not ?_)
    | (with_reducible refine br_dec_tt (by assumption) ?_); conv => whnf
    | (with_reducible refine br_dec_ff (by assumption) ?_); conv => whnf
    | (with_reducible refine br_dec_intro (fun _ => ?_) (fun _ => ?_)) <;> conv => whnf
    | (with_reducible refine br_beq_tt (by assumption) ?_); conv => whnf
    | (with_reducible refine br_beq_ff (by assumption) ?_); conv => whnf
    | (with_reducible refine br_beq_intro (fun _ => ?_) (fun _ => ?_)) <;> conv => whnf
    | (with_reducible refine br_bne_tt (by assumption) ?_); conv => whnf
    | (with_reducible refine br_bne_ff (by assumption) ?_); conv => whnf
    | (with_reducible refine br_bne_intro (fun _ => ?_) (fun _ => ?_)) <;> conv => whnf
    | (with_reducible refine br_of_true (by assumption) ?_); conv => whnf
    | (with_reducible refine br_of_false (by assumption) ?_); conv => whnf
    | (with_reducible refine br_intro (fun _ => ?_) (fun _ => ?_)) <;> conv => whnf
    | (with_reducible refine and_rfl ?_); conv => whnf
    | (with_reducible refine and_late (fun _ => ?_) (by first | omega | (show _ = _; rfl))); conv => whnf
    | (with_reducible refine and_late (fun _ => ?_) ?_); conv => whnf
    | (refine call_pure rfl rfl (.inl rfl) ?_); conv => whnf
    | (refine ⟨_, rfl, ?_⟩); conv => whnf
  all_goals subst hr
  all_goals simp_all [first, packRes]
def letter (c : Int) : Bool :=
  decide (c ≥ 97) && decide (c ≤ 122) || decide (c ≥ 65) && decide (c ≤ 90) || decide (c ≥ 48) && decide (c ≤ 57) || c == 45 || c == 95 || c == 46
def F66 : List PV → Option PV
  | [.val (.int .u8 c)] => some (.val (.bool (letter c)))
  | _ => none
theorem F66_some {ps p} (h : F66 ps = some p) : ∃ c, ps = [.val (.int .u8 c)] ∧ p = .val (.bool (letter c)) := by
  unfold F66 at h
  split at h
  · rename_i c; exact ⟨c, rfl, by simpa using h.symm⟩
  · cases h
theorem con66 : Contract Try.prog 66 (DetP F66) := by
  refine contract_pure Known.nil Try.func66 (by kernel_rfl) rfl comp66 rfl (by kernel_rfl) ?_
  intro ps p h
  obtain ⟨c, rfl, rfl⟩ := F66_some h
  refine ⟨(by decide : 1 ≤ Try.f66.ntmps), ?_⟩
  clear h
  generalize hr : letter c = r
  repeat' first
    | (with_reducible refine bo_run ?_); conv => whnf
    | (with_reducible refine bw_run ?_); conv => whnf
    | (with_reducible refine Br.tt ?_); conv => whnf
    | (with_reducible refine Br.ff ?_); conv => whnf
    | (with_reducible refine br_not ?_)
    | (with_reducible refine br_dec_tt (by assumption) ?_); conv => whnf
    | (with_reducible refine br_dec_ff (by assumption) ?_); conv => whnf
    | (with_reducible refine br_dec_intro (fun _ => ?_) (fun _ => ?_)) <;> conv => whnf
    | (with_reducible refine br_beq_tt (by assumption) ?_); conv => whnf
    | (with_reducible refine br_beq_ff (by assumption) ?_); conv => whnf
    | (with_reducible refine br_beq_intro (fun _ => ?_) (fun _ => ?_)) <;> conv => whnf
    | (with_reducible refine br_bne_tt (by assumption) ?_); conv => whnf
    | (with_reducible refine br_bne_ff (by assumption) ?_); conv => whnf
    | (with_reducible refine br_bne_intro (fun _ => ?_) (fun _ => ?_)) <;> conv => whnf
    | (with_reducible refine br_of_true (by assumption) ?_); conv => whnf
    | (with_reducible refine br_of_false (by assumption) ?_); conv => whnf
    | (with_reducible refine br_intro (fun _ => ?_) (fun _ => ?_)) <;> conv => whnf
    | (with_reducible refine and_rfl ?_); conv => whnf
    | (with_reducible refine and_late (fun _ => ?_) (by first | omega | (show _ = _; rfl))); conv => whnf
    | (with_reducible refine and_late (fun _ => ?_) ?_); conv => whnf
    | (refine call_pure rfl rfl (.inl rfl) ?_); conv => whnf
    | (refine ⟨_, rfl, ?_⟩); conv => whnf
  all_goals subst hr
  all_goals simp_all [letter, packRes]
  all_goals omega
theorem inner_letter (n : Nat) (h : n < 256) : inner (n : Int) = letter (n : Int) := by
  have : ∀ n : Fin 256, inner (n.val : Int) = letter (n.val : Int) := by decide +kernel
  exact this ⟨n, h⟩

/-! ### Name -/
def allB (f : Int → Bool) (s : ByteArray) : Bool := decide (∀ i, i < s.size → f (bt s i) = true)
def name (s : ByteArray) : Bool := decide (0 < s.size) && decide (s.size ≤ 24) && first (bt s 0) && allB inner s
def F15 : List PV → Option PV
  | [.val (.string s)] => some (.val (.bool (name s)))
  | _ => none
theorem F15_some {ps p} (h : F15 ps = some p) : ∃ s, ps = [.val (.string s)] ∧ p = .val (.bool (name s)) := by
  unfold F15 at h
  split at h
  · rename_i c; exact ⟨c, rfl, by simpa using h.symm⟩
  · cases h
theorem strEq_iff (s t : ByteArray) : strEq s t = true ↔ s = t := by
  unfold strEq
  simp only [beq_iff_eq]
  constructor
  · intro h
    have e : ∀ u : ByteArray, u.toList = u.data.toList := fun u => ByteArray.toList_eq u
    rw [e, e] at h
    cases s; cases t
    simp only [ByteArray.mk.injEq]
    exact Array.ext' h
  · rintro rfl; rfl
theorem strEq_nil (s : ByteArray) : strEq s ⟨#[]⟩ = decide (s.size = 0) := by
  rw [Bool.eq_iff_iff, strEq_iff, decide_eq_true_eq]
  constructor
  · rintro rfl; rfl
  · intro h
    cases s with
    | mk d => simp only [ByteArray.mk.injEq]; exact Array.eq_empty_of_size_eq_zero h
theorem con15 : Contract Try.prog 15 (DetP F15) := by
  refine contract_pure (Known.cons con64 (Known.cons con65 Known.nil)) Try.func15 (by kernel_rfl) rfl comp15 rfl (by kernel_rfl) ?_
  intro ps p h
  obtain ⟨s, rfl, rfl⟩ := F15_some h
  refine ⟨(by decide : 1 ≤ Try.f15.ntmps), ?_⟩
  clear h
  generalize hr : name s = r
  repeat' first
    | (with_reducible refine bo_run ?_); conv => whnf
    | (with_reducible refine bw_run ?_); conv => whnf
    | (with_reducible refine Br.tt ?_); conv => whnf
    | (with_reducible refine Br.ff ?_); conv => whnf
    | (with_reducible refine br_not ?_)
    | (with_reducible refine br_dec_tt (by assumption) ?_); conv => whnf
    | (with_reducible refine br_dec_ff (by assumption) ?_); conv => whnf
    | (with_reducible refine br_dec_intro (fun _ => ?_) (fun _ => ?_)) <;> conv => whnf
    | (with_reducible refine br_beq_tt (by assumption) ?_); conv => whnf
    | (with_reducible refine br_beq_ff (by assumption) ?_); conv => whnf
    | (with_reducible refine br_beq_intro (fun _ => ?_) (fun _ => ?_)) <;> conv => whnf
    | (with_reducible refine br_bne_tt (by assumption) ?_); conv => whnf
    | (with_reducible refine br_bne_ff (by assumption) ?_); conv => whnf
    | (with_reducible refine br_bne_intro (fun _ => ?_) (fun _ => ?_)) <;> conv => whnf
    | (with_reducible refine br_of_true (by assumption) ?_); conv => whnf
    | (with_reducible refine br_of_false (by assumption) ?_); conv => whnf
    | (with_reducible refine br_intro (fun _ => ?_) (fun _ => ?_)) <;> conv => whnf
    | (with_reducible refine and_rfl ?_); conv => whnf
    | (with_reducible refine and_late (fun _ => ?_) (by first | omega | (show _ = _; rfl))); conv => whnf
    | (with_reducible refine and_late (fun _ => ?_) ?_); conv => whnf
    | (refine call_pure rfl rfl (.inl rfl) ?_); conv => whnf
    | (refine ⟨_, rfl, ?_⟩); conv => whnf
  · subst hr; rename_i h1; rw [strEq_nil] at h1; simp_all [name, packRes]
  · subst hr; rename_i h1 h2; simp [name, packRes]; omega
  · rename_i h1 h2 h3 h4
    rw [strEq_nil] at h1
    refine bw_loop (α := Nat) (fun i => [(0, .pu (.val (.string s))), (3, .pu (.val (.bool (first (bt s 0))))), (16, .pu (.val (.int .i64 s.size))), (17, .pu (.val (.int .i64 i)))]) (fun _ => [])
      (fun i => i ≤ s.size ∧ ∀ j, j < i → inner (bt s j) = true) (fun i => s.size - i) 0 rfl rfl ⟨Nat.zero_le _, fun j hj => absurd hj (Nat.not_lt_zero _)⟩ ?_
    rintro i ⟨hi, hall⟩
    repeat' first
      | (with_reducible refine bo_run ?_); conv => whnf
      | (with_reducible refine bw_run ?_); conv => whnf
      | (with_reducible refine Br.tt ?_); conv => whnf
      | (with_reducible refine Br.ff ?_); conv => whnf
      | (with_reducible refine br_not ?_)
      | (with_reducible refine br_dec_tt (by assumption) ?_); conv => whnf
      | (with_reducible refine br_dec_ff (by assumption) ?_); conv => whnf
      | (with_reducible refine br_dec_intro (fun _ => ?_) (fun _ => ?_)) <;> conv => whnf
      | (with_reducible refine br_beq_tt (by assumption) ?_); conv => whnf
      | (with_reducible refine br_beq_ff (by assumption) ?_); conv => whnf
      | (with_reducible refine br_beq_intro (fun _ => ?_) (fun _ => ?_)) <;> conv => whnf
      | (with_reducible refine br_bne_tt (by assumption) ?_); conv => whnf
      | (with_reducible refine br_bne_ff (by assumption) ?_); conv => whnf
      | (with_reducible refine br_bne_intro (fun _ => ?_) (fun _ => ?_)) <;> conv => whnf
      | (with_reducible refine br_of_true (by assumption) ?_); conv => whnf
      | (with_reducible refine br_of_false (by assumption) ?_); conv => whnf
      | (with_reducible refine br_intro (fun _ => ?_) (fun _ => ?_)) <;> conv => whnf
      | (with_reducible refine and_rfl ?_); conv => whnf
      | (with_reducible refine and_late (fun _ => ?_) (by first | omega | (show _ = _; rfl))); conv => whnf
      | (with_reducible refine and_late (fun _ => ?_) ?_); conv => whnf
      | (refine call_pure rfl rfl (.inl rfl) ?_); conv => whnf
      | (refine ⟨_, rfl, ?_⟩); conv => whnf
    · rename_i q4
      refine ⟨_, ?_, i + 1, ⟨by omega, fun j hj => ?_⟩, rfl, ?_, rfl⟩
      · omega
      · rcases Nat.lt_succ_iff_lt_or_eq.1 hj with hj | rfl
        · exact hall j hj
        · simpa using q4
      · rw [i64_in _ (by omega)]; rfl
    · rename_i q4
      subst hr
      simp at q4
      simp only [packRes, name, AV.pu.injEq, PV.val.injEq, Value.bool.injEq]
      have : allB inner s = false := by
        unfold allB
        rw [decide_eq_false_iff_not]
        intro hh
        have := hh i (by omega)
        rw [q4] at this
        cases this
      simp [this]
    · subst hr
      have : allB inner s = true := by
        unfold allB
        rw [decide_eq_true_eq]
        exact fun j hj => hall j (by omega)
      simp [packRes, name, this]
      omega
  · rename_i h1 h2 h3
    rw [strEq_nil] at h1
    have h0 : s.size ≠ 0 := by simpa using h1
    omega
end Go.Proofs.Ytdjgfjnnafddnaa
