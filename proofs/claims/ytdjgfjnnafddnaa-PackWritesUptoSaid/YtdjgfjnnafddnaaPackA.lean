/- Rows of bytes: bytes.Clone, bytes.Equal, copies with room; usher/pack, the small functions. -/
import Derived.Test.YtdjgfjnnafddnaaCodeP
import Derived.IntWalk
set_option linter.unusedVariables false
set_option linter.unusedSimpArgs false
set_option maxRecDepth 20000
namespace Go.Proofs.Ytdjgfjnnafddnaa
open Go Go.Vm Go.IntWalk

/-- the bytes that a slice has -/
def asB : PV → Option (List Int)
  | .val (.slice none 0 0) => some []
  | .sl n cs => match unbytes cs with
    | some xs => if xs.length = n then some xs else none
    | none => none
  | _ => none
theorem asB_some {p : PV} {xs : List Int} (h : asB p = some xs) : (p = .val (.slice none 0 0) ∧ xs = []) ∨ p = .sl xs.length (pbytes xs) := by
  unfold asB at h
  split at h
  · exact .inl ⟨rfl, by simpa using h.symm⟩
  · split at h
    · rename_i h1
      split at h
      · rename_i h2
        simp only [Option.some.injEq] at h
        subst h h2
        exact .inr (by rw [unbytes_some h1])
      · cases h
    · cases h
  · cases h
theorem asB_sl (xs : List Int) : asB (.sl xs.length (pbytes xs)) = some xs := by simp [asB, unbytes_pbytes]
theorem pbytes_length (xs : List Int) : (pbytes xs).length = xs.length := by simp [pbytes]

noncomputable def F25 : List PV → Option PV
  | [p, q] => match asB p, asB q with
    | some xs, some ys => some (.val (.bool (strEq (strOf xs) (strOf ys))))
    | _, _ => none
  | _ => none
theorem F25_some {ps p} (h : F25 ps = some p) : ∃ a b xs ys, asB a = some xs ∧ asB b = some ys ∧ ps = [a, b] ∧ p = .val (.bool (strEq (strOf xs) (strOf ys))) := by
  unfold F25 at h
  split at h
  · split at h
    · rename_i a b _ _ xs ys h1 h2
      exact ⟨a, b, xs, ys, h1, h2, rfl, by simpa using h.symm⟩
    · cases h
  · cases h
theorem con25 : Contract Try.prog 25 (DetP F25) := by
  refine contract_pure Known.nil Try.func25 (by kernel_rfl) rfl comp25 rfl (by kernel_rfl) ?_
  intro ps p h
  obtain ⟨a, b, xs, ys, ha, hb, rfl, rfl⟩ := F25_some h
  refine ⟨(by decide : 2 ≤ Try.f25.ntmps), ?_⟩
  clear h
  generalize hr : strEq (strOf xs) (strOf ys) = r
  rcases asB_some ha with ⟨rfl, rfl⟩ | rfl <;> rcases asB_some hb with ⟨rfl, rfl⟩ | rfl
  all_goals
    repeat' first
      | (with_reducible refine bo_run ?_); conv => whnf
      | (with_reducible refine bw_run ?_); conv => whnf
      | (with_reducible refine Br.tt ?_); conv => whnf
      | (with_reducible refine Br.ff ?_); conv => whnf
      | (with_reducible refine br_not ?_)
      | (with_reducible refine br_dec_tt (by assumption) ?_); conv => whnf
      | (with_reducible refine br_dec_ff (by assumption) ?_); conv => whnf
      | (with_reducible refine br_dec_intro (fun _ => ?_) (fun _ => ?_)) <;> conv => whnf
      | (with_reducible refine br_beq_tt (by assumption) ?_); conv => whnf
      | (with_reducible refine br_beq_ff (by assumption) ?_); conv => whnf
      | (with_reducible refine br_beq_intro (fun _ => ?_) (fun _ => ?_)) <;> conv => whnf
      | (with_reducible refine br_bne_tt (by assumption) ?_); conv => whnf
      | (with_reducible refine br_bne_ff (by assumption) ?_); conv => whnf
      | (with_reducible refine br_bne_intro (fun _ => ?_) (fun _ => ?_)) <;> conv => whnf
      | (with_reducible refine br_of_true (by assumption) ?_); conv => whnf
      | (with_reducible refine br_of_false (by assumption) ?_); conv => whnf
      | (with_reducible refine br_intro (fun _ => ?_) (fun _ => ?_)) <;> conv => whnf
      | (with_reducible refine and_rfl ?_); conv => whnf
      | (refine and_late (fun _ => ?_) (by first | omega | (show _ = _; rfl) | (simp only [List.length_map, List.length_append, pbytes, Nat.mul_one, List.length_cons, List.length_nil]; done) | (simp only [List.length_map, List.length_append, pbytes, Nat.mul_one, List.length_cons, List.length_nil]; omega))); conv => whnf
      | (with_reducible refine and_late (fun _ => ?_) ?_); conv => whnf
      | (refine call_pure rfl rfl (.inl rfl) ?_); conv => whnf
      | (with_reducible refine Both.mk ?_ ?_) <;> conv => whnf
      | (refine ⟨_, rfl, ?_⟩); conv => whnf
      | (refine ⟨_, unbytes_pbytes _, ?_⟩); conv => whnf
      | exact ⟨_, _, rfl, rfl⟩
      | fail
  all_goals subst hr
  all_goals rfl
/-- a fresh row of bytes -/
def fresh (xs : List Int) : TypeId × Nat × Nat × List PV := (5, xs.length, 1, pbytes xs)
noncomputable def F24 : List PV → Option (TypeId × Nat × Nat × List PV)
  | [p] => match asB p with
    | some xs => chk (xs.length ≤ 1073741824) (some (fresh xs))
    | none => none
  | _ => none
theorem F24_some {ps e n sz cs} (h : F24 ps = some (e, n, sz, cs)) : ∃ a xs, asB a = some xs ∧ xs.length ≤ 1073741824 ∧ ps = [a] ∧ e = 5 ∧ n = xs.length ∧ sz = 1 ∧ cs = pbytes xs := by
  unfold F24 at h
  split at h
  · split at h
    · rename_i a _ xs h1
      obtain ⟨h2, h⟩ := chk_some h
      simp only [fresh, Option.some.injEq, Prod.mk.injEq] at h
      obtain ⟨rfl, rfl, rfl, rfl⟩ := h
      exact ⟨a, xs, h1, h2, rfl, rfl, rfl, rfl, rfl⟩
    · cases h
  · cases h
theorem con72 : Contract Try.prog 72 (DetO F24) := by
  refine contract_own Known.nil Try.func72 (by kernel_rfl) rfl comp72 rfl (by kernel_rfl) ?_
  intro ps e n sz cs h
  obtain ⟨a, xs, ha, hx, rfl, rfl, rfl, rfl, rfl⟩ := F24_some h
  refine ⟨(by decide : 1 ≤ Try.f72.ntmps), ?_⟩
  clear h
  rcases asB_some ha with ⟨rfl, rfl⟩ | rfl
  all_goals
    repeat' first
      | (with_reducible refine bo_run ?_); conv => whnf
      | (with_reducible refine bw_run ?_); conv => whnf
      | (with_reducible refine Br.tt ?_); conv => whnf
      | (with_reducible refine Br.ff ?_); conv => whnf
      | (with_reducible refine br_not ?_)
      | (with_reducible refine br_dec_tt (by assumption) ?_); conv => whnf
      | (with_reducible refine br_dec_ff (by assumption) ?_); conv => whnf
      | (with_reducible refine br_dec_intro (fun _ => ?_) (fun _ => ?_)) <;> conv => whnf
      | (with_reducible refine br_beq_tt (by assumption) ?_); conv => whnf
      | (with_reducible refine br_beq_ff (by assumption) ?_); conv => whnf
      | (with_reducible refine br_beq_intro (fun _ => ?_) (fun _ => ?_)) <;> conv => whnf
      | (with_reducible refine br_bne_tt (by assumption) ?_); conv => whnf
      | (with_reducible refine br_bne_ff (by assumption) ?_); conv => whnf
      | (with_reducible refine br_bne_intro (fun _ => ?_) (fun _ => ?_)) <;> conv => whnf
      | (with_reducible refine br_of_true (by assumption) ?_); conv => whnf
      | (with_reducible refine br_of_false (by assumption) ?_); conv => whnf
      | (with_reducible refine br_intro (fun _ => ?_) (fun _ => ?_)) <;> conv => whnf
      | (with_reducible refine and_rfl ?_); conv => whnf
      | (refine and_late (fun _ => ?_) (by first | omega | (show _ = _; rfl) | (simp only [List.length_map, List.length_append, pbytes, Nat.mul_one, List.length_cons, List.length_nil]; done) | (simp only [List.length_map, List.length_append, pbytes, Nat.mul_one, List.length_cons, List.length_nil]; omega))); conv => whnf
      | (with_reducible refine and_late (fun _ => ?_) ?_); conv => whnf
      | (refine call_pure rfl rfl (.inl rfl) ?_); conv => whnf
      | (with_reducible refine Both.mk ?_ ?_) <;> conv => whnf
      | (refine ⟨_, rfl, ?_⟩); conv => whnf
      | (refine ⟨_, unbytes_pbytes _, ?_⟩); conv => whnf
      | exact ⟨_, _, rfl, rfl⟩
      | fail
theorem con24 : Contract Try.prog 24 (DetO F24) := by
  refine contract_own Known.nil Try.func24 (by kernel_rfl) rfl comp24 rfl (by kernel_rfl) ?_
  intro ps e n sz cs h
  obtain ⟨a, xs, ha, hx, rfl, rfl, rfl, rfl, rfl⟩ := F24_some h
  refine ⟨(by decide : 1 ≤ Try.f24.ntmps), ?_⟩
  clear h
  rcases asB_some ha with ⟨rfl, rfl⟩ | rfl
  all_goals
    repeat' first
      | (with_reducible refine bo_run ?_); conv => whnf
      | (with_reducible refine bw_run ?_); conv => whnf
      | (with_reducible refine Br.tt ?_); conv => whnf
      | (with_reducible refine Br.ff ?_); conv => whnf
      | (with_reducible refine br_not ?_)
      | (with_reducible refine br_dec_tt (by assumption) ?_); conv => whnf
      | (with_reducible refine br_dec_ff (by assumption) ?_); conv => whnf
      | (with_reducible refine br_dec_intro (fun _ => ?_) (fun _ => ?_)) <;> conv => whnf
      | (with_reducible refine br_beq_tt (by assumption) ?_); conv => whnf
      | (with_reducible refine br_beq_ff (by assumption) ?_); conv => whnf
      | (with_reducible refine br_beq_intro (fun _ => ?_) (fun _ => ?_)) <;> conv => whnf
      | (with_reducible refine br_bne_tt (by assumption) ?_); conv => whnf
      | (with_reducible refine br_bne_ff (by assumption) ?_); conv => whnf
      | (with_reducible refine br_bne_intro (fun _ => ?_) (fun _ => ?_)) <;> conv => whnf
      | (with_reducible refine br_of_true (by assumption) ?_); conv => whnf
      | (with_reducible refine br_of_false (by assumption) ?_); conv => whnf
      | (with_reducible refine br_intro (fun _ => ?_) (fun _ => ?_)) <;> conv => whnf
      | (with_reducible refine and_rfl ?_); conv => whnf
      | (refine and_late (fun _ => ?_) (by first | omega | (show _ = _; rfl) | (simp only [List.length_map, List.length_append, pbytes, Nat.mul_one, List.length_cons, List.length_nil]; done) | (simp only [List.length_map, List.length_append, pbytes, Nat.mul_one, List.length_cons, List.length_nil]; omega))); conv => whnf
      | (with_reducible refine and_late (fun _ => ?_) ?_); conv => whnf
      | (refine call_pure rfl rfl (.inl rfl) ?_); conv => whnf
      | (with_reducible refine Both.mk ?_ ?_) <;> conv => whnf
      | (refine ⟨_, rfl, ?_⟩); conv => whnf
      | (refine ⟨_, unbytes_pbytes _, ?_⟩); conv => whnf
      | exact ⟨_, _, rfl, rfl⟩
      | fail
  · rename_i hx0
    have : xs = [] := List.length_eq_zero_iff.1 hx0
    subst this
    exact ⟨_, _, rfl, rfl⟩
  · exact ⟨1, 1, by simp [packRes], by simp [fillP]⟩
  · exact ⟨1, 1, by simp [packRes], by simp [fillP]⟩
  · intro e
    rename_i hx0
    have := congrArg List.length e
    simp [pbytes] at this
    exact hx0 (by simp [this])
theorem splice_all {cs ys : List AV} (h : cs.length = ys.length) : Vm.splice cs 0 ys = ys := by
  unfold Vm.splice
  rw [List.take_zero, List.nil_append, Nat.zero_add, ← h, List.drop_length, List.append_nil]
noncomputable def F69 : List PV → Option (TypeId × Nat × Nat × List PV)
  | [p, .val (.int .i64 m)] => match asB p with
    | some xs => chk (xs.length ≤ 1073741824 ∧ 0 ≤ m ∧ m ≤ 1073741824) (some (fresh xs))
    | none => none
  | _ => none
theorem F69_some {ps e n sz cs} (h : F69 ps = some (e, n, sz, cs)) : ∃ a xs m, asB a = some xs ∧ xs.length ≤ 1073741824 ∧ 0 ≤ m ∧ m ≤ 1073741824 ∧ ps = [a, .val (.int .i64 m)] ∧ e = 5 ∧ n = xs.length ∧ sz = 1 ∧ cs = pbytes xs := by
  unfold F69 at h
  split at h
  · split at h
    · rename_i a m _ xs h1
      obtain ⟨h2, h⟩ := chk_some h
      simp only [fresh, Option.some.injEq, Prod.mk.injEq] at h
      obtain ⟨rfl, rfl, rfl, rfl⟩ := h
      exact ⟨a, xs, m, h1, h2.1, h2.2.1, h2.2.2, rfl, rfl, rfl, rfl, rfl⟩
    · cases h
  · cases h
theorem con69 : Contract Try.prog 69 (DetO F69) := by
  refine contract_own Known.nil Try.func69 (by kernel_rfl) rfl comp69 rfl (by kernel_rfl) ?_
  intro ps e n sz cs h
  obtain ⟨a, xs, m, ha, hx, hm0, hm, rfl, rfl, rfl, rfl, rfl⟩ := F69_some h
  refine ⟨(by decide : 2 ≤ Try.f69.ntmps), ?_⟩
  clear h
  have e1 : IntKind.i64.wrap ((xs.length : Int) + m) = (xs.length : Int) + m := i64_in _ (by omega)
  have e2 : IntKind.i64.wrap (0 + m) = 0 + m := i64_in _ (by omega)
  have e3 : ((List.replicate xs.length [PV.val (Value.int IntKind.u8 0)]).flatten).length = xs.length := by simp
  rcases asB_some ha with ⟨rfl, rfl⟩ | rfl
  all_goals
    repeat' first
      | (with_reducible refine bo_run ?_); conv => whnf
      | (with_reducible refine bw_run ?_); conv => whnf
      | (with_reducible refine Br.tt ?_); conv => whnf
      | (with_reducible refine Br.ff ?_); conv => whnf
      | (with_reducible refine br_not ?_)
      | (with_reducible refine br_dec_tt (by assumption) ?_); conv => whnf
      | (with_reducible refine br_dec_ff (by assumption) ?_); conv => whnf
      | (with_reducible refine br_dec_intro (fun _ => ?_) (fun _ => ?_)) <;> conv => whnf
      | (with_reducible refine br_beq_tt (by assumption) ?_); conv => whnf
      | (with_reducible refine br_beq_ff (by assumption) ?_); conv => whnf
      | (with_reducible refine br_beq_intro (fun _ => ?_) (fun _ => ?_)) <;> conv => whnf
      | (with_reducible refine br_bne_tt (by assumption) ?_); conv => whnf
      | (with_reducible refine br_bne_ff (by assumption) ?_); conv => whnf
      | (with_reducible refine br_bne_intro (fun _ => ?_) (fun _ => ?_)) <;> conv => whnf
      | (with_reducible refine br_of_true (by assumption) ?_); conv => whnf
      | (with_reducible refine br_of_false (by assumption) ?_); conv => whnf
      | (with_reducible refine br_intro (fun _ => ?_) (fun _ => ?_)) <;> conv => whnf
      | (with_reducible refine and_rfl ?_); conv => whnf
      | (refine and_late (fun _ => ?_) (by first | omega | (show _ = _; rfl) | (simp only [List.length_map, List.length_append, pbytes, Nat.mul_one, List.length_cons, List.length_nil]; done) | (simp only [List.length_map, List.length_append, pbytes, Nat.mul_one, List.length_cons, List.length_nil]; omega))); conv => whnf
      | (with_reducible refine and_late (fun _ => ?_) ?_); conv => whnf
      | (refine call_pure rfl rfl (.inl rfl) ?_); conv => whnf
      | (with_reducible refine Both.mk ?_ ?_) <;> conv => whnf
      | (refine ⟨_, rfl, ?_⟩); conv => whnf
      | (refine ⟨_, unbytes_pbytes _, ?_⟩); conv => whnf
      | exact ⟨_, _, rfl, rfl⟩
      | fail
  · refine ⟨0, 0, by simp [packRes], ?_⟩
    simp only [Int.toNat_natCast, Nat.min_self, Nat.mul_one, List.getElem?_cons_zero, Option.some.injEq, VObj.mk.injEq, true_and]
    rw [List.take_of_length_le (by simp [pbytes]), splice_all]
    simp [pbytes]
  · simp
end Go.Proofs.Ytdjgfjnnafddnaa
