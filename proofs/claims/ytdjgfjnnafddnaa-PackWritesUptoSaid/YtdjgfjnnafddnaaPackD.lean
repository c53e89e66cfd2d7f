/- usher/pack and its reference: texts, flags; PackWrites. -/
import Derived.Test.YtdjgfjnnafddnaaPackC
set_option linter.unusedVariables false
set_option linter.unusedSimpArgs false
set_option maxRecDepth 20000
namespace Go.Proofs.Ytdjgfjnnafddnaa
open Go Go.Vm Go.IntWalk

theorem F26_eq {p : PV} {xs : List Int} {m : Int} (h : asB p = some xs) (h1 : xs.length ≤ 536870912) (h2 : m < 9223372036854775808) : F26 [p, .val (.int .i64 m)] = some (5, (xs ++ numB m.toNat).length, 1, pbytes (xs ++ numB m.toNat)) := by
  unfold F26
  simp only [h]
  rw [chk_pos ⟨h1, h2⟩]
  rfl
/-- the value of a row of one's own -/
theorem snaps_own {σ : St} {id g : Nat} {xs : List Int} {e : TypeId} (h : σ[id]? = some (some ⟨e, g, (pbytes xs).map .pu⟩)) : snap σ (.own id g 0 xs.length 1) = some (.sl xs.length (pbytes xs)) := by
  simp only [snap, h, if_true, List.drop_zero, Nat.mul_one]
  rw [List.take_of_length_le (by simp [pbytes]), unpus_map]
  rfl
theorem noSlPs_pb : ∀ xs : List Int, noSlPs (pbytes xs) = true
  | [] => rfl
  | x :: xs => by
    have := noSlPs_pb xs
    simpa [pbytes, noSlPs, noSlP] using this
def textB (s : ByteArray) : List Int := numB s.size ++ bytesOf s
noncomputable def F32 : List PV → Option (TypeId × Nat × Nat × List PV)
  | [p, .val (.string s)] => match asB p with
    | some xs => chk (xs.length ≤ 268435456 ∧ s.size ≤ 268435456) (some (fresh (xs ++ textB s)))
    | none => none
  | _ => none
theorem F32_some {ps e n sz cs} (h : F32 ps = some (e, n, sz, cs)) : ∃ (a : PV) (xs : List Int) (s : ByteArray), asB a = some xs ∧ xs.length ≤ 268435456 ∧ s.size ≤ 268435456 ∧ ps = [a, .val (.string s)] ∧ e = 5 ∧ n = (xs ++ textB s).length ∧ sz = 1 ∧ cs = pbytes (xs ++ textB s) := by
  unfold F32 at h
  split at h
  · split at h
    · rename_i a m _ xs h1
      obtain ⟨h2, h⟩ := chk_some h
      simp only [fresh, Option.some.injEq, Prod.mk.injEq] at h
      obtain ⟨rfl, rfl, rfl, rfl⟩ := h
      exact ⟨a, xs, m, h1, h2.1, h2.2, rfl, rfl, rfl, rfl, rfl⟩
    · cases h
  · cases h
theorem F32_eq {p : PV} {xs : List Int} {s : ByteArray} (h : asB p = some xs) (h1 : xs.length ≤ 268435456) (h2 : s.size ≤ 268435456) : F32 [p, .val (.string s)] = some (5, (xs ++ textB s).length, 1, pbytes (xs ++ textB s)) := by
  unfold F32
  simp only [h]
  rw [chk_pos ⟨h1, h2⟩]
  rfl
theorem con32 : Contract Try.prog 32 (DetO F32) := by
  refine contract_own (Known.cons con69 (Known.cons con26 Known.nil)) Try.func32 (by kernel_rfl) rfl comp32 rfl (by kernel_rfl) ?_
  intro ps e n sz cs h
  obtain ⟨a, xs, s, ha, hx, hs, rfl, rfl, rfl, rfl, rfl⟩ := F32_some h
  refine ⟨(by decide : 2 ≤ Try.f32.ntmps), ?_⟩
  clear h
  have e1 : IntKind.i64.wrap (9 + (s.size : Int)) = 9 + (s.size : Int) := i64_in _ (by omega)
  have hn := numB_length s.size (by omega)
  have hb := bytesOf_length s
  repeat' first
    | (with_reducible refine bo_run ?_); conv => whnf
    | (with_reducible refine bw_run ?_); conv => whnf
    | (with_reducible refine Br.tt ?_); conv => whnf
    | (with_reducible refine Br.ff ?_); conv => whnf
    | (with_reducible refine br_not ?_)
    | (with_reducible refine br_dec_tt (by assumption) ?_); conv => whnf
    | (with_reducible refine br_dec_ff (by assumption) ?_); conv => whnf
    | (with_reducible refine br_dec_intro (fun _ => ?_) (fun _ => ?_)) <;> conv => whnf
    | (with_reducible refine br_beq_tt (by assumption) ?_); conv => whnf
    | (with_reducible refine br_beq_ff (by assumption) ?_); conv => whnf
    | (with_reducible refine br_beq_intro (fun _ => ?_) (fun _ => ?_)) <;> conv => whnf
    | (with_reducible refine br_bne_tt (by assumption) ?_); conv => whnf
    | (with_reducible refine br_bne_ff (by assumption) ?_); conv => whnf
    | (with_reducible refine br_bne_intro (fun _ => ?_) (fun _ => ?_)) <;> conv => whnf
    | (with_reducible refine br_of_true (by assumption) ?_); conv => whnf
    | (with_reducible refine br_of_false (by assumption) ?_); conv => whnf
    | (with_reducible refine br_intro (fun _ => ?_) (fun _ => ?_)) <;> conv => whnf
    | (with_reducible refine and_rfl ?_); conv => whnf
    | (refine and_late (fun _ => ?_) (by first | omega | (show _ = _; rfl) | (simp only [List.length_map, List.length_append, pbytes, Nat.mul_one, List.length_cons, List.length_nil]; done) | (simp only [List.length_map, List.length_append, pbytes, Nat.mul_one, List.length_cons, List.length_nil]; omega))); conv => whnf
    | (with_reducible refine and_late (fun _ => ?_) ?_); conv => whnf
    | (refine call_pure rfl rfl (.inl rfl) ?_); conv => whnf
    | (with_reducible refine Both.mk ?_ ?_) <;> conv => whnf
    | (refine ⟨_, rfl, ?_⟩); conv => whnf
    | (refine ⟨_, unbytes_pbytes _, ?_⟩); conv => whnf
    | exact ⟨_, _, rfl, rfl⟩
    | fail
  rw [e1]
  refine call_own rfl (F69_eq ha (by omega) (by omega) (by omega)) (.inl rfl) ?_
  conv => whnf
  repeat' first
    | (with_reducible refine bo_run ?_); conv => whnf
    | (with_reducible refine bw_run ?_); conv => whnf
    | (with_reducible refine Br.tt ?_); conv => whnf
    | (with_reducible refine Br.ff ?_); conv => whnf
    | (with_reducible refine br_not ?_)
    | (with_reducible refine br_dec_tt (by assumption) ?_); conv => whnf
    | (with_reducible refine br_dec_ff (by assumption) ?_); conv => whnf
    | (with_reducible refine br_dec_intro (fun _ => ?_) (fun _ => ?_)) <;> conv => whnf
    | (with_reducible refine br_beq_tt (by assumption) ?_); conv => whnf
    | (with_reducible refine br_beq_ff (by assumption) ?_); conv => whnf
    | (with_reducible refine br_beq_intro (fun _ => ?_) (fun _ => ?_)) <;> conv => whnf
    | (with_reducible refine br_bne_tt (by assumption) ?_); conv => whnf
    | (with_reducible refine br_bne_ff (by assumption) ?_); conv => whnf
    | (with_reducible refine br_bne_intro (fun _ => ?_) (fun _ => ?_)) <;> conv => whnf
    | (with_reducible refine br_of_true (by assumption) ?_); conv => whnf
    | (with_reducible refine br_of_false (by assumption) ?_); conv => whnf
    | (with_reducible refine br_intro (fun _ => ?_) (fun _ => ?_)) <;> conv => whnf
    | (with_reducible refine and_rfl ?_); conv => whnf
    | (refine and_late (fun _ => ?_) (by first | omega | (show _ = _; rfl) | (simp only [List.length_map, List.length_append, pbytes, Nat.mul_one, List.length_cons, List.length_nil]; done) | (simp only [List.length_map, List.length_append, pbytes, Nat.mul_one, List.length_cons, List.length_nil]; omega))); conv => whnf
    | (with_reducible refine and_late (fun _ => ?_) ?_); conv => whnf
    | (refine call_pure rfl rfl (.inl rfl) ?_); conv => whnf
    | (with_reducible refine Both.mk ?_ ?_) <;> conv => whnf
    | (refine ⟨_, rfl, ?_⟩); conv => whnf
    | (refine ⟨_, unbytes_pbytes _, ?_⟩); conv => whnf
    | exact ⟨_, _, rfl, rfl⟩
    | fail
  refine call_own (ps := [.sl xs.length (pbytes xs), _]) (by simp only [snaps]; rw [show ([] : St).length = 0 from rfl, snaps_own rfl]; rfl) (F26_eq (asB_sl xs) (by omega) (by omega)) (.inr (noSlPs_pb _)) ?_
  conv => whnf
  repeat' first
    | (with_reducible refine bo_run ?_); conv => whnf
    | (with_reducible refine bw_run ?_); conv => whnf
    | (with_reducible refine Br.tt ?_); conv => whnf
    | (with_reducible refine Br.ff ?_); conv => whnf
    | (with_reducible refine br_not ?_)
    | (with_reducible refine br_dec_tt (by assumption) ?_); conv => whnf
    | (with_reducible refine br_dec_ff (by assumption) ?_); conv => whnf
    | (with_reducible refine br_dec_intro (fun _ => ?_) (fun _ => ?_)) <;> conv => whnf
    | (with_reducible refine br_beq_tt (by assumption) ?_); conv => whnf
    | (with_reducible refine br_beq_ff (by assumption) ?_); conv => whnf
    | (with_reducible refine br_beq_intro (fun _ => ?_) (fun _ => ?_)) <;> conv => whnf
    | (with_reducible refine br_bne_tt (by assumption) ?_); conv => whnf
    | (with_reducible refine br_bne_ff (by assumption) ?_); conv => whnf
    | (with_reducible refine br_bne_intro (fun _ => ?_) (fun _ => ?_)) <;> conv => whnf
    | (with_reducible refine br_of_true (by assumption) ?_); conv => whnf
    | (with_reducible refine br_of_false (by assumption) ?_); conv => whnf
    | (with_reducible refine br_intro (fun _ => ?_) (fun _ => ?_)) <;> conv => whnf
    | (with_reducible refine and_rfl ?_); conv => whnf
    | (refine and_late (fun _ => ?_) (by first | omega | (show _ = _; rfl) | (simp only [List.length_map, List.length_append, pbytes, Nat.mul_one, List.length_cons, List.length_nil]; done) | (simp only [List.length_map, List.length_append, pbytes, Nat.mul_one, List.length_cons, List.length_nil]; omega))); conv => whnf
    | (with_reducible refine and_late (fun _ => ?_) ?_); conv => whnf
    | (refine call_pure rfl rfl (.inl rfl) ?_); conv => whnf
    | (with_reducible refine Both.mk ?_ ?_) <;> conv => whnf
    | (refine ⟨_, rfl, ?_⟩); conv => whnf
    | (refine ⟨_, unbytes_pbytes _, ?_⟩); conv => whnf
    | exact ⟨_, _, rfl, rfl⟩
    | fail
  · refine ⟨1, 1, ?_, by simp [textB, pbytes]⟩
    simp [packRes, textB, hb]
    omega
  · simp only [List.length_append, Int.toNat_natCast]
    omega
theorem con33 : Contract Try.prog 33 (DetO F32) := by
  refine contract_own (Known.cons con27 Known.nil) Try.func33 (by kernel_rfl) rfl comp33 rfl (by kernel_rfl) ?_
  intro ps e n sz cs h
  obtain ⟨a, xs, s, ha, hx, hs, rfl, rfl, rfl, rfl, rfl⟩ := F32_some h
  refine ⟨(by decide : 2 ≤ Try.f33.ntmps), ?_⟩
  clear h
  have hn := numB_length s.size (by omega)
  have hb := bytesOf_length s
  repeat' first
    | (with_reducible refine bo_run ?_); conv => whnf
    | (with_reducible refine bw_run ?_); conv => whnf
    | (with_reducible refine Br.tt ?_); conv => whnf
    | (with_reducible refine Br.ff ?_); conv => whnf
    | (with_reducible refine br_not ?_)
    | (with_reducible refine br_dec_tt (by assumption) ?_); conv => whnf
    | (with_reducible refine br_dec_ff (by assumption) ?_); conv => whnf
    | (with_reducible refine br_dec_intro (fun _ => ?_) (fun _ => ?_)) <;> conv => whnf
    | (with_reducible refine br_beq_tt (by assumption) ?_); conv => whnf
    | (with_reducible refine br_beq_ff (by assumption) ?_); conv => whnf
    | (with_reducible refine br_beq_intro (fun _ => ?_) (fun _ => ?_)) <;> conv => whnf
    | (with_reducible refine br_bne_tt (by assumption) ?_); conv => whnf
    | (with_reducible refine br_bne_ff (by assumption) ?_); conv => whnf
    | (with_reducible refine br_bne_intro (fun _ => ?_) (fun _ => ?_)) <;> conv => whnf
    | (with_reducible refine br_of_true (by assumption) ?_); conv => whnf
    | (with_reducible refine br_of_false (by assumption) ?_); conv => whnf
    | (with_reducible refine br_intro (fun _ => ?_) (fun _ => ?_)) <;> conv => whnf
    | (with_reducible refine and_rfl ?_); conv => whnf
    | (refine and_late (fun _ => ?_) (by first | omega | (show _ = _; rfl) | (simp only [List.length_map, List.length_append, pbytes, Nat.mul_one, List.length_cons, List.length_nil]; done) | (simp only [List.length_map, List.length_append, pbytes, Nat.mul_one, List.length_cons, List.length_nil]; omega))); conv => whnf
    | (with_reducible refine and_late (fun _ => ?_) ?_); conv => whnf
    | (refine call_pure rfl rfl (.inl rfl) ?_); conv => whnf
    | (with_reducible refine Both.mk ?_ ?_) <;> conv => whnf
    | (refine ⟨_, rfl, ?_⟩); conv => whnf
    | (refine ⟨_, unbytes_pbytes _, ?_⟩); conv => whnf
    | exact ⟨_, _, rfl, rfl⟩
    | fail
  refine call_own rfl (F26_eq ha (by omega) (by omega)) (.inl rfl) ?_
  conv => whnf
  repeat' first
    | (with_reducible refine bo_run ?_); conv => whnf
    | (with_reducible refine bw_run ?_); conv => whnf
    | (with_reducible refine Br.tt ?_); conv => whnf
    | (with_reducible refine Br.ff ?_); conv => whnf
    | (with_reducible refine br_not ?_)
    | (with_reducible refine br_dec_tt (by assumption) ?_); conv => whnf
    | (with_reducible refine br_dec_ff (by assumption) ?_); conv => whnf
    | (with_reducible refine br_dec_intro (fun _ => ?_) (fun _ => ?_)) <;> conv => whnf
    | (with_reducible refine br_beq_tt (by assumption) ?_); conv => whnf
    | (with_reducible refine br_beq_ff (by assumption) ?_); conv => whnf
    | (with_reducible refine br_beq_intro (fun _ => ?_) (fun _ => ?_)) <;> conv => whnf
    | (with_reducible refine br_bne_tt (by assumption) ?_); conv => whnf
    | (with_reducible refine br_bne_ff (by assumption) ?_); conv => whnf
    | (with_reducible refine br_bne_intro (fun _ => ?_) (fun _ => ?_)) <;> conv => whnf
    | (with_reducible refine br_of_true (by assumption) ?_); conv => whnf
    | (with_reducible refine br_of_false (by assumption) ?_); conv => whnf
    | (with_reducible refine br_intro (fun _ => ?_) (fun _ => ?_)) <;> conv => whnf
    | (with_reducible refine and_rfl ?_); conv => whnf
    | (refine and_late (fun _ => ?_) (by first | omega | (show _ = _; rfl) | (simp only [List.length_map, List.length_append, pbytes, Nat.mul_one, List.length_cons, List.length_nil]; done) | (simp only [List.length_map, List.length_append, pbytes, Nat.mul_one, List.length_cons, List.length_nil]; omega))); conv => whnf
    | (with_reducible refine and_late (fun _ => ?_) ?_); conv => whnf
    | (refine call_pure rfl rfl (.inl rfl) ?_); conv => whnf
    | (with_reducible refine Both.mk ?_ ?_) <;> conv => whnf
    | (refine ⟨_, rfl, ?_⟩); conv => whnf
    | (refine ⟨_, unbytes_pbytes _, ?_⟩); conv => whnf
    | exact ⟨_, _, rfl, rfl⟩
    | fail
  · refine ⟨0, 1, ?_, by simp [textB, pbytes]⟩
    simp [packRes, textB, hb]
    omega
  · simp only [List.length_append, Int.toNat_natCast]
    omega
def flagB (b : Bool) : Int := if b then 1 else 0
noncomputable def F34 : List PV → Option (TypeId × Nat × Nat × List PV)
  | [p, .val (.bool b)] => match asB p with
    | some xs => chk (xs.length ≤ 268435456) (some (fresh (xs ++ [flagB b])))
    | none => none
  | _ => none
theorem F34_some {ps e n sz cs} (h : F34 ps = some (e, n, sz, cs)) : ∃ (a : PV) (xs : List Int) (b : Bool), asB a = some xs ∧ xs.length ≤ 268435456 ∧ ps = [a, .val (.bool b)] ∧ e = 5 ∧ n = (xs ++ [flagB b]).length ∧ sz = 1 ∧ cs = pbytes (xs ++ [flagB b]) := by
  unfold F34 at h
  split at h
  · split at h
    · rename_i a m _ xs h1
      obtain ⟨h2, h⟩ := chk_some h
      simp only [fresh, Option.some.injEq, Prod.mk.injEq] at h
      obtain ⟨rfl, rfl, rfl, rfl⟩ := h
      exact ⟨a, xs, m, h1, h2, rfl, rfl, rfl, rfl, rfl⟩
    · cases h
  · cases h
theorem F34_eq {p : PV} {xs : List Int} {b : Bool} (h : asB p = some xs) (h1 : xs.length ≤ 268435456) : F34 [p, .val (.bool b)] = some (5, (xs ++ [flagB b]).length, 1, pbytes (xs ++ [flagB b])) := by
  unfold F34
  simp only [h]
  rw [chk_pos h1]
  rfl
theorem con34 : Contract Try.prog 34 (DetO F34) := by
  refine contract_own (Known.cons con69 Known.nil) Try.func34 (by kernel_rfl) rfl comp34 rfl (by kernel_rfl) ?_
  intro ps e n sz cs h
  obtain ⟨a, xs, b, ha, hx, rfl, rfl, rfl, rfl, rfl⟩ := F34_some h
  refine ⟨(by decide : 2 ≤ Try.f34.ntmps), ?_⟩
  clear h
  repeat' first
    | (with_reducible refine bo_run ?_); conv => whnf
    | (with_reducible refine bw_run ?_); conv => whnf
    | (with_reducible refine Br.tt ?_); conv => whnf
    | (with_reducible refine Br.ff ?_); conv => whnf
    | (with_reducible refine br_not ?_)
    | (with_reducible refine br_dec_tt (by assumption) ?_); conv => whnf
    | (with_reducible refine br_dec_ff (by assumption) ?_); conv => whnf
    | (with_reducible refine br_dec_intro (fun _ => ?_) (fun _ => ?_)) <;> conv => whnf
    | (with_reducible refine br_beq_tt (by assumption) ?_); conv => whnf
    | (with_reducible refine br_beq_ff (by assumption) ?_); conv => whnf
    | (with_reducible refine br_beq_intro (fun _ => ?_) (fun _ => ?_)) <;> conv => whnf
    | (with_reducible refine br_bne_tt (by assumption) ?_); conv => whnf
    | (with_reducible refine br_bne_ff (by assumption) ?_); conv => whnf
    | (with_reducible refine br_bne_intro (fun _ => ?_) (fun _ => ?_)) <;> conv => whnf
    | (with_reducible refine br_of_true (by assumption) ?_); conv => whnf
    | (with_reducible refine br_of_false (by assumption) ?_); conv => whnf
    | (with_reducible refine br_intro (fun _ => ?_) (fun _ => ?_)) <;> conv => whnf
    | (with_reducible refine and_rfl ?_); conv => whnf
    | (refine and_late (fun _ => ?_) (by first | omega | (show _ = _; rfl) | (simp only [List.length_map, List.length_append, pbytes, Nat.mul_one, List.length_cons, List.length_nil]; done) | (simp only [List.length_map, List.length_append, pbytes, Nat.mul_one, List.length_cons, List.length_nil]; omega))); conv => whnf
    | (with_reducible refine and_late (fun _ => ?_) ?_); conv => whnf
    | (refine call_pure rfl rfl (.inl rfl) ?_); conv => whnf
    | (with_reducible refine Both.mk ?_ ?_) <;> conv => whnf
    | (refine ⟨_, rfl, ?_⟩); conv => whnf
    | (refine ⟨_, unbytes_pbytes _, ?_⟩); conv => whnf
    | exact ⟨_, _, rfl, rfl⟩
    | fail
  all_goals refine call_own rfl (F69_eq ha (by omega) (by omega) (by omega)) (.inl rfl) ?_
  all_goals conv => whnf
  all_goals
    repeat' first
      | (with_reducible refine bo_run ?_); conv => whnf
      | (with_reducible refine bw_run ?_); conv => whnf
      | (with_reducible refine Br.tt ?_); conv => whnf
      | (with_reducible refine Br.ff ?_); conv => whnf
      | (with_reducible refine br_not ?_)
      | (with_reducible refine br_dec_tt (by assumption) ?_); conv => whnf
      | (with_reducible refine br_dec_ff (by assumption) ?_); conv => whnf
      | (with_reducible refine br_dec_intro (fun _ => ?_) (fun _ => ?_)) <;> conv => whnf
      | (with_reducible refine br_beq_tt (by assumption) ?_); conv => whnf
      | (with_reducible refine br_beq_ff (by assumption) ?_); conv => whnf
      | (with_reducible refine br_beq_intro (fun _ => ?_) (fun _ => ?_)) <;> conv => whnf
      | (with_reducible refine br_bne_tt (by assumption) ?_); conv => whnf
      | (with_reducible refine br_bne_ff (by assumption) ?_); conv => whnf
      | (with_reducible refine br_bne_intro (fun _ => ?_) (fun _ => ?_)) <;> conv => whnf
      | (with_reducible refine br_of_true (by assumption) ?_); conv => whnf
      | (with_reducible refine br_of_false (by assumption) ?_); conv => whnf
      | (with_reducible refine br_intro (fun _ => ?_) (fun _ => ?_)) <;> conv => whnf
      | (with_reducible refine and_rfl ?_); conv => whnf
      | (refine and_late (fun _ => ?_) (by first | omega | (show _ = _; rfl) | (simp only [List.length_map, List.length_append, pbytes, Nat.mul_one, List.length_cons, List.length_nil]; done) | (simp only [List.length_map, List.length_append, pbytes, Nat.mul_one, List.length_cons, List.length_nil]; omega))); conv => whnf
      | (with_reducible refine and_late (fun _ => ?_) ?_); conv => whnf
      | (refine call_pure rfl rfl (.inl rfl) ?_); conv => whnf
      | (with_reducible refine Both.mk ?_ ?_) <;> conv => whnf
      | (refine ⟨_, rfl, ?_⟩); conv => whnf
      | (refine ⟨_, unbytes_pbytes _, ?_⟩); conv => whnf
      | exact ⟨_, _, rfl, rfl⟩
      | fail
  all_goals rename_i q _ _ _ _ _ _ _
  all_goals subst q
  all_goals exact ⟨0, 1, by simp [packRes], by simp [pbytes, flagB]⟩
theorem con35 : Contract Try.prog 35 (DetO F34) := by
  refine contract_own (Known.cons con72 Known.nil) Try.func35 (by kernel_rfl) rfl comp35 rfl (by kernel_rfl) ?_
  intro ps e n sz cs h
  obtain ⟨a, xs, b, ha, hx, rfl, rfl, rfl, rfl, rfl⟩ := F34_some h
  refine ⟨(by decide : 2 ≤ Try.f35.ntmps), ?_⟩
  clear h
  repeat' first
    | (with_reducible refine bo_run ?_); conv => whnf
    | (with_reducible refine bw_run ?_); conv => whnf
    | (with_reducible refine Br.tt ?_); conv => whnf
    | (with_reducible refine Br.ff ?_); conv => whnf
    | (with_reducible refine br_not ?_)
    | (with_reducible refine br_dec_tt (by assumption) ?_); conv => whnf
    | (with_reducible refine br_dec_ff (by assumption) ?_); conv => whnf
    | (with_reducible refine br_dec_intro (fun _ => ?_) (fun _ => ?_)) <;> conv => whnf
    | (with_reducible refine br_beq_tt (by assumption) ?_); conv => whnf
    | (with_reducible refine br_beq_ff (by assumption) ?_); conv => whnf
    | (with_reducible refine br_beq_intro (fun _ => ?_) (fun _ => ?_)) <;> conv => whnf
    | (with_reducible refine br_bne_tt (by assumption) ?_); conv => whnf
    | (with_reducible refine br_bne_ff (by assumption) ?_); conv => whnf
    | (with_reducible refine br_bne_intro (fun _ => ?_) (fun _ => ?_)) <;> conv => whnf
    | (with_reducible refine br_of_true (by assumption) ?_); conv => whnf
    | (with_reducible refine br_of_false (by assumption) ?_); conv => whnf
    | (with_reducible refine br_intro (fun _ => ?_) (fun _ => ?_)) <;> conv => whnf
    | (with_reducible refine and_rfl ?_); conv => whnf
    | (refine and_late (fun _ => ?_) (by first | omega | (show _ = _; rfl) | (simp only [List.length_map, List.length_append, pbytes, Nat.mul_one, List.length_cons, List.length_nil]; done) | (simp only [List.length_map, List.length_append, pbytes, Nat.mul_one, List.length_cons, List.length_nil]; omega))); conv => whnf
    | (with_reducible refine and_late (fun _ => ?_) ?_); conv => whnf
    | (refine call_pure rfl rfl (.inl rfl) ?_); conv => whnf
    | (with_reducible refine Both.mk ?_ ?_) <;> conv => whnf
    | (refine ⟨_, rfl, ?_⟩); conv => whnf
    | (refine ⟨_, unbytes_pbytes _, ?_⟩); conv => whnf
    | exact ⟨_, _, rfl, rfl⟩
    | fail
  all_goals refine call_own rfl (F24_eq ha (by omega)) (.inl rfl) ?_
  all_goals conv => whnf
  all_goals
    repeat' first
      | (with_reducible refine bo_run ?_); conv => whnf
      | (with_reducible refine bw_run ?_); conv => whnf
      | (with_reducible refine Br.tt ?_); conv => whnf
      | (with_reducible refine Br.ff ?_); conv => whnf
      | (with_reducible refine br_not ?_)
      | (with_reducible refine br_dec_tt (by assumption) ?_); conv => whnf
      | (with_reducible refine br_dec_ff (by assumption) ?_); conv => whnf
      | (with_reducible refine br_dec_intro (fun _ => ?_) (fun _ => ?_)) <;> conv => whnf
      | (with_reducible refine br_beq_tt (by assumption) ?_); conv => whnf
      | (with_reducible refine br_beq_ff (by assumption) ?_); conv => whnf
      | (with_reducible refine br_beq_intro (fun _ => ?_) (fun _ => ?_)) <;> conv => whnf
      | (with_reducible refine br_bne_tt (by assumption) ?_); conv => whnf
      | (with_reducible refine br_bne_ff (by assumption) ?_); conv => whnf
      | (with_reducible refine br_bne_intro (fun _ => ?_) (fun _ => ?_)) <;> conv => whnf
      | (with_reducible refine br_of_true (by assumption) ?_); conv => whnf
      | (with_reducible refine br_of_false (by assumption) ?_); conv => whnf
      | (with_reducible refine br_intro (fun _ => ?_) (fun _ => ?_)) <;> conv => whnf
      | (with_reducible refine and_rfl ?_); conv => whnf
      | (refine and_late (fun _ => ?_) (by first | omega | (show _ = _; rfl) | (simp only [List.length_map, List.length_append, pbytes, Nat.mul_one, List.length_cons, List.length_nil]; done) | (simp only [List.length_map, List.length_append, pbytes, Nat.mul_one, List.length_cons, List.length_nil]; omega))); conv => whnf
      | (with_reducible refine and_late (fun _ => ?_) ?_); conv => whnf
      | (refine call_pure rfl rfl (.inl rfl) ?_); conv => whnf
      | (with_reducible refine Both.mk ?_ ?_) <;> conv => whnf
      | (refine ⟨_, rfl, ?_⟩); conv => whnf
      | (refine ⟨_, unbytes_pbytes _, ?_⟩); conv => whnf
      | exact ⟨_, _, rfl, rfl⟩
      | fail
  all_goals rename_i q _ _ _ _ _ _ _
  all_goals subst q
  all_goals exact ⟨0, 1, by simp [packRes], by simp [pbytes, flagB]⟩
def F36 : List PV → Option PV
  | [] => some (.val (.bool true))
  | _ => none
theorem F25_eq {a b : PV} {xs ys : List Int} (ha : asB a = some xs) (hb : asB b = some ys) : F25 [a, b] = some (.val (.bool (strEq (strOf xs) (strOf ys)))) := by
  unfold F25
  simp only [ha, hb]
theorem strEq_self (s : ByteArray) : strEq s s = true := by simp [strEq]
theorem con36 : Contract Try.prog 36 (DetP F36) := by
  refine contract_pure (Known.cons con26 (Known.cons con25 Known.nil)) Try.func36 (by kernel_rfl) rfl comp36 rfl (by kernel_rfl) ?_
  intro ps p h
  have : ps = [] ∧ p = .val (.bool true) := by
    unfold F36 at h
    split at h
    · exact ⟨rfl, by simpa using h.symm⟩
    · cases h
  obtain ⟨rfl, rfl⟩ := this
  refine ⟨Nat.zero_le _, ?_⟩
  clear h
  have hn : numB (Int.toNat 256) = [241, 1, 0] := by
    have e : byt 256 = 2 := by rw [byt_pos (by omega), show 256 / 256 = 1 from rfl, byt_pos (by omega), show 1 / 256 = 0 from rfl, byt_zero]
    rw [show Int.toNat 256 = 256 from rfl, numB, if_neg (by omega), e]
    rfl
  repeat' first
    | (with_reducible refine bo_run ?_); conv => whnf
    | (with_reducible refine bw_run ?_); conv => whnf
    | (with_reducible refine Br.tt ?_); conv => whnf
    | (with_reducible refine Br.ff ?_); conv => whnf
    | (with_reducible refine br_not ?_)
    | (with_reducible refine br_dec_tt (by assumption) ?_); conv => whnf
    | (with_reducible refine br_dec_ff (by assumption) ?_); conv => whnf
    | (with_reducible refine br_dec_intro (fun _ => ?_) (fun _ => ?_)) <;> conv => whnf
    | (with_reducible refine br_beq_tt (by assumption) ?_); conv => whnf
    | (with_reducible refine br_beq_ff (by assumption) ?_); conv => whnf
    | (with_reducible refine br_beq_intro (fun _ => ?_) (fun _ => ?_)) <;> conv => whnf
    | (with_reducible refine br_bne_tt (by assumption) ?_); conv => whnf
    | (with_reducible refine br_bne_ff (by assumption) ?_); conv => whnf
    | (with_reducible refine br_bne_intro (fun _ => ?_) (fun _ => ?_)) <;> conv => whnf
    | (with_reducible refine br_of_true (by assumption) ?_); conv => whnf
    | (with_reducible refine br_of_false (by assumption) ?_); conv => whnf
    | (with_reducible refine br_intro (fun _ => ?_) (fun _ => ?_)) <;> conv => whnf
    | (with_reducible refine and_rfl ?_); conv => whnf
    | (refine and_late (fun _ => ?_) (by first | omega | (show _ = _; rfl) | (simp only [List.length_map, List.length_append, pbytes, Nat.mul_one, List.length_cons, List.length_nil]; done) | (simp only [List.length_map, List.length_append, pbytes, Nat.mul_one, List.length_cons, List.length_nil]; omega))); conv => whnf
    | (with_reducible refine and_late (fun _ => ?_) ?_); conv => whnf
    | (refine call_pure rfl rfl (.inl rfl) ?_); conv => whnf
    | (with_reducible refine Both.mk ?_ ?_) <;> conv => whnf
    | (refine ⟨_, rfl, ?_⟩); conv => whnf
    | (refine ⟨_, unbytes_pbytes _, ?_⟩); conv => whnf
    | exact ⟨_, _, rfl, rfl⟩
    | fail
  refine call_own rfl (F26_eq (xs := []) rfl (by simp) (by omega)) (.inl rfl) ?_
  rw [hn]
  conv => whnf
  repeat' first
    | (with_reducible refine bo_run ?_); conv => whnf
    | (with_reducible refine bw_run ?_); conv => whnf
    | (with_reducible refine Br.tt ?_); conv => whnf
    | (with_reducible refine Br.ff ?_); conv => whnf
    | (with_reducible refine br_not ?_)
    | (with_reducible refine br_dec_tt (by assumption) ?_); conv => whnf
    | (with_reducible refine br_dec_ff (by assumption) ?_); conv => whnf
    | (with_reducible refine br_dec_intro (fun _ => ?_) (fun _ => ?_)) <;> conv => whnf
    | (with_reducible refine br_beq_tt (by assumption) ?_); conv => whnf
    | (with_reducible refine br_beq_ff (by assumption) ?_); conv => whnf
    | (with_reducible refine br_beq_intro (fun _ => ?_) (fun _ => ?_)) <;> conv => whnf
    | (with_reducible refine br_bne_tt (by assumption) ?_); conv => whnf
    | (with_reducible refine br_bne_ff (by assumption) ?_); conv => whnf
    | (with_reducible refine br_bne_intro (fun _ => ?_) (fun _ => ?_)) <;> conv => whnf
    | (with_reducible refine br_of_true (by assumption) ?_); conv => whnf
    | (with_reducible refine br_of_false (by assumption) ?_); conv => whnf
    | (with_reducible refine br_intro (fun _ => ?_) (fun _ => ?_)) <;> conv => whnf
    | (with_reducible refine and_rfl ?_); conv => whnf
    | (refine and_late (fun _ => ?_) (by first | omega | (show _ = _; rfl) | (simp only [List.length_map, List.length_append, pbytes, Nat.mul_one, List.length_cons, List.length_nil]; done) | (simp only [List.length_map, List.length_append, pbytes, Nat.mul_one, List.length_cons, List.length_nil]; omega))); conv => whnf
    | (with_reducible refine and_late (fun _ => ?_) ?_); conv => whnf
    | (refine call_pure rfl rfl (.inl rfl) ?_); conv => whnf
    | (with_reducible refine Both.mk ?_ ?_) <;> conv => whnf
    | (refine ⟨_, rfl, ?_⟩); conv => whnf
    | (refine ⟨_, unbytes_pbytes _, ?_⟩); conv => whnf
    | exact ⟨_, _, rfl, rfl⟩
    | fail
  have f25 := F25_eq (asB_sl [241, 1, 0]) (asB_sl [241, 1, 0])
  rw [strEq_self] at f25
  refine call_pure (ps := [.sl 3 (pbytes [241, 1, 0]), .sl 3 (pbytes [241, 1, 0])]) rfl f25 (.inr rfl) ?_
  conv => whnf
  repeat' first
    | (with_reducible refine bo_run ?_); conv => whnf
    | (with_reducible refine bw_run ?_); conv => whnf
    | (with_reducible refine Br.tt ?_); conv => whnf
    | (with_reducible refine Br.ff ?_); conv => whnf
    | (with_reducible refine br_not ?_)
    | (with_reducible refine br_dec_tt (by assumption) ?_); conv => whnf
    | (with_reducible refine br_dec_ff (by assumption) ?_); conv => whnf
    | (with_reducible refine br_dec_intro (fun _ => ?_) (fun _ => ?_)) <;> conv => whnf
    | (with_reducible refine br_beq_tt (by assumption) ?_); conv => whnf
    | (with_reducible refine br_beq_ff (by assumption) ?_); conv => whnf
    | (with_reducible refine br_beq_intro (fun _ => ?_) (fun _ => ?_)) <;> conv => whnf
    | (with_reducible refine br_bne_tt (by assumption) ?_); conv => whnf
    | (with_reducible refine br_bne_ff (by assumption) ?_); conv => whnf
    | (with_reducible refine br_bne_intro (fun _ => ?_) (fun _ => ?_)) <;> conv => whnf
    | (with_reducible refine br_of_true (by assumption) ?_); conv => whnf
    | (with_reducible refine br_of_false (by assumption) ?_); conv => whnf
    | (with_reducible refine br_intro (fun _ => ?_) (fun _ => ?_)) <;> conv => whnf
    | (with_reducible refine and_rfl ?_); conv => whnf
    | (refine and_late (fun _ => ?_) (by first | omega | (show _ = _; rfl) | (simp only [List.length_map, List.length_append, pbytes, Nat.mul_one, List.length_cons, List.length_nil]; done) | (simp only [List.length_map, List.length_append, pbytes, Nat.mul_one, List.length_cons, List.length_nil]; omega))); conv => whnf
    | (with_reducible refine and_late (fun _ => ?_) ?_); conv => whnf
    | (refine call_pure rfl rfl (.inl rfl) ?_); conv => whnf
    | (with_reducible refine Both.mk ?_ ?_) <;> conv => whnf
    | (refine ⟨_, rfl, ?_⟩); conv => whnf
    | (refine ⟨_, unbytes_pbytes _, ?_⟩); conv => whnf
    | exact ⟨_, _, rfl, rfl⟩
    | fail
  rfl
theorem snaps2 {σ : St} {i1 g1 i2 g2 : Nat} {xs ys : List Int} {e1 e2 : TypeId} (h1 : σ[i1]? = some (some ⟨e1, g1, (pbytes xs).map .pu⟩)) (h2 : σ[i2]? = some (some ⟨e2, g2, (pbytes ys).map .pu⟩)) :
    snaps σ [.own i1 g1 0 xs.length 1, .own i2 g2 0 ys.length 1] = some [.sl xs.length (pbytes xs), .sl ys.length (pbytes ys)] := by
  simp only [snaps, snaps_own h1, snaps_own h2]
theorem snaps1 {σ : St} {i1 g1 : Nat} {xs : List Int} {e1 : TypeId} {p : PV} (h1 : σ[i1]? = some (some ⟨e1, g1, (pbytes xs).map .pu⟩)) : snaps σ [.own i1 g1 0 xs.length 1, .pu p] = some [.sl xs.length (pbytes xs), p] := by
  simp only [snaps, snaps_own h1]
  rfl
theorem snaps1' {σ : St} {i1 g1 : Nat} {xs : List Int} {e1 : TypeId} {p : PV} (h1 : σ[i1]? = some (some ⟨e1, g1, (pbytes xs).map .pu⟩)) : snaps σ [.pu p, .own i1 g1 0 xs.length 1] = some [p, .sl xs.length (pbytes xs)] := by
  simp only [snaps, snaps_own h1]
  rfl
theorem F25_same {xs : List Int} : F25 [.sl xs.length (pbytes xs), .sl xs.length (pbytes xs)] = some (.val (.bool true)) := by rw [F25_eq (asB_sl xs) (asB_sl xs), strEq_self]
theorem F25_same' {p : PV} {xs : List Int} (h : asB p = some xs) : F25 [p, .sl xs.length (pbytes xs)] = some (.val (.bool true)) := by rw [F25_eq h (asB_sl xs), strEq_self]
noncomputable def F5 : List PV → Option PV
  | [p, .val (.int .i64 n), .val (.int .u64 x), .val (.string s), .val (.bool b)] => match asB p with
    | some xs => chk (xs.length ≤ 134217728 ∧ n < 9223372036854775808 ∧ 0 ≤ x ∧ x < 18446744073709551616 ∧ s.size ≤ 134217728) (some (.val (.bool true)))
    | none => none
  | _ => none
theorem F5_some {ps p} (h : F5 ps = some p) : ∃ (a : PV) (xs : List Int) (n : Int) (x : Nat) (s : ByteArray) (b : Bool), asB a = some xs ∧ xs.length ≤ 134217728 ∧ n < 9223372036854775808 ∧ x < 18446744073709551616 ∧ s.size ≤ 134217728 ∧ ps = [a, .val (.int .i64 n), .val (.int .u64 x), .val (.string s), .val (.bool b)] ∧ p = .val (.bool true) := by
  unfold F5 at h
  split at h
  · split at h
    · rename_i a n x s b _ xs h1
      obtain ⟨h2, h⟩ := chk_some h
      simp only [Option.some.injEq] at h
      subst h
      exact ⟨a, xs, n, x.toNat, s, b, h1, h2.1, h2.2.1, by omega, h2.2.2.2.2, by rw [Int.toNat_of_nonneg h2.2.2.1], rfl⟩
    · cases h
  · cases h
theorem con5 : Contract Try.prog 5 (DetP F5) := by
  refine contract_pure (Known.cons con24 (Known.cons con25 (Known.cons con26 (Known.cons con27 (Known.cons con28 (Known.cons con29 (Known.cons con30 (Known.cons con31 (Known.cons con32 (Known.cons con33 (Known.cons con34 (Known.cons con35 (Known.cons con36 Known.nil)))))))))))))
    Try.func5 (by kernel_rfl) rfl comp5 rfl (by kernel_rfl) ?_
  intro ps p h
  obtain ⟨a, xs, n, x, s, b, ha, hx, hn, hx2, hs, rfl, rfl⟩ := F5_some h
  refine ⟨(by decide : 5 ≤ Try.f5.ntmps), ?_⟩
  clear h
  repeat' first
    | (with_reducible refine bo_run ?_); conv => whnf
    | (with_reducible refine bw_run ?_); conv => whnf
    | (with_reducible refine Br.tt ?_); conv => whnf
    | (with_reducible refine Br.ff ?_); conv => whnf
    | (with_reducible refine br_not ?_)
    | (with_reducible refine br_dec_tt (by assumption) ?_); conv => whnf
    | (with_reducible refine br_dec_ff (by assumption) ?_); conv => whnf
    | (with_reducible refine br_dec_intro (fun _ => ?_) (fun _ => ?_)) <;> conv => whnf
    | (with_reducible refine br_beq_tt (by assumption) ?_); conv => whnf
    | (with_reducible refine br_beq_ff (by assumption) ?_); conv => whnf
    | (with_reducible refine br_beq_intro (fun _ => ?_) (fun _ => ?_)) <;> conv => whnf
    | (with_reducible refine br_bne_tt (by assumption) ?_); conv => whnf
    | (with_reducible refine br_bne_ff (by assumption) ?_); conv => whnf
    | (with_reducible refine br_bne_intro (fun _ => ?_) (fun _ => ?_)) <;> conv => whnf
    | (with_reducible refine br_of_true (by assumption) ?_); conv => whnf
    | (with_reducible refine br_of_false (by assumption) ?_); conv => whnf
    | (with_reducible refine br_intro (fun _ => ?_) (fun _ => ?_)) <;> conv => whnf
    | (with_reducible refine and_rfl ?_); conv => whnf
    | (refine and_late (fun _ => ?_) (by first | omega | (show _ = _; rfl) | (simp only [List.length_map, List.length_append, pbytes, Nat.mul_one, List.length_cons, List.length_nil]; done) | (simp only [List.length_map, List.length_append, pbytes, Nat.mul_one, List.length_cons, List.length_nil]; omega))); conv => whnf
    | (with_reducible refine and_late (fun _ => ?_) ?_); conv => whnf
    | (refine call_pure rfl rfl (.inl rfl) ?_); conv => whnf
    | (with_reducible refine Both.mk ?_ ?_) <;> conv => whnf
    | (refine ⟨_, rfl, ?_⟩); conv => whnf
    | (refine ⟨_, unbytes_pbytes _, ?_⟩); conv => whnf
    | exact ⟨_, _, rfl, rfl⟩
    | fail
  refine call_own rfl (F24_eq ha (by omega)) (.inl rfl) ?_
  conv => whnf
  repeat' first
    | (with_reducible refine bo_run ?_); conv => whnf
    | (with_reducible refine bw_run ?_); conv => whnf
    | (with_reducible refine Br.tt ?_); conv => whnf
    | (with_reducible refine Br.ff ?_); conv => whnf
    | (with_reducible refine br_not ?_)
    | (with_reducible refine br_dec_tt (by assumption) ?_); conv => whnf
    | (with_reducible refine br_dec_ff (by assumption) ?_); conv => whnf
    | (with_reducible refine br_dec_intro (fun _ => ?_) (fun _ => ?_)) <;> conv => whnf
    | (with_reducible refine br_beq_tt (by assumption) ?_); conv => whnf
    | (with_reducible refine br_beq_ff (by assumption) ?_); conv => whnf
    | (with_reducible refine br_beq_intro (fun _ => ?_) (fun _ => ?_)) <;> conv => whnf
    | (with_reducible refine br_bne_tt (by assumption) ?_); conv => whnf
    | (with_reducible refine br_bne_ff (by assumption) ?_); conv => whnf
    | (with_reducible refine br_bne_intro (fun _ => ?_) (fun _ => ?_)) <;> conv => whnf
    | (with_reducible refine br_of_true (by assumption) ?_); conv => whnf
    | (with_reducible refine br_of_false (by assumption) ?_); conv => whnf
    | (with_reducible refine br_intro (fun _ => ?_) (fun _ => ?_)) <;> conv => whnf
    | (with_reducible refine and_rfl ?_); conv => whnf
    | (refine and_late (fun _ => ?_) (by first | omega | (show _ = _; rfl) | (simp only [List.length_map, List.length_append, pbytes, Nat.mul_one, List.length_cons, List.length_nil]; done) | (simp only [List.length_map, List.length_append, pbytes, Nat.mul_one, List.length_cons, List.length_nil]; omega))); conv => whnf
    | (with_reducible refine and_late (fun _ => ?_) ?_); conv => whnf
    | (refine call_pure rfl rfl (.inl rfl) ?_); conv => whnf
    | (with_reducible refine Both.mk ?_ ?_) <;> conv => whnf
    | (refine ⟨_, rfl, ?_⟩); conv => whnf
    | (refine ⟨_, unbytes_pbytes _, ?_⟩); conv => whnf
    | exact ⟨_, _, rfl, rfl⟩
    | fail
  refine call_own rfl (F26_eq ha (by omega) hn) (.inl rfl) ?_
  conv => whnf
  repeat' first
    | (with_reducible refine bo_run ?_); conv => whnf
    | (with_reducible refine bw_run ?_); conv => whnf
    | (with_reducible refine Br.tt ?_); conv => whnf
    | (with_reducible refine Br.ff ?_); conv => whnf
    | (with_reducible refine br_not ?_)
    | (with_reducible refine br_dec_tt (by assumption) ?_); conv => whnf
    | (with_reducible refine br_dec_ff (by assumption) ?_); conv => whnf
    | (with_reducible refine br_dec_intro (fun _ => ?_) (fun _ => ?_)) <;> conv => whnf
    | (with_reducible refine br_beq_tt (by assumption) ?_); conv => whnf
    | (with_reducible refine br_beq_ff (by assumption) ?_); conv => whnf
    | (with_reducible refine br_beq_intro (fun _ => ?_) (fun _ => ?_)) <;> conv => whnf
    | (with_reducible refine br_bne_tt (by assumption) ?_); conv => whnf
    | (with_reducible refine br_bne_ff (by assumption) ?_); conv => whnf
    | (with_reducible refine br_bne_intro (fun _ => ?_) (fun _ => ?_)) <;> conv => whnf
    | (with_reducible refine br_of_true (by assumption) ?_); conv => whnf
    | (with_reducible refine br_of_false (by assumption) ?_); conv => whnf
    | (with_reducible refine br_intro (fun _ => ?_) (fun _ => ?_)) <;> conv => whnf
    | (with_reducible refine and_rfl ?_); conv => whnf
    | (refine and_late (fun _ => ?_) (by first | omega | (show _ = _; rfl) | (simp only [List.length_map, List.length_append, pbytes, Nat.mul_one, List.length_cons, List.length_nil]; done) | (simp only [List.length_map, List.length_append, pbytes, Nat.mul_one, List.length_cons, List.length_nil]; omega))); conv => whnf
    | (with_reducible refine and_late (fun _ => ?_) ?_); conv => whnf
    | (refine call_pure rfl rfl (.inl rfl) ?_); conv => whnf
    | (with_reducible refine Both.mk ?_ ?_) <;> conv => whnf
    | (refine ⟨_, rfl, ?_⟩); conv => whnf
    | (refine ⟨_, unbytes_pbytes _, ?_⟩); conv => whnf
    | exact ⟨_, _, rfl, rfl⟩
    | fail
  refine call_own (snaps1 rfl) (F26_eq (asB_sl xs) (by omega) hn) (.inr (noSlPs_pb _)) ?_
  conv => whnf
  repeat' first
    | (with_reducible refine bo_run ?_); conv => whnf
    | (with_reducible refine bw_run ?_); conv => whnf
    | (with_reducible refine Br.tt ?_); conv => whnf
    | (with_reducible refine Br.ff ?_); conv => whnf
    | (with_reducible refine br_not ?_)
    | (with_reducible refine br_dec_tt (by assumption) ?_); conv => whnf
    | (with_reducible refine br_dec_ff (by assumption) ?_); conv => whnf
    | (with_reducible refine br_dec_intro (fun _ => ?_) (fun _ => ?_)) <;> conv => whnf
    | (with_reducible refine br_beq_tt (by assumption) ?_); conv => whnf
    | (with_reducible refine br_beq_ff (by assumption) ?_); conv => whnf
    | (with_reducible refine br_beq_intro (fun _ => ?_) (fun _ => ?_)) <;> conv => whnf
    | (with_reducible refine br_bne_tt (by assumption) ?_); conv => whnf
    | (with_reducible refine br_bne_ff (by assumption) ?_); conv => whnf
    | (with_reducible refine br_bne_intro (fun _ => ?_) (fun _ => ?_)) <;> conv => whnf
    | (with_reducible refine br_of_true (by assumption) ?_); conv => whnf
    | (with_reducible refine br_of_false (by assumption) ?_); conv => whnf
    | (with_reducible refine br_intro (fun _ => ?_) (fun _ => ?_)) <;> conv => whnf
    | (with_reducible refine and_rfl ?_); conv => whnf
    | (refine and_late (fun _ => ?_) (by first | omega | (show _ = _; rfl) | (simp only [List.length_map, List.length_append, pbytes, Nat.mul_one, List.length_cons, List.length_nil]; done) | (simp only [List.length_map, List.length_append, pbytes, Nat.mul_one, List.length_cons, List.length_nil]; omega))); conv => whnf
    | (with_reducible refine and_late (fun _ => ?_) ?_); conv => whnf
    | (refine call_pure rfl rfl (.inl rfl) ?_); conv => whnf
    | (with_reducible refine Both.mk ?_ ?_) <;> conv => whnf
    | (refine ⟨_, rfl, ?_⟩); conv => whnf
    | (refine ⟨_, unbytes_pbytes _, ?_⟩); conv => whnf
    | exact ⟨_, _, rfl, rfl⟩
    | fail
  refine call_pure (snaps2 rfl rfl) F25_same (.inr rfl) ?_
  conv => whnf
  repeat' first
    | (with_reducible refine bo_run ?_); conv => whnf
    | (with_reducible refine bw_run ?_); conv => whnf
    | (with_reducible refine Br.tt ?_); conv => whnf
    | (with_reducible refine Br.ff ?_); conv => whnf
    | (with_reducible refine br_not ?_)
    | (with_reducible refine br_dec_tt (by assumption) ?_); conv => whnf
    | (with_reducible refine br_dec_ff (by assumption) ?_); conv => whnf
    | (with_reducible refine br_dec_intro (fun _ => ?_) (fun _ => ?_)) <;> conv => whnf
    | (with_reducible refine br_beq_tt (by assumption) ?_); conv => whnf
    | (with_reducible refine br_beq_ff (by assumption) ?_); conv => whnf
    | (with_reducible refine br_beq_intro (fun _ => ?_) (fun _ => ?_)) <;> conv => whnf
    | (with_reducible refine br_bne_tt (by assumption) ?_); conv => whnf
    | (with_reducible refine br_bne_ff (by assumption) ?_); conv => whnf
    | (with_reducible refine br_bne_intro (fun _ => ?_) (fun _ => ?_)) <;> conv => whnf
    | (with_reducible refine br_of_true (by assumption) ?_); conv => whnf
    | (with_reducible refine br_of_false (by assumption) ?_); conv => whnf
    | (with_reducible refine br_intro (fun _ => ?_) (fun _ => ?_)) <;> conv => whnf
    | (with_reducible refine and_rfl ?_); conv => whnf
    | (refine and_late (fun _ => ?_) (by first | omega | (show _ = _; rfl) | (simp only [List.length_map, List.length_append, pbytes, Nat.mul_one, List.length_cons, List.length_nil]; done) | (simp only [List.length_map, List.length_append, pbytes, Nat.mul_one, List.length_cons, List.length_nil]; omega))); conv => whnf
    | (with_reducible refine and_late (fun _ => ?_) ?_); conv => whnf
    | (refine call_pure rfl rfl (.inl rfl) ?_); conv => whnf
    | (with_reducible refine Both.mk ?_ ?_) <;> conv => whnf
    | (refine ⟨_, rfl, ?_⟩); conv => whnf
    | (refine ⟨_, unbytes_pbytes _, ?_⟩); conv => whnf
    | exact ⟨_, _, rfl, rfl⟩
    | fail
  refine call_own rfl (F28_eq ha (by omega)) (.inl rfl) ?_
  conv => whnf
  repeat' first
    | (with_reducible refine bo_run ?_); conv => whnf
    | (with_reducible refine bw_run ?_); conv => whnf
    | (with_reducible refine Br.tt ?_); conv => whnf
    | (with_reducible refine Br.ff ?_); conv => whnf
    | (with_reducible refine br_not ?_)
    | (with_reducible refine br_dec_tt (by assumption) ?_); conv => whnf
    | (with_reducible refine br_dec_ff (by assumption) ?_); conv => whnf
    | (with_reducible refine br_dec_intro (fun _ => ?_) (fun _ => ?_)) <;> conv => whnf
    | (with_reducible refine br_beq_tt (by assumption) ?_); conv => whnf
    | (with_reducible refine br_beq_ff (by assumption) ?_); conv => whnf
    | (with_reducible refine br_beq_intro (fun _ => ?_) (fun _ => ?_)) <;> conv => whnf
    | (with_reducible refine br_bne_tt (by assumption) ?_); conv => whnf
    | (with_reducible refine br_bne_ff (by assumption) ?_); conv => whnf
    | (with_reducible refine br_bne_intro (fun _ => ?_) (fun _ => ?_)) <;> conv => whnf
    | (with_reducible refine br_of_true (by assumption) ?_); conv => whnf
    | (with_reducible refine br_of_false (by assumption) ?_); conv => whnf
    | (with_reducible refine br_intro (fun _ => ?_) (fun _ => ?_)) <;> conv => whnf
    | (with_reducible refine and_rfl ?_); conv => whnf
    | (refine and_late (fun _ => ?_) (by first | omega | (show _ = _; rfl) | (simp only [List.length_map, List.length_append, pbytes, Nat.mul_one, List.length_cons, List.length_nil]; done) | (simp only [List.length_map, List.length_append, pbytes, Nat.mul_one, List.length_cons, List.length_nil]; omega))); conv => whnf
    | (with_reducible refine and_late (fun _ => ?_) ?_); conv => whnf
    | (refine call_pure rfl rfl (.inl rfl) ?_); conv => whnf
    | (with_reducible refine Both.mk ?_ ?_) <;> conv => whnf
    | (refine ⟨_, rfl, ?_⟩); conv => whnf
    | (refine ⟨_, unbytes_pbytes _, ?_⟩); conv => whnf
    | exact ⟨_, _, rfl, rfl⟩
    | fail
  refine call_own (snaps1 rfl) (F28_eq (asB_sl xs) (by omega)) (.inr (noSlPs_pb _)) ?_
  conv => whnf
  repeat' first
    | (with_reducible refine bo_run ?_); conv => whnf
    | (with_reducible refine bw_run ?_); conv => whnf
    | (with_reducible refine Br.tt ?_); conv => whnf
    | (with_reducible refine Br.ff ?_); conv => whnf
    | (with_reducible refine br_not ?_)
    | (with_reducible refine br_dec_tt (by assumption) ?_); conv => whnf
    | (with_reducible refine br_dec_ff (by assumption) ?_); conv => whnf
    | (with_reducible refine br_dec_intro (fun _ => ?_) (fun _ => ?_)) <;> conv => whnf
    | (with_reducible refine br_beq_tt (by assumption) ?_); conv => whnf
    | (with_reducible refine br_beq_ff (by assumption) ?_); conv => whnf
    | (with_reducible refine br_beq_intro (fun _ => ?_) (fun _ => ?_)) <;> conv => whnf
    | (with_reducible refine br_bne_tt (by assumption) ?_); conv => whnf
    | (with_reducible refine br_bne_ff (by assumption) ?_); conv => whnf
    | (with_reducible refine br_bne_intro (fun _ => ?_) (fun _ => ?_)) <;> conv => whnf
    | (with_reducible refine br_of_true (by assumption) ?_); conv => whnf
    | (with_reducible refine br_of_false (by assumption) ?_); conv => whnf
    | (with_reducible refine br_intro (fun _ => ?_) (fun _ => ?_)) <;> conv => whnf
    | (with_reducible refine and_rfl ?_); conv => whnf
    | (refine and_late (fun _ => ?_) (by first | omega | (show _ = _; rfl) | (simp only [List.length_map, List.length_append, pbytes, Nat.mul_one, List.length_cons, List.length_nil]; done) | (simp only [List.length_map, List.length_append, pbytes, Nat.mul_one, List.length_cons, List.length_nil]; omega))); conv => whnf
    | (with_reducible refine and_late (fun _ => ?_) ?_); conv => whnf
    | (refine call_pure rfl rfl (.inl rfl) ?_); conv => whnf
    | (with_reducible refine Both.mk ?_ ?_) <;> conv => whnf
    | (refine ⟨_, rfl, ?_⟩); conv => whnf
    | (refine ⟨_, unbytes_pbytes _, ?_⟩); conv => whnf
    | exact ⟨_, _, rfl, rfl⟩
    | fail
  refine call_pure (snaps2 rfl rfl) F25_same (.inr rfl) ?_
  conv => whnf
  repeat' first
    | (with_reducible refine bo_run ?_); conv => whnf
    | (with_reducible refine bw_run ?_); conv => whnf
    | (with_reducible refine Br.tt ?_); conv => whnf
    | (with_reducible refine Br.ff ?_); conv => whnf
    | (with_reducible refine br_not ?_)
    | (with_reducible refine br_dec_tt (by assumption) ?_); conv => whnf
    | (with_reducible refine br_dec_ff (by assumption) ?_); conv => whnf
    | (with_reducible refine br_dec_intro (fun _ => ?_) (fun _ => ?_)) <;> conv => whnf
    | (with_reducible refine br_beq_tt (by assumption) ?_); conv => whnf
    | (with_reducible refine br_beq_ff (by assumption) ?_); conv => whnf
    | (with_reducible refine br_beq_intro (fun _ => ?_) (fun _ => ?_)) <;> conv => whnf
    | (with_reducible refine br_bne_tt (by assumption) ?_); conv => whnf
    | (with_reducible refine br_bne_ff (by assumption) ?_); conv => whnf
    | (with_reducible refine br_bne_intro (fun _ => ?_) (fun _ => ?_)) <;> conv => whnf
    | (with_reducible refine br_of_true (by assumption) ?_); conv => whnf
    | (with_reducible refine br_of_false (by assumption) ?_); conv => whnf
    | (with_reducible refine br_intro (fun _ => ?_) (fun _ => ?_)) <;> conv => whnf
    | (with_reducible refine and_rfl ?_); conv => whnf
    | (refine and_late (fun _ => ?_) (by first | omega | (show _ = _; rfl) | (simp only [List.length_map, List.length_append, pbytes, Nat.mul_one, List.length_cons, List.length_nil]; done) | (simp only [List.length_map, List.length_append, pbytes, Nat.mul_one, List.length_cons, List.length_nil]; omega))); conv => whnf
    | (with_reducible refine and_late (fun _ => ?_) ?_); conv => whnf
    | (refine call_pure rfl rfl (.inl rfl) ?_); conv => whnf
    | (with_reducible refine Both.mk ?_ ?_) <;> conv => whnf
    | (refine ⟨_, rfl, ?_⟩); conv => whnf
    | (refine ⟨_, unbytes_pbytes _, ?_⟩); conv => whnf
    | exact ⟨_, _, rfl, rfl⟩
    | fail
  refine call_own rfl (F30_eq ha (by omega) hx2) (.inl rfl) ?_
  conv => whnf
  repeat' first
    | (with_reducible refine bo_run ?_); conv => whnf
    | (with_reducible refine bw_run ?_); conv => whnf
    | (with_reducible refine Br.tt ?_); conv => whnf
    | (with_reducible refine Br.ff ?_); conv => whnf
    | (with_reducible refine br_not ?_)
    | (with_reducible refine br_dec_tt (by assumption) ?_); conv => whnf
    | (with_reducible refine br_dec_ff (by assumption) ?_); conv => whnf
    | (with_reducible refine br_dec_intro (fun _ => ?_) (fun _ => ?_)) <;> conv => whnf
    | (with_reducible refine br_beq_tt (by assumption) ?_); conv => whnf
    | (with_reducible refine br_beq_ff (by assumption) ?_); conv => whnf
    | (with_reducible refine br_beq_intro (fun _ => ?_) (fun _ => ?_)) <;> conv => whnf
    | (with_reducible refine br_bne_tt (by assumption) ?_); conv => whnf
    | (with_reducible refine br_bne_ff (by assumption) ?_); conv => whnf
    | (with_reducible refine br_bne_intro (fun _ => ?_) (fun _ => ?_)) <;> conv => whnf
    | (with_reducible refine br_of_true (by assumption) ?_); conv => whnf
    | (with_reducible refine br_of_false (by assumption) ?_); conv => whnf
    | (with_reducible refine br_intro (fun _ => ?_) (fun _ => ?_)) <;> conv => whnf
    | (with_reducible refine and_rfl ?_); conv => whnf
    | (refine and_late (fun _ => ?_) (by first | omega | (show _ = _; rfl) | (simp only [List.length_map, List.length_append, pbytes, Nat.mul_one, List.length_cons, List.length_nil]; done) | (simp only [List.length_map, List.length_append, pbytes, Nat.mul_one, List.length_cons, List.length_nil]; omega))); conv => whnf
    | (with_reducible refine and_late (fun _ => ?_) ?_); conv => whnf
    | (refine call_pure rfl rfl (.inl rfl) ?_); conv => whnf
    | (with_reducible refine Both.mk ?_ ?_) <;> conv => whnf
    | (refine ⟨_, rfl, ?_⟩); conv => whnf
    | (refine ⟨_, unbytes_pbytes _, ?_⟩); conv => whnf
    | exact ⟨_, _, rfl, rfl⟩
    | fail
  refine call_own (snaps1 rfl) (F30_eq (asB_sl xs) (by omega) hx2) (.inr (noSlPs_pb _)) ?_
  conv => whnf
  repeat' first
    | (with_reducible refine bo_run ?_); conv => whnf
    | (with_reducible refine bw_run ?_); conv => whnf
    | (with_reducible refine Br.tt ?_); conv => whnf
    | (with_reducible refine Br.ff ?_); conv => whnf
    | (with_reducible refine br_not ?_)
    | (with_reducible refine br_dec_tt (by assumption) ?_); conv => whnf
    | (with_reducible refine br_dec_ff (by assumption) ?_); conv => whnf
    | (with_reducible refine br_dec_intro (fun _ => ?_) (fun _ => ?_)) <;> conv => whnf
    | (with_reducible refine br_beq_tt (by assumption) ?_); conv => whnf
    | (with_reducible refine br_beq_ff (by assumption) ?_); conv => whnf
    | (with_reducible refine br_beq_intro (fun _ => ?_) (fun _ => ?_)) <;> conv => whnf
    | (with_reducible refine br_bne_tt (by assumption) ?_); conv => whnf
    | (with_reducible refine br_bne_ff (by assumption) ?_); conv => whnf
    | (with_reducible refine br_bne_intro (fun _ => ?_) (fun _ => ?_)) <;> conv => whnf
    | (with_reducible refine br_of_true (by assumption) ?_); conv => whnf
    | (with_reducible refine br_of_false (by assumption) ?_); conv => whnf
    | (with_reducible refine br_intro (fun _ => ?_) (fun _ => ?_)) <;> conv => whnf
    | (with_reducible refine and_rfl ?_); conv => whnf
    | (refine and_late (fun _ => ?_) (by first | omega | (show _ = _; rfl) | (simp only [List.length_map, List.length_append, pbytes, Nat.mul_one, List.length_cons, List.length_nil]; done) | (simp only [List.length_map, List.length_append, pbytes, Nat.mul_one, List.length_cons, List.length_nil]; omega))); conv => whnf
    | (with_reducible refine and_late (fun _ => ?_) ?_); conv => whnf
    | (refine call_pure rfl rfl (.inl rfl) ?_); conv => whnf
    | (with_reducible refine Both.mk ?_ ?_) <;> conv => whnf
    | (refine ⟨_, rfl, ?_⟩); conv => whnf
    | (refine ⟨_, unbytes_pbytes _, ?_⟩); conv => whnf
    | exact ⟨_, _, rfl, rfl⟩
    | fail
  refine call_pure (snaps2 rfl rfl) F25_same (.inr rfl) ?_
  conv => whnf
  repeat' first
    | (with_reducible refine bo_run ?_); conv => whnf
    | (with_reducible refine bw_run ?_); conv => whnf
    | (with_reducible refine Br.tt ?_); conv => whnf
    | (with_reducible refine Br.ff ?_); conv => whnf
    | (with_reducible refine br_not ?_)
    | (with_reducible refine br_dec_tt (by assumption) ?_); conv => whnf
    | (with_reducible refine br_dec_ff (by assumption) ?_); conv => whnf
    | (with_reducible refine br_dec_intro (fun _ => ?_) (fun _ => ?_)) <;> conv => whnf
    | (with_reducible refine br_beq_tt (by assumption) ?_); conv => whnf
    | (with_reducible refine br_beq_ff (by assumption) ?_); conv => whnf
    | (with_reducible refine br_beq_intro (fun _ => ?_) (fun _ => ?_)) <;> conv => whnf
    | (with_reducible refine br_bne_tt (by assumption) ?_); conv => whnf
    | (with_reducible refine br_bne_ff (by assumption) ?_); conv => whnf
    | (with_reducible refine br_bne_intro (fun _ => ?_) (fun _ => ?_)) <;> conv => whnf
    | (with_reducible refine br_of_true (by assumption) ?_); conv => whnf
    | (with_reducible refine br_of_false (by assumption) ?_); conv => whnf
    | (with_reducible refine br_intro (fun _ => ?_) (fun _ => ?_)) <;> conv => whnf
    | (with_reducible refine and_rfl ?_); conv => whnf
    | (refine and_late (fun _ => ?_) (by first | omega | (show _ = _; rfl) | (simp only [List.length_map, List.length_append, pbytes, Nat.mul_one, List.length_cons, List.length_nil]; done) | (simp only [List.length_map, List.length_append, pbytes, Nat.mul_one, List.length_cons, List.length_nil]; omega))); conv => whnf
    | (with_reducible refine and_late (fun _ => ?_) ?_); conv => whnf
    | (refine call_pure rfl rfl (.inl rfl) ?_); conv => whnf
    | (with_reducible refine Both.mk ?_ ?_) <;> conv => whnf
    | (refine ⟨_, rfl, ?_⟩); conv => whnf
    | (refine ⟨_, unbytes_pbytes _, ?_⟩); conv => whnf
    | exact ⟨_, _, rfl, rfl⟩
    | fail
  refine call_own rfl (F32_eq ha (by omega) (by omega)) (.inl rfl) ?_
  conv => whnf
  repeat' first
    | (with_reducible refine bo_run ?_); conv => whnf
    | (with_reducible refine bw_run ?_); conv => whnf
    | (with_reducible refine Br.tt ?_); conv => whnf
    | (with_reducible refine Br.ff ?_); conv => whnf
    | (with_reducible refine br_not ?_)
    | (with_reducible refine br_dec_tt (by assumption) ?_); conv => whnf
    | (with_reducible refine br_dec_ff (by assumption) ?_); conv => whnf
    | (with_reducible refine br_dec_intro (fun _ => ?_) (fun _ => ?_)) <;> conv => whnf
    | (with_reducible refine br_beq_tt (by assumption) ?_); conv => whnf
    | (with_reducible refine br_beq_ff (by assumption) ?_); conv => whnf
    | (with_reducible refine br_beq_intro (fun _ => ?_) (fun _ => ?_)) <;> conv => whnf
    | (with_reducible refine br_bne_tt (by assumption) ?_); conv => whnf
    | (with_reducible refine br_bne_ff (by assumption) ?_); conv => whnf
    | (with_reducible refine br_bne_intro (fun _ => ?_) (fun _ => ?_)) <;> conv => whnf
    | (with_reducible refine br_of_true (by assumption) ?_); conv => whnf
    | (with_reducible refine br_of_false (by assumption) ?_); conv => whnf
    | (with_reducible refine br_intro (fun _ => ?_) (fun _ => ?_)) <;> conv => whnf
    | (with_reducible refine and_rfl ?_); conv => whnf
    | (refine and_late (fun _ => ?_) (by first | omega | (show _ = _; rfl) | (simp only [List.length_map, List.length_append, pbytes, Nat.mul_one, List.length_cons, List.length_nil]; done) | (simp only [List.length_map, List.length_append, pbytes, Nat.mul_one, List.length_cons, List.length_nil]; omega))); conv => whnf
    | (with_reducible refine and_late (fun _ => ?_) ?_); conv => whnf
    | (refine call_pure rfl rfl (.inl rfl) ?_); conv => whnf
    | (with_reducible refine Both.mk ?_ ?_) <;> conv => whnf
    | (refine ⟨_, rfl, ?_⟩); conv => whnf
    | (refine ⟨_, unbytes_pbytes _, ?_⟩); conv => whnf
    | exact ⟨_, _, rfl, rfl⟩
    | fail
  refine call_own (snaps1 rfl) (F32_eq (asB_sl xs) (by omega) (by omega)) (.inr (noSlPs_pb _)) ?_
  conv => whnf
  repeat' first
    | (with_reducible refine bo_run ?_); conv => whnf
    | (with_reducible refine bw_run ?_); conv => whnf
    | (with_reducible refine Br.tt ?_); conv => whnf
    | (with_reducible refine Br.ff ?_); conv => whnf
    | (with_reducible refine br_not ?_)
    | (with_reducible refine br_dec_tt (by assumption) ?_); conv => whnf
    | (with_reducible refine br_dec_ff (by assumption) ?_); conv => whnf
    | (with_reducible refine br_dec_intro (fun _ => ?_) (fun _ => ?_)) <;> conv => whnf
    | (with_reducible refine br_beq_tt (by assumption) ?_); conv => whnf
    | (with_reducible refine br_beq_ff (by assumption) ?_); conv => whnf
    | (with_reducible refine br_beq_intro (fun _ => ?_) (fun _ => ?_)) <;> conv => whnf
    | (with_reducible refine br_bne_tt (by assumption) ?_); conv => whnf
    | (with_reducible refine br_bne_ff (by assumption) ?_); conv => whnf
    | (with_reducible refine br_bne_intro (fun _ => ?_) (fun _ => ?_)) <;> conv => whnf
    | (with_reducible refine br_of_true (by assumption) ?_); conv => whnf
    | (with_reducible refine br_of_false (by assumption) ?_); conv => whnf
    | (with_reducible refine br_intro (fun _ => ?_) (fun _ => ?_)) <;> conv => whnf
    | (with_reducible refine and_rfl ?_); conv => whnf
    | (refine and_late (fun _ => ?_) (by first | omega | (show _ = _; rfl) | (simp only [List.length_map, List.length_append, pbytes, Nat.mul_one, List.length_cons, List.length_nil]; done) | (simp only [List.length_map, List.length_append, pbytes, Nat.mul_one, List.length_cons, List.length_nil]; omega))); conv => whnf
    | (with_reducible refine and_late (fun _ => ?_) ?_); conv => whnf
    | (refine call_pure rfl rfl (.inl rfl) ?_); conv => whnf
    | (with_reducible refine Both.mk ?_ ?_) <;> conv => whnf
    | (refine ⟨_, rfl, ?_⟩); conv => whnf
    | (refine ⟨_, unbytes_pbytes _, ?_⟩); conv => whnf
    | exact ⟨_, _, rfl, rfl⟩
    | fail
  refine call_pure (snaps2 rfl rfl) F25_same (.inr rfl) ?_
  conv => whnf
  repeat' first
    | (with_reducible refine bo_run ?_); conv => whnf
    | (with_reducible refine bw_run ?_); conv => whnf
    | (with_reducible refine Br.tt ?_); conv => whnf
    | (with_reducible refine Br.ff ?_); conv => whnf
    | (with_reducible refine br_not ?_)
    | (with_reducible refine br_dec_tt (by assumption) ?_); conv => whnf
    | (with_reducible refine br_dec_ff (by assumption) ?_); conv => whnf
    | (with_reducible refine br_dec_intro (fun _ => ?_) (fun _ => ?_)) <;> conv => whnf
    | (with_reducible refine br_beq_tt (by assumption) ?_); conv => whnf
    | (with_reducible refine br_beq_ff (by assumption) ?_); conv => whnf
    | (with_reducible refine br_beq_intro (fun _ => ?_) (fun _ => ?_)) <;> conv => whnf
    | (with_reducible refine br_bne_tt (by assumption) ?_); conv => whnf
    | (with_reducible refine br_bne_ff (by assumption) ?_); conv => whnf
    | (with_reducible refine br_bne_intro (fun _ => ?_) (fun _ => ?_)) <;> conv => whnf
    | (with_reducible refine br_of_true (by assumption) ?_); conv => whnf
    | (with_reducible refine br_of_false (by assumption) ?_); conv => whnf
    | (with_reducible refine br_intro (fun _ => ?_) (fun _ => ?_)) <;> conv => whnf
    | (with_reducible refine and_rfl ?_); conv => whnf
    | (refine and_late (fun _ => ?_) (by first | omega | (show _ = _; rfl) | (simp only [List.length_map, List.length_append, pbytes, Nat.mul_one, List.length_cons, List.length_nil]; done) | (simp only [List.length_map, List.length_append, pbytes, Nat.mul_one, List.length_cons, List.length_nil]; omega))); conv => whnf
    | (with_reducible refine and_late (fun _ => ?_) ?_); conv => whnf
    | (refine call_pure rfl rfl (.inl rfl) ?_); conv => whnf
    | (with_reducible refine Both.mk ?_ ?_) <;> conv => whnf
    | (refine ⟨_, rfl, ?_⟩); conv => whnf
    | (refine ⟨_, unbytes_pbytes _, ?_⟩); conv => whnf
    | exact ⟨_, _, rfl, rfl⟩
    | fail
  refine call_own rfl (F34_eq ha (by omega)) (.inl rfl) ?_
  conv => whnf
  repeat' first
    | (with_reducible refine bo_run ?_); conv => whnf
    | (with_reducible refine bw_run ?_); conv => whnf
    | (with_reducible refine Br.tt ?_); conv => whnf
    | (with_reducible refine Br.ff ?_); conv => whnf
    | (with_reducible refine br_not ?_)
    | (with_reducible refine br_dec_tt (by assumption) ?_); conv => whnf
    | (with_reducible refine br_dec_ff (by assumption) ?_); conv => whnf
    | (with_reducible refine br_dec_intro (fun _ => ?_) (fun _ => ?_)) <;> conv => whnf
    | (with_reducible refine br_beq_tt (by assumption) ?_); conv => whnf
    | (with_reducible refine br_beq_ff (by assumption) ?_); conv => whnf
    | (with_reducible refine br_beq_intro (fun _ => ?_) (fun _ => ?_)) <;> conv => whnf
    | (with_reducible refine br_bne_tt (by assumption) ?_); conv => whnf
    | (with_reducible refine br_bne_ff (by assumption) ?_); conv => whnf
    | (with_reducible refine br_bne_intro (fun _ => ?_) (fun _ => ?_)) <;> conv => whnf
    | (with_reducible refine br_of_true (by assumption) ?_); conv => whnf
    | (with_reducible refine br_of_false (by assumption) ?_); conv => whnf
    | (with_reducible refine br_intro (fun _ => ?_) (fun _ => ?_)) <;> conv => whnf
    | (with_reducible refine and_rfl ?_); conv => whnf
    | (refine and_late (fun _ => ?_) (by first | omega | (show _ = _; rfl) | (simp only [List.length_map, List.length_append, pbytes, Nat.mul_one, List.length_cons, List.length_nil]; done) | (simp only [List.length_map, List.length_append, pbytes, Nat.mul_one, List.length_cons, List.length_nil]; omega))); conv => whnf
    | (with_reducible refine and_late (fun _ => ?_) ?_); conv => whnf
    | (refine call_pure rfl rfl (.inl rfl) ?_); conv => whnf
    | (with_reducible refine Both.mk ?_ ?_) <;> conv => whnf
    | (refine ⟨_, rfl, ?_⟩); conv => whnf
    | (refine ⟨_, unbytes_pbytes _, ?_⟩); conv => whnf
    | exact ⟨_, _, rfl, rfl⟩
    | fail
  refine call_own (snaps1 rfl) (F34_eq (asB_sl xs) (by omega)) (.inr (noSlPs_pb _)) ?_
  conv => whnf
  repeat' first
    | (with_reducible refine bo_run ?_); conv => whnf
    | (with_reducible refine bw_run ?_); conv => whnf
    | (with_reducible refine Br.tt ?_); conv => whnf
    | (with_reducible refine Br.ff ?_); conv => whnf
    | (with_reducible refine br_not ?_)
    | (with_reducible refine br_dec_tt (by assumption) ?_); conv => whnf
    | (with_reducible refine br_dec_ff (by assumption) ?_); conv => whnf
    | (with_reducible refine br_dec_intro (fun _ => ?_) (fun _ => ?_)) <;> conv => whnf
    | (with_reducible refine br_beq_tt (by assumption) ?_); conv => whnf
    | (with_reducible refine br_beq_ff (by assumption) ?_); conv => whnf
    | (with_reducible refine br_beq_intro (fun _ => ?_) (fun _ => ?_)) <;> conv => whnf
    | (with_reducible refine br_bne_tt (by assumption) ?_); conv => whnf
    | (with_reducible refine br_bne_ff (by assumption) ?_); conv => whnf
    | (with_reducible refine br_bne_intro (fun _ => ?_) (fun _ => ?_)) <;> conv => whnf
    | (with_reducible refine br_of_true (by assumption) ?_); conv => whnf
    | (with_reducible refine br_of_false (by assumption) ?_); conv => whnf
    | (with_reducible refine br_intro (fun _ => ?_) (fun _ => ?_)) <;> conv => whnf
    | (with_reducible refine and_rfl ?_); conv => whnf
    | (refine and_late (fun _ => ?_) (by first | omega | (show _ = _; rfl) | (simp only [List.length_map, List.length_append, pbytes, Nat.mul_one, List.length_cons, List.length_nil]; done) | (simp only [List.length_map, List.length_append, pbytes, Nat.mul_one, List.length_cons, List.length_nil]; omega))); conv => whnf
    | (with_reducible refine and_late (fun _ => ?_) ?_); conv => whnf
    | (refine call_pure rfl rfl (.inl rfl) ?_); conv => whnf
    | (with_reducible refine Both.mk ?_ ?_) <;> conv => whnf
    | (refine ⟨_, rfl, ?_⟩); conv => whnf
    | (refine ⟨_, unbytes_pbytes _, ?_⟩); conv => whnf
    | exact ⟨_, _, rfl, rfl⟩
    | fail
  refine call_pure (snaps2 rfl rfl) F25_same (.inr rfl) ?_
  conv => whnf
  repeat' first
    | (with_reducible refine bo_run ?_); conv => whnf
    | (with_reducible refine bw_run ?_); conv => whnf
    | (with_reducible refine Br.tt ?_); conv => whnf
    | (with_reducible refine Br.ff ?_); conv => whnf
    | (with_reducible refine br_not ?_)
    | (with_reducible refine br_dec_tt (by assumption) ?_); conv => whnf
    | (with_reducible refine br_dec_ff (by assumption) ?_); conv => whnf
    | (with_reducible refine br_dec_intro (fun _ => ?_) (fun _ => ?_)) <;> conv => whnf
    | (with_reducible refine br_beq_tt (by assumption) ?_); conv => whnf
    | (with_reducible refine br_beq_ff (by assumption) ?_); conv => whnf
    | (with_reducible refine br_beq_intro (fun _ => ?_) (fun _ => ?_)) <;> conv => whnf
    | (with_reducible refine br_bne_tt (by assumption) ?_); conv => whnf
    | (with_reducible refine br_bne_ff (by assumption) ?_); conv => whnf
    | (with_reducible refine br_bne_intro (fun _ => ?_) (fun _ => ?_)) <;> conv => whnf
    | (with_reducible refine br_of_true (by assumption) ?_); conv => whnf
    | (with_reducible refine br_of_false (by assumption) ?_); conv => whnf
    | (with_reducible refine br_intro (fun _ => ?_) (fun _ => ?_)) <;> conv => whnf
    | (with_reducible refine and_rfl ?_); conv => whnf
    | (refine and_late (fun _ => ?_) (by first | omega | (show _ = _; rfl) | (simp only [List.length_map, List.length_append, pbytes, Nat.mul_one, List.length_cons, List.length_nil]; done) | (simp only [List.length_map, List.length_append, pbytes, Nat.mul_one, List.length_cons, List.length_nil]; omega))); conv => whnf
    | (with_reducible refine and_late (fun _ => ?_) ?_); conv => whnf
    | (refine call_pure rfl rfl (.inl rfl) ?_); conv => whnf
    | (with_reducible refine Both.mk ?_ ?_) <;> conv => whnf
    | (refine ⟨_, rfl, ?_⟩); conv => whnf
    | (refine ⟨_, unbytes_pbytes _, ?_⟩); conv => whnf
    | exact ⟨_, _, rfl, rfl⟩
    | fail
  refine call_pure (snaps1' rfl) (F25_same' ha) (.inr rfl) ?_
  conv => whnf
  repeat' first
    | (with_reducible refine bo_run ?_); conv => whnf
    | (with_reducible refine bw_run ?_); conv => whnf
    | (with_reducible refine Br.tt ?_); conv => whnf
    | (with_reducible refine Br.ff ?_); conv => whnf
    | (with_reducible refine br_not ?_)
    | (with_reducible refine br_dec_tt (by assumption) ?_); conv => whnf
    | (with_reducible refine br_dec_ff (by assumption) ?_); conv => whnf
    | (with_reducible refine br_dec_intro (fun _ => ?_) (fun _ => ?_)) <;> conv => whnf
    | (with_reducible refine br_beq_tt (by assumption) ?_); conv => whnf
    | (with_reducible refine br_beq_ff (by assumption) ?_); conv => whnf
    | (with_reducible refine br_beq_intro (fun _ => ?_) (fun _ => ?_)) <;> conv => whnf
    | (with_reducible refine br_bne_tt (by assumption) ?_); conv => whnf
    | (with_reducible refine br_bne_ff (by assumption) ?_); conv => whnf
    | (with_reducible refine br_bne_intro (fun _ => ?_) (fun _ => ?_)) <;> conv => whnf
    | (with_reducible refine br_of_true (by assumption) ?_); conv => whnf
    | (with_reducible refine br_of_false (by assumption) ?_); conv => whnf
    | (with_reducible refine br_intro (fun _ => ?_) (fun _ => ?_)) <;> conv => whnf
    | (with_reducible refine and_rfl ?_); conv => whnf
    | (refine and_late (fun _ => ?_) (by first | omega | (show _ = _; rfl) | (simp only [List.length_map, List.length_append, pbytes, Nat.mul_one, List.length_cons, List.length_nil]; done) | (simp only [List.length_map, List.length_append, pbytes, Nat.mul_one, List.length_cons, List.length_nil]; omega))); conv => whnf
    | (with_reducible refine and_late (fun _ => ?_) ?_); conv => whnf
    | (refine call_pure rfl rfl (.inl rfl) ?_); conv => whnf
    | (with_reducible refine Both.mk ?_ ?_) <;> conv => whnf
    | (refine ⟨_, rfl, ?_⟩); conv => whnf
    | (refine ⟨_, unbytes_pbytes _, ?_⟩); conv => whnf
    | exact ⟨_, _, rfl, rfl⟩
    | fail
  all_goals rfl
end Go.Proofs.Ytdjgfjnnafddnaa
